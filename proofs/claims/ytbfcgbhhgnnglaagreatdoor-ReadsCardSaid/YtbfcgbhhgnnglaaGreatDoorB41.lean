/- Texts of mine, one behind the other; nothing is assumed. -/
import Derived.Test.YtbfcgbhhgnnglaaGreatDoorB40
import Derived.Test.YtbfcgbhhgnnglaaGreatDoorB24
import Derived.Laws.IdiomStrings
set_option autoImplicit true
set_option relaxedAutoImplicit true
set_option linter.unusedSimpArgs false
set_option linter.unusedVariables false
set_option maxRecDepth 100000
namespace Go.W.T
open Go Go.W Go.M Go.Proofs
def u8s(l:By):List Value:=l.map λc=>.int .u8 c.toNat
theorem Np(l:By):(u8s l).length=l.length:=List.length_map ..
theorem Gq:∀l:By,bytesOf (u8s l)=some l
 |[]=>rfl
 |c::r=>by
  show (bytesOf (u8s r)).map (λl=>UInt8.ofNat (((c.toNat:Nat):Int)).toNat::l)=_;rw[Gq r];simp
def BytesAt(w:World)(b:Nat)(l:By):Prop:=∃rest n,l.length<=n/\w.heap[b]?=some (clf (u8s l++rest) 5 (n,n+1))
theorem fF.bytes(h:∀c w',Kp [] w w'->BytesAt w' w.heap.size t->K (.slice (some ⟨w.heap.size,0,none⟩) t.length c) w'):fF P (convert 9 97 (κs t)) w K:=by
 refine fF.by (run_bytes_of_string w 9 97 5 (bs t) Tryz.underlying9 (by kernel_rfl) (by kernel_rfl)) ?_;rw[jO];refine h _ _ (((Kp.refl _ _).drew).alloc _) ⟨(Array.replicate (grownCap w t.length 0 5 - t.length) (Value.int .u8 0)).toList,(bytesRow (bs t) (grownCap w t.length 0 5)).size,by unfold bytesRow;simp[bs],?_⟩;rw[iw (by rfl)];have:bytesRow (bs t) (grownCap w t.length 0 5)=List.toArray (u8s t++(Array.replicate (grownCap w t.length 0 5 - t.length) (Value.int .u8 0)).toList):=by
  unfold bytesRow;rw[jO];apply Array.toList_inj.mp;simp[u8s,bs]
 rw[clf,<- this]
theorem St.byte(h:BytesAt w b l)(hi:i<l.length)(hc:c<256)
  (hK:∀w' l',Kp [(b,b+1)] w w'->l'.length=l.length->BytesAt w' b l'->K w'):St (pt b i) (.int .u8 (c:Nat)) w K:=by
 obtain⟨rest,n,hn,hb⟩:=h;refine⟨?_⟩;unfold StD;have hlen:i<(u8s l++rest).length:=by rw[List.length_append,Np];omega
 refine⟨rfl,?_,?_,?_⟩
 .refine⟨(u8s l++rest)[i],?_⟩;rw[jM,hb,Option.bind_some,fM];simp[List.getElem?_eq_getElem hlen]
 .rw[Ac,hb,Option.map_some,Option.getD_some];unfold Obj.frozenAt;simp;omega
 .rw[yJ hb];refine hK _ (l.set i (UInt8.ofNat c)) (Kp.yS (Kp.refl _ _) (by simp[Out]) _) smp ⟨rest,n,by simpa using hn,?_⟩;rw[mF hb];congr 2;apply Array.toList_inj.mp;simp only[Array.toList_setIfInBounds,u8s,List.map_set];rw[List.set_append_left _ _ (by simpa using hi)];congr 3;simp;omega
theorem CvB.bytes(h:BytesAt w b l)(hK:K (κs l)):CvB (.slice (some ⟨b,0,none⟩) l.length c) w K:=by
 obtain⟨rest,n,hn,hb⟩:=h;refine⟨?_⟩;unfold XT;have h1:eY w ⟨b,0,none⟩ 0 l.length=some (u8s l):=by
  have:∀(n i:Nat),i+n<=(u8s l++rest).length->eY w ⟨b,0,none⟩ i n=some (((u8s l++rest).drop i).take n):=by
   intro n;induction n with
   |zero=>intro i _;simp[eY]
   |succ n ih=>
    intro i hi;rw[eY,ih (i+1) omg];have:w.cell? (Addr.add ⟨b,0,none⟩ i)=some (u8s l++rest)[i]:=by
     rw[add_eq,jM,hb,Option.bind_some,fM,Nat.zero_add];simp[List.getElem?_eq_getElem (show i<(u8s l++rest).length by omega)]
    rw[this];simp only[List.drop_eq_getElem_cons (show i<(u8s l++rest).length by omega),List.take_succ_cons]
  rw[this l.length 0 (by rw[List.length_append,Np];omega),List.drop_zero,<- Np l,List.take_left]
 simp only[h1,Gq];exact hK
end Go.W.T
namespace Go.W.T
open Go Go.W Go.M Go.Proofs
structure Wd where
 texts:List By
 val:List Nd
 name:By
 a:Int
 b:Int
 c:Int
 specs:List Value
 streams:List Value
 tv:Value
 vv:Value
 sv:Value
 mv:Value
 o1:Option Nat
 o2:Option Nat
 o3:Option Nat
 o4:Option Nat
def jd(x:Wd):List Value:=[x.tv,x.vv,κs x.name,i64 x.a,i64 x.b,i64 x.c,x.sv,x.mv]
def I6(n:Int):Prop := -9223372036854775808<=n/\n<=9223372036854775807
structure WS (N k wb:Nat) (w:World) (x:Wd):Prop where
 hw:w.heap[wb]?=some (cl (jd x) 35)
 t:Gw w 9 1 x.tv x.texts.length (strs x.texts) x.o1
 v:Gw w 52 5 x.vv x.val.length (dG x.val) x.o2
 s:Gw w 37 1 x.sv x.specs.length x.specs x.o3
 m:Gw w 48 1 x.mv x.streams.length x.streams x.o4
 b0:N<=wb
 b1:∀b,x.o1=some b->N<=b
 b2:∀b,x.o2=some b->N<=b
 b3:∀b,x.o3=some b->N<=b
 b4:∀b,x.o4=some b->N<=b
 l1:x.texts.length<=k
 l2:x.val.length<=k
 l3:x.specs.length<=k
 l4:x.streams.length<=k
 tl:∀s∈x.texts,s.length<=65536
 vl:∀n∈x.val,NdOk n/\n.s.length<=65536
 ia:I6 x.a
 ib:I6 x.b
 ic:I6 x.c
 nl:x.name.length<=65536
theorem NV(h:Out X i)(k:Out Y i):Out (X++Y) i:=by
 induction X with
 |nil=>exact k
 |cons p r ih=>obtain⟨a,b⟩:=p;exact⟨h.1,ih h.2⟩
theorem rO(h:Out (X++Y) i):Out X i/\Out Y i:=by
 induction X with
 |nil=>exact⟨trivial,h⟩
 |cons p r ih=>obtain⟨a,b⟩:=p;exact⟨⟨h.1,(ih h.2).1⟩,(ih h.2).2⟩
theorem GX(h:Out (own o) i):o≠some i:=by
 rintro rfl;have:=h.1;omega
def Xs(wb:Nat)(x:Wd):List (Nat×Nat):=(wb,wb+1)::(own x.o1++(own x.o2++(own x.o3++own x.o4)))
theorem NU:Out (Xs wb x) i↔i≠wb/\x.o1≠some i/\x.o2≠some i/\x.o3≠some i/\x.o4≠some i:=by
 constructor
 .rintro⟨h,r⟩;obtain⟨h1,r⟩:=rO r;obtain⟨h2,r⟩:=rO r;obtain⟨h3,h4⟩:=rO r;exact⟨omg,GX h1,GX h2,GX h3,GX h4⟩
 .rintro⟨h,h1,h2,h3,h4⟩;exact⟨omg,NV (aF h1) (NV (aF h2) (NV (aF h3) (aF h4)))⟩
structure Fr (wb:Nat) (w:World) (x:Wd) (w':World) (x':Wd):Prop where
 k:Kp (Xs wb x) w w'
 m1:Mv w x.o1 x'.o1
 m2:Mv w x.o2 x'.o2
 m3:Mv w x.o3 x'.o3
 m4:Mv w x.o4 x'.o4
theorem Fr.refl(wb:Nat)(w:World)(x:Wd):Fr wb w x w x:=⟨Kp.refl _ _,Mv.refl _ _,Mv.refl _ _,Mv.refl _ _,Mv.refl _ _⟩
theorem Oa(h:Mv w o o')(hi:i<w.heap.size)(ho:o≠some i):o'≠some i:=λe=>(h i e).elim ho omg
theorem Fr.trans(h:Fr wb w x w1 x1)(k:Fr wb w1 x1 w2 x2)(hwb:wb<w.heap.size):Fr wb w x w2 x2:=by
 refine⟨h.k.trans k.k λi hi ho=>⟨ho,?_⟩,h.m1.trans k.m1 h.k.size,h.m2.trans k.m2 h.k.size,h.m3.trans k.m3 h.k.size,h.m4.trans k.m4 h.k.size⟩;rw[NU]at ho ⊢;exact⟨ho.1,Oa h.m1 hi ho.2.1,Oa h.m2 hi ho.2.2.1,Oa h.m3 hi ho.2.2.2.1,Oa h.m4 hi ho.2.2.2.2⟩
theorem Fr.kp0(k:Kp [] w w1):Fr wb w x w1 x:=⟨k.any,Mv.refl _ _,Mv.refl _ _,Mv.refl _ _,Mv.refl _ _⟩
variable {N k wb:Nat} {w w' w0:World} {x x':Wd}
theorem WS.base(h:WS N k wb w x)(f:Fr wb w x w' x')(hw:Kp [] w0 w)(hN:w0.heap.size=N):Kp [] w0 w':=
 hw.trans f.k λi hi _=>⟨trivial,NU.mpr ⟨by have:=h.b0;omega,λe=>by have:=h.b1 i e;omega,λe=>by have:=h.b2 i e;omega,λe=>by have:=h.b3 i e;omega,λe=>by have:=h.b4 i e;omega⟩⟩
theorem WS.kp0(h:WS N k wb w x)(k0:Kp [] w w'):WS N k wb w' x:=
 ⟨(k0.same _ (lt_of_heap h.hw) trivial).trans h.hw,h.t.kp k0 λ_ _=>trivial,h.v.kp k0 λ_ _=>trivial,h.s.kp k0 λ_ _=>trivial,h.m.kp k0 λ_ _=>trivial,h.b0,h.b1,h.b2,h.b3,h.b4,h.l1,h.l2,h.l3,h.l4,h.tl,h.vl,h.ia,h.ib,h.ic,h.nl⟩
theorem WS.mono(h:WS N k wb w x)(hk:k<=k'):WS N k' wb w x:=
 ⟨h.hw,h.t,h.v,h.s,h.m,h.b0,h.b1,h.b2,h.b3,h.b4,Nat.le_trans h.l1 hk,Nat.le_trans h.l2 hk,Nat.le_trans h.l3 hk,Nat.le_trans h.l4 hk,h.tl,h.vl,h.ia,h.ib,h.ic,h.nl⟩
theorem oW(h:Gw w e m v n l o)(hb:w.heap[b]?=some (cl c t))(hne:e≠t)(k0:Kp [(b,b+1)] w w'):Gw w' e m v n l o:=
 h.kp k0 λi hi=>⟨by have:o≠some b:=fP h hb hne
                    have : i ≠ b := λe => this (hi.trans (by rw [e]))
                    omega, trivial⟩
theorem oV(h:Gw w e m v n l o)(g:Gw w e' m' v' n' l' o')(hne:e≠e')(k0:Kp (own o') w w'):Gw w' e m v n l o:=by
 cases o' with
 |none=>exact h.kp k0 λ_ _=>trivial
 |some b=>
  obtain⟨_,r,c,_,hb,_⟩:=g;exact oW h hb hne k0
theorem Oj(h:Gw w e m v n l o):v.oneCell'=true:=by
 obtain⟨a,c,rfl⟩:=h.len;rfl
theorem WS.put(h:WS N k wb w x)(hw':w'.heap[wb]?=some (cl (jd x') 35))(k0:Kp [(wb,wb+1)] w w')(e1:x'.tv=x.tv/\x'.texts=x.texts/\x'.o1=x.o1)(e2:x'.vv=x.vv/\x'.val=x.val/\x'.o2=x.o2)
  (e3:x'.sv=x.sv/\x'.specs=x.specs/\x'.o3=x.o3) (e4:x'.mv=x.mv/\x'.streams=x.streams/\x'.o4=x.o4) (ia:I6 x'.a) (ib:I6 x'.b) (ic:I6 x'.c) (nl:x'.name.length<=65536):WS N k wb w' x'/\Fr wb w x w' x':=by
 obtain⟨p1,p2,p3⟩:=e1;obtain⟨q1,q2,q3⟩:=e2;obtain⟨r1,r2,r3⟩:=e3;obtain⟨s1,s2,s3⟩:=e4;constructor
 .refine⟨hw',?_,?_,?_,?_,h.b0,?_,?_,?_,?_,?_,?_,?_,?_,?_,?_,ia,ib,ic,nl⟩
  .rw[p1,p2,p3];exact oW h.t h.hw dcd k0
  .rw[q1,q2,q3];exact oW h.v h.hw dcd k0
  .rw[r1,r2,r3];exact oW h.s h.hw dcd k0
  .rw[s1,s2,s3];exact oW h.m h.hw dcd k0
  .rw[p3];exact h.b1
  .rw[q3];exact h.b2
  .rw[r3];exact h.b3
  .rw[s3];exact h.b4
  .rw[p2];exact h.l1
  .rw[q2];exact h.l2
  .rw[r2];exact h.l3
  .rw[s2];exact h.l4
  .rw[p2];exact h.tl
  .rw[q2];exact h.vl
 .refine⟨k0.mono λi _ ho=>⟨by have:=(NU.mp ho).1;omega,trivial⟩,?_,?_,?_,?_⟩
  .rw[p3];exact Mv.refl _ _
  .rw[q3];exact Mv.refl _ _
  .rw[r3];exact Mv.refl _ _
  .rw[s3];exact Mv.refl _ _
theorem WS.grow(h:WS N k wb w x)(hkk:k<=k')(k2:Kp (own x.o1++(own x.o2++(own x.o3++own x.o4))) w w2)(hw2:w2.heap[wb]?=some (cl (jd x) 35))(k3:Kp [(wb,wb+1)] w2 w3)(hw3:w3.heap[wb]?=some (cl (jd x') 35))
  (ht:Gw w2 9 1 x'.tv x'.texts.length (strs x'.texts) x'.o1/\Mv w x.o1 x'.o1/\x'.texts.length<=k'/\∀s∈x'.texts,s.length<=65536)
  (hv:Gw w2 52 5 x'.vv x'.val.length (dG x'.val) x'.o2/\Mv w x.o2 x'.o2/\x'.val.length<=k'/\∀n∈x'.val,NdOk n/\n.s.length<=65536)
  (hs:Gw w2 37 1 x'.sv x'.specs.length x'.specs x'.o3/\Mv w x.o3 x'.o3/\x'.specs.length<=k')
  (hm:Gw w2 48 1 x'.mv x'.streams.length x'.streams x'.o4/\Mv w x.o4 x'.o4/\x'.streams.length<=k')
  (e:x'.a=x.a/\x'.b=x.b/\x'.c=x.c/\x'.name=x.name):WS N k' wb w3 x'/\Fr wb w x w3 x':=by
 have hl:=lt_of_heap h.hw;obtain⟨t1,t2,t3,t4⟩:=ht;obtain⟨v1,v2,v3,v4⟩:=hv;obtain⟨s1,s2,s3⟩:=hs;obtain⟨m1,m2,m3⟩:=hm;obtain⟨e1,e2,e3,e4⟩:=e;have nw:N<=w.heap.size:=by have:=h.b0;omega
 refine⟨⟨hw3,oW t1 hw2 dcd k3,oW v1 hw2 dcd k3,oW s1 hw2 dcd k3,oW m1 hw2 dcd k3,h.b0,t2.geN h.b1 nw,v2.geN h.b2 nw,s2.geN h.b3 nw,m2.geN h.b4 nw,t3,v3,s3,m3,t4,v4,?_,?_,?_,?_⟩,?_,t2,v2,s2,m2⟩
 .rw[e1];exact h.ia
 .rw[e2];exact h.ib
 .rw[e3];exact h.ic
 .rw[e4];exact h.nl
 .refine k2.trans k3 λi hi ho=>?_;have:=ho.1;exact⟨ho.2,omg,trivial⟩
theorem kp1(k:Kp (own x.o1) w w'):Kp (own x.o1++(own x.o2++(own x.o3++own x.o4))) w w':=k.mono λ_ _ h=>(rO h).1
theorem kp2(k:Kp (own x.o2) w w'):Kp (own x.o1++(own x.o2++(own x.o3++own x.o4))) w w':=k.mono λ_ _ h=>(rO (rO h).2).1
theorem kp3(k:Kp (own x.o3) w w'):Kp (own x.o1++(own x.o2++(own x.o3++own x.o4))) w w':=k.mono λ_ _ h=>(rO (rO (rO h).2).2).1
theorem WS.acW(h:WS N k wb w x)(hk:k<=1000000){s:By}(hs:s.length<=65536){K:World->Prop}
  (hK:∀w' x',WS N (k+1) wb w' x'->Fr wb w x w' x'->x'.specs=x.specs->x'.streams=x.streams->x'.val=x.val->K w'):
  BuS 9 1 [κs s] w λx54 w55=>Ap 9 1 16 (.string ⟨#[]⟩) x.tv x54 w55 λx56 w57=>Nk (pt wb 0) λx58=>Fa x58 0 λx59=>St x59 x56 w57 λw60=>K w60:=by
 have hl:=lt_of_heap h.hw;refine OV h.t (by have:=h.l1;omega) ?_;intro v' w2 o' g m k2;have hw2:w2.heap[wb]?=some (cl (jd x) 35):=(k2.same _ hl (aF (fP h.t h.hw dcd))).trans h.hw;refine gg ?_;have one:=Oj g;refine St.s (l:=[x.tv,x.vv,κs x.name,i64 x.a,i64 x.b,i64 x.c,x.sv,x.mv]) (t:=35) (l':=[v',x.vv,κs x.name,i64 x.a,i64 x.b,i64 x.c,x.sv,x.mv]) ?_ hw2 one;have l2:=lt_of_heap hw2;have:=h.grow (x':={ x with texts:=x.texts++[s],tv:=v',o1:=o' }) (Nat.le_succ k) (kp1 k2) hw2 (w3:=ag w2 wb (cl [v',x.vv,κs x.name,i64 x.a,i64 x.b,i64 x.c,x.sv,x.mv] 35)) kpA (aC rfl l2)
  ⟨g,m,by have:=h.l1;simp;omega,λy hy=>by
   rcases List.mem_append.mp hy with hy|hy
   .exact h.tl y hy
   .rw[List.mem_singleton.mp hy];exact hs⟩
  ⟨oV h.v h.t dcd k2,Mv.refl _ _,Nat.le_succ_of_le h.l2,h.vl⟩ ⟨oV h.s h.t dcd k2,Mv.refl _ _,Nat.le_succ_of_le h.l3⟩ ⟨oV h.m h.t dcd k2,Mv.refl _ _,Nat.le_succ_of_le h.l4⟩ ⟨rfl,rfl,rfl,rfl⟩
 exact hK _ _ this.1 this.2 rfl rfl rfl
theorem gw_at(h:Gw w e 1 v n l o)(hi:l[i]?=some y):
  ∃b cap,o=some b/\v=.slice (some ⟨b,0,none⟩) n cap/\w.cell? ⟨b,i,none⟩=some y:=by
 obtain⟨hl,h2⟩:=h;cases o with
 |none=>
  obtain⟨rfl,rfl⟩:=h2;have:=(List.getElem?_eq_some_iff.mp hi).1;omega
 |some b=>
  obtain⟨rest,cap,rfl,hb,hc⟩:=h2;refine⟨b,cap,rfl,rfl,?_⟩;rw[jM,hb,Option.bind_some,fM];simp only[List.getElem?_toArray];rw[List.getElem?_append_left (List.getElem?_eq_some_iff.mp hi).1,hi]
theorem NM(c n:Int)(hc:I6 c)(hn:0<n)(hn2:n<=9223372036854775807):Calls P 12 #[.int .i64 c,.int .i64 n] w (Ret λv w'=>(∃k:Nat,v=i64 k/\(k:Int)<n)/\w'=w):=by
 obtain⟨hc1,hc2⟩:=hc;refine Ret.R λR hR=>?_;refine cf [0] Tryz.func12 ?_;refine Jn.by (λvals w'=>w'=w/\vals=[.int .i64 (if c<0 then -(c+1)else c)]) (λJ hJ=>?_) ?_
 .refine .s ?_;refine .split (λh=>?_) (λh=>?_)
  .have h':=of_decide_eq_true h;refine gg ?_;refine hJ _ _ ⟨rfl,?_⟩;rw[if_pos h',rq omg omg];simp
  .have h':=of_decide_eq_false h;exact hJ _ _ ⟨rfl,by rw[if_neg h']⟩
 .rintro _ w' jk ⟨rfl,rfl⟩;have hp:=Qd (c:=c) (n:=n) hn;refine Bi.s (v:=.int .i64 (Lu c n)) ?_ ?_
  .exact hR _ _ ⟨⟨(Lu c n).toNat,by congr 1;omega,omg⟩,rfl⟩
  .have hx:0<=(if c<0 then -(c+1)else c):=by split<;>omega
   have:Int.tmod (if c<0 then -(c+1)else c) n=Lu c n:=by
    unfold Lu;rw[Int.tmod_eq_emod_of_nonneg hx]
   simp only[binI,if_neg (show ¬ n=0 by omega),List.getD_cons_zero,this]
theorem IP(h:WS N k wb w x)(hk:k<=1000000)(c:Int)(hc:I6 c):Calls P 9 #[pt wb 0,i64 c] w (Ret λv w'=>Kp [] w w'/\∃s,v=κs s/\s.length<=65536):=by
 refine Ret.R λR hR=>?_;refine cf [] Tryz.func9 ?_;have hw:=h.hw;unfold jd at hw;obtain⟨ta,tc,htv⟩:=h.t.len;have ht:=h.t;have hl1:=h.l1;have htl:=h.tl;rw[htv]at hw ht
 by_cases h0:x.texts=[]
 .have e0:((x.texts.length:Int)==0)=true:=by rw[h0];rfl
  refine gg ?_;exact hR _ _ ⟨Kp.refl _ _,[],rfl,dcd⟩
 .have hp:=List.length_pos_iff.mpr h0;have e0:((x.texts.length:Int)==0)=false:=by grind
  refine gg ?_;refine Cl.ret (NM c _ hc omg omg) ?_;rintro _ w13 ⟨⟨i,rfl,hi⟩,rfl⟩;have hi':i<x.texts.length:=omg;obtain⟨b,cap,_,e2,hcell⟩:=gw_at ht (i:=i) (y:=κs x.texts[i]) (by simp[strs,List.getElem?_eq_getElem hi']);cases e2;refine gg ?_;rw[Nat.zero_add,Nat.mul_one];exact Ld.by hcell (hR _ _ ⟨kpA,_,rfl,htl _ (List.getElem_mem hi')⟩)
theorem WS.addVal(h:WS N k wb w x)(hk:k<=1000000)(hb:w.heap[b']?=some (cl (qY nd) 52))(ho:NdOk nd/\nd.s.length<=65536)
  (hK:∀w' x',WS N (k+1) wb w' x'->Fr wb w x w' x'->x'.specs=x.specs->x'.streams=x.streams->K w'):
  Ap 52 5 48 (.agg #[.int .i64 0,.int .i64 0,.string ⟨#[]⟩,.int .i64 0,.int .i64 0]) x.vv (.slice (some ⟨b',0,none⟩) 1 1) w λx22 w23=>Nk (pt wb 0) λx24=>Fa x24 1 λx25=>St x25 x22 w23 K:=by
 have hl:=lt_of_heap h.hw;have hlv:=h.l2;refine Ap.g h.v hb rfl rfl ?_ omg;intro v' w2 o' g0 ho' k2;have hw2:w2.heap[wb]?=some (cl (jd x) 35):=(k2.same _ hl (aF (fP h.v h.hw dcd))).trans h.hw;have g:Gw w2 52 5 v' (x.val++[nd]).length (dG (x.val++[nd])) o':=by
  have e:dG (x.val++[nd])=dG x.val++qY nd:=by simp[dG]
  rw[List.length_append,e];exact g0
 refine gg ?_;have one:=Oj g;refine St.s (l:=[x.tv,x.vv,κs x.name,i64 x.a,i64 x.b,i64 x.c,x.sv,x.mv]) (t:=35) (l':=[x.tv,v',κs x.name,i64 x.a,i64 x.b,i64 x.c,x.sv,x.mv]) ?_ hw2 one;have l2:=lt_of_heap hw2;have:=h.grow (x':={ x with val:=x.val++[nd],vv:=v',o2:=o' }) (Nat.le_succ k) (kp2 k2) hw2 (w3:=ag w2 wb (cl [x.tv,v',κs x.name,i64 x.a,i64 x.b,i64 x.c,x.sv,x.mv] 35)) kpA (aC rfl l2)
  ⟨oV h.t h.v dcd k2,Mv.refl _ _,Nat.le_succ_of_le h.l1,h.tl⟩
  ⟨g,FY (Kp.refl _ _) ho',by simp;omega,λy hy=>by
   rcases List.mem_append.mp hy with hy|hy
   .exact h.vl y hy
   .rw[List.mem_singleton.mp hy];exact ho⟩
  ⟨oV h.s h.v dcd k2,Mv.refl _ _,Nat.le_succ_of_le h.l3⟩ ⟨oV h.m h.v dcd k2,Mv.refl _ _,Nat.le_succ_of_le h.l4⟩ ⟨rfl,rfl,rfl,rfl⟩
 exact hK _ _ this.1 this.2 rfl rfl
theorem WS.addSpec(h:WS N k wb w x)(hk:k<=1000000)(hy:y.oneCell'=true)(hy2:y.cells=#[y])
  (hK:∀w' x',WS N (k+1) wb w' x'->Fr wb w x w' x'->x'.specs=x.specs++[y]->x'.streams=x.streams->K w'):
  BuS 37 1 [y] w λx22 w23=>Ap 37 1 8 (.pointer none) x.sv x22 w23 λx24 w25=>Nk (pt wb 0) λx26=>Fa x26 6 λx27=>St x27 x24 w25 K:=by
 have hl:=lt_of_heap h.hw;have hls:=h.l3;refine BuS.s (l:=[y]) (n:=1) ?_ (by simp[hy2]) (by simp[hy2]);refine Ap.w (λw9=>Kp [] w w9/\w9.heap[w.heap.size]?=some (cl [y] 37)) ⟨kpA,lookA⟩ ?_;rintro w9 ⟨k9,n9⟩;refine Ap.g (h.s.kp k9 (λ_ _=>trivial)) n9 rfl (by simp[hy]) ?_ omg;intro v' w2 o' g0 ho' k2';have k2:Kp (own x.o3) w w2:=k9.trans k2' λi _ h=>⟨trivial,h⟩;have hw2:w2.heap[wb]?=some (cl (jd x) 35):=(k2.same _ hl (aF (fP h.s h.hw dcd))).trans h.hw;have g:Gw w2 37 1 v' (x.specs++[y]).length (x.specs++[y]) o':=by
  rw[List.length_append];exact g0
 refine gg ?_;have one:=Oj g;refine St.s (l:=[x.tv,x.vv,κs x.name,i64 x.a,i64 x.b,i64 x.c,x.sv,x.mv]) (t:=35) (l':=[x.tv,x.vv,κs x.name,i64 x.a,i64 x.b,i64 x.c,v',x.mv]) ?_ hw2 one;have l2:=lt_of_heap hw2;have:=h.grow (x':={ x with specs:=x.specs++[y],sv:=v',o3:=o' }) (Nat.le_succ k) (kp3 k2) hw2 (w3:=ag w2 wb (cl [x.tv,x.vv,κs x.name,i64 x.a,i64 x.b,i64 x.c,v',x.mv] 35)) kpA (aC rfl l2)
  ⟨oV h.t h.s dcd k2,Mv.refl _ _,Nat.le_succ_of_le h.l1,h.tl⟩
  ⟨oV h.v h.s dcd k2,Mv.refl _ _,Nat.le_succ_of_le h.l2,h.vl⟩
  ⟨g,FY k9 ho',by simp;omega⟩ ⟨oV h.m h.s dcd k2,Mv.refl _ _,Nat.le_succ_of_le h.l4⟩ ⟨rfl,rfl,rfl,rfl⟩
 exact hK _ _ this.1 this.2 rfl rfl
end Go.W.T
namespace Go.W.T
open Go Go.W Go.M Go.Proofs
structure OpR where
 k:Int
 x:Int
 a:Int
 b:Int
 c:Int
 s:By
abbrev opV(o:OpR):List Value:=[i64 o.k,i64 o.x,i64 o.a,i64 o.b,i64 o.c,κs o.s]
structure OpOk (o:OpR):Prop where
 k:I6 o.k
 x:I6 o.x
 a:I6 o.a
 b:I6 o.b
 c:I6 o.c
 s:o.s.length<=16384
variable {N k wb:Nat} {w:World} {x:Wd}
theorem aba(c:Int):∃m:Nat,m<256/\IntKind.u8.wrap c=(m:Nat):=by
 refine⟨(IntKind.u8.wrap c).toNat,?_,?_⟩<;>simp[IntKind.wrap,IntKind.signed,IntKind.bits]<;>omega
theorem Y1(h:WS N k wb w x)(hk:k<=1000000)(ho:OpOk op):Calls P 18 #[pt wb 0,.agg (List.toArray (opV op))] w
  (Ret λv w'=>∃x',WS N (k+1) wb w' x'/\Fr wb w x w' x'/\x'.specs=x.specs/\x'.streams=x.streams/\v=.bool (op.k==1||op.k==2||op.k==3)):=by
 refine Ret.R λR hR=>?_;refine cf [5] Tryz.func18 ?_;obtain⟨hok,hox,hoa,hob,hoc,hos⟩:=ho;refine .s ?_;have k2:Kp [] w (w.alloc (cl (opV op) 27)):=by exact kpA
 have n2:(w.alloc (cl (opV op) 27)).heap[w.heap.size]?=some (cl (opV op) 27):=by exact lookA
 have h2:=h.kp0 k2;have f2:Fr wb w x (w.alloc (cl (opV op) 27)) x:=Fr.kp0 k2;generalize w.alloc (cl (opV op) 27)=w2 at *;have hlw:=lt_of_heap h.hw;refine gg ?_;refine Jn.by (λvals w'=>(op.k==1||op.k==2||op.k==3)=true/\∃s,vals=[κs s]/\s.length<=65536/\Kp [] w2 w') (λJ hJ=>?_) ?_
 .refine gg ?_;refine .split (λc1=>?_) (λc1=>?_)
  .exact hJ _ _ ⟨by rw[c1];rfl,_,rfl,omg,Kp.refl _ _⟩
  refine gg ?_;refine .split (λc2=>?_) (λc2=>?_)
  .refine gg ?_;refine Cl.ret (IP h2 hk _ hoa) ?_;rintro _ w13 ⟨k13,s,rfl,hs⟩;refine fF.bytes (λcc w15 k15 hb=>?_);have n15:w15.heap[w.heap.size]?=some (cl (opV op) 27):=((k13.tt k15).same _ (lt_of_heap n2) trivial).trans n2;have z13:=k13.size;have z2:=lt_of_heap n2;refine Jn.by (λvals w'=>∃l,l.length=s.length/\BytesAt w' w13.heap.size l/\Kp [] w2 w') (λJ16 hJ16=>?_) ?_
   .refine .t ?_;refine .s ?_;refine .split (λc3=>?_) (λc3=>?_)
    .have c3':=of_decide_eq_true c3;refine gg ?_;refine Cl.ret (NM op.b _ hob omg omg) ?_;rintro _ w26 ⟨⟨i,rfl,hi⟩,rfl⟩;obtain⟨m8,hm8,e8⟩:=aba op.c;refine .intro (by(repeat' first|refine .q ?_|refine .r ?_|refine .g ?_|fail);rfl) (.intro (by(repeat' first|refine .q ?_|refine .r ?_|refine .g ?_|fail);rfl) ?_);refine .s ?_;rw[e8,Nat.zero_add,Nat.mul_one];refine St.byte hb omg hm8 ?_;intro w30 l' k30 hl' hb';exact hJ16 _ _ ⟨l',hl',hb',(Kp.drew (k13.tt k15)).trans k30 λi hi _=>⟨trivial,omg,trivial⟩⟩
    .exact hJ16 _ _ ⟨s,rfl,hb,k13.tt k15⟩
   .rintro _ w31 jk ⟨l,hl,hb,k31⟩;rw[<- hl];refine CvB.bytes hb ?_;exact hJ _ _ ⟨by rw[c1,c2];rfl,_,rfl,omg,k31⟩
  refine gg ?_;refine .split (λc3=>?_) (λc3=>?_)
  .refine gg ?_;refine Cl.ret (IP h2 hk _ hoa) ?_;rintro _ w38 ⟨k38,s,rfl,hs⟩;have n38:w38.heap[w.heap.size]?=some (cl (opV op) 27):=(k38.same _ (lt_of_heap n2) trivial).trans n2;refine gg ?_;refine Cl.ret (IP (h2.kp0 k38) hk _ hob) ?_;rintro _ w42 ⟨k42,s',rfl,hs'⟩;refine gg ?_;refine .split (λc4=>?_) (λc4=>?_)
   .exact hR _ _ ⟨x,(h2.kp0 (k38.tt k42)).mono omg,Fr.kp0 (k2.tt (k38.tt k42)),rfl,rfl,by rw[c1,c2,c3];rfl⟩
   .have:=of_decide_eq_false c4;refine gg ?_;exact hJ _ _ ⟨by rw[c1,c2,c3];rfl,_,rfl,by rw[List.length_append];omega,k38.tt k42⟩
  .exact hR _ _ ⟨x,h2.mono omg,f2,rfl,rfl,by rw[c1,c2,c3];rfl⟩
 .rintro _ w3 jk ⟨hkk,s,rfl,hs,k3⟩;have h3:=h2.kp0 k3;have hw:=h3.hw;unfold jd at hw;refine nO ?_;refine h3.acW hk hs ?_;intro w4 x4 h4 f4 e1 e2 _;exact hR _ _ ⟨x4,h4,(f2.trans (Fr.kp0 k3) (by have:=k2.size;omega)).trans f4 omg,e1,e2,by rw[hkk]⟩
theorem ZI(c:Int):I6 (IntKind.i64.wrap c):=by
 unfold I6;simp[IntKind.wrap,IntKind.signed,IntKind.bits];omega
theorem AB(hy:(qY n).set j y=qY n')(hj:j<5):∀{l:List Nd} {i:Nat},l[i]?=some n->(dG l).set (i*5+j) y=dG (l.set i n')
 |[],i,h=>by cases h
 |a::r,0,h=>by
  have:a=n:=by simpa using h
  subst this;show (qY a++dG r).set _ y=qY n'++dG r;rw[List.set_append_left _ _ (by show _<5;omega),Nat.zero_mul,Nat.zero_add,hy]
 |a::r,i+1,h=>by
  have h':r[i]?=some n:=by simpa using h
  show (qY a++dG r).set _ y=qY a++dG (r.set i n');rw[List.set_append_right _ _ (by show 5<=_;omega),<- AB hy hj h'];congr 2;show (i+1)*5+j - 5=_;omega
theorem J8(l:List Nd):(dG l).all (·.oneCell')=true:=by
 induction l with
 |nil=>rfl
 |cons a r ih=>
  show (qY a++dG r).all _=true;rw[List.all_append,ih];rfl
theorem Vg(hb:w.heap[b]?=some (cl (dG l++rest) t))(hn:l[i]?=some n)(hu:(qY n)[j]?=some u)(hK:K u):Ld (pt b (0+i*5+j)) w K:=by
 refine Ld.by (x:=u) ?_ hK;rw[jM,hb,Option.bind_some,fM];simp only[List.getElem?_toArray];have:=G8 (f:=qY) (m:=5) (λx=>rfl) hn hu;rw[Nat.zero_add,List.getElem?_append_left (by have:=(List.getElem?_eq_some_iff.mp this).1;exact this)];exact this
theorem Vf(hb:w.heap[b]?=some (cl (dG l++rest) t))(hn:l[i]?=some n)(hy:(qY n).set j y=qY n')(hj:j<5)(one:y.oneCell'=true)
  (hK:∀w',Kp [(b,b+1)] w w'->w'.heap[b]?=some (cl (dG (l.set i n')++rest) t)->K w'):St (pt b (0+i*5+j)) y w K:=by
 have hi:=(List.getElem?_eq_some_iff.mp hn).1;have hlt:0+i*5+j<(dG l).length:=by rw[mZ];omega
 have hlb:=lt_of_heap hb;refine St.s (l':=dG (l.set i n')++rest) (hK _ kpA (aC rfl hlb)) hb one (by rw[List.length_append];omega) ?_;rw[<- AB hy hj hn,<- List.set_append_left _ _ (by simpa using hlt),Nat.zero_add];rw[List.set_eq_take_append_cons_drop,if_pos (by rw[List.length_append];omega)];simp
end Go.W.T
namespace Go.W.T
open Go Go.W Go.M Go.Proofs
variable {N k wb:Nat} {w:World} {x:Wd}
def owned(n:Int):Bool:=n==4||n==5||n==6||n==7||n==8||n==1||n==2||n==3
def Owd(N k wb:Nat)(w:World)(x:Wd)(w':World):Prop:=∃x',WS N k wb w' x'/\Fr wb w x w' x'/\x'.specs=x.specs/\x'.streams=x.streams
theorem WS.turn(h:WS N k wb w x)(hk:k<=1000000)(hob:w.heap[ob]?=some (cl (opV op) 27))(ho:OpOk op)(hne:x.val≠[])(hR:∀w',Owd N k wb w x w'->R w'):
  Fa (pt ob 0) 2 λx33=>
  Ld x33 w λx34=>
  Nk (pt wb 0) λx35=>
  Fa x35 1 λx36=>
  Ld x36 w λx37=>
  Ln false x37 λx38=>
  Cl P 12 #[x34,x38] w E λx39 w40=>
  Nk (pt wb 0) λx41=>
  Fa x41 1 λx42=>
  Ld x42 w40 λx43=>
  Ap 52 5 48 (.agg #[.int .i64 0,.int .i64 0,.string ⟨#[]⟩,.int .i64 0,.int .i64 0]) (.slice none 0 0) x43 w40 λx44 w45=>
  IaS 5 x44 x39 λx46=>
  Fa x46 1 λx47=>
  Ld x47 w45.drew λx48=>
  Fa (pt ob 0) 3 λx49=>
  Ld x49 w45.drew λx50=>
  Bi .add x48 x50 λx51=>
  IaS 5 x44 x39 λx52=>
  Fa x52 1 λx53=>
  St x53 x51 w45.drew λw54=>
  IaS 5 x44 x39 λx55=>
  Fa x55 4 λx56=>
  Ld x56 w54.drew λx57=>
  Fa (pt ob 0) 4 λx58=>
  Ld x58 w54.drew λx59=>
  Bi .add x57 x59 λx60=>
  IaS 5 x44 x39 λx61=>
  Fa x61 4 λx62=>
  St x62 x60 w54.drew λw63=>
  Nk (pt wb 0) λx64=>
  Fa x64 1 λx65=>
  St x65 x44 w63 R:=by
 obtain⟨hok,hox,hoa,Z4,hoc,hos⟩:=ho;have hw:=h.hw;have hl:=lt_of_heap hw;unfold jd at hw;obtain⟨va,vc,hvv⟩:=h.v.len;have hp:=List.length_pos_iff.mpr hne;have hlv:=h.l2;have hv:=h.v;rw[hvv]at hw hv;refine gg ?_;refine Cl.ret (NM op.a _ hoa omg omg) ?_;rintro _ w40 ⟨⟨i,rfl,hi⟩,rfl⟩;have hi':i<x.val.length:=omg;obtain⟨n,hn⟩:∃n,x.val[i]?=some n:=⟨_,List.getElem?_eq_getElem hi'⟩;refine vI ?_;refine Ap.srcM (k:=x.val.length) (s:=dG x.val) omg (Gw.nil _ _ _) (mZ _) ?_ (Ug hv) (J8 _) omg;intro v' w45 o' g ho' k45;rw[List.nil_append,Nat.zero_add]at g;rcases ho' with rfl|rfl
 .have:=g.2.2;omega
 obtain⟨rest,cap,rfl,hb,hcap⟩:=g.2;have k45':Kp [] w40 w45:=k45;have zb:=lt_of_heap hb;have hob45:w45.heap[ob]?=some (cl (opV op) 27):=(k45'.same _ (lt_of_heap hob) trivial).trans hob;have hbd:w45.drew.heap[w40.heap.size]?=some (cl (dG x.val++rest) 52):=hb;refine IaS.s ?_ hi';refine .s ?_;refine Vg hbd hn (u:=i64 n.n) rfl ?_;refine gJ ?_;rw[Y0];refine IaS.s ?_ hi';refine .s ?_;refine Vf hbd hn (n':={ n with n:=IntKind.i64.wrap (n.n+op.b) }) rfl omg rfl ?_;intro w54 k54 hb54;have hob54:w54.heap[ob]?=some (cl (opV op) 27):=(k54.same _ (lt_of_heap hob45) ⟨by have:=lt_of_heap hob;omega,trivial⟩).trans hob45;have hbd54:w54.drew.heap[w40.heap.size]?=_:=hb54;have hn':(x.val.set i { n with n:=IntKind.i64.wrap (n.n+op.b) })[i]?=some { n with n:=IntKind.i64.wrap (n.n+op.b) }:=by simp[hi']
 refine IaS.s ?_ hi';refine .s ?_;refine Vg hbd54 hn' (u:=i64 n.len) rfl ?_;refine gJ ?_;rw[Y0];refine IaS.s ?_ hi';refine .s ?_;refine Vf hbd54 hn' (n':={ n with n:=IntKind.i64.wrap (n.n+op.b),len:=IntKind.i64.wrap (n.len+op.c) }) rfl omg rfl ?_;intro w63 k63 hb63;rw[List.set_set]at hb63;have hlen:(x.val.set i { n with n:=IntKind.i64.wrap (n.n+op.b),len:=IntKind.i64.wrap (n.len+op.c) }).length=x.val.length:=by simp
 have k4:Kp [] w40 w54:=k45'.drew.trans k54 λi hi _=>⟨trivial,omg,trivial⟩;have k2:Kp [] w40 w63:=k4.drew.trans k63 λi hi _=>⟨trivial,omg,trivial⟩;have hw2:w63.heap[wb]?=some (cl (jd x) 35):=(k2.same _ hl trivial).trans h.hw;have l2:=lt_of_heap hw2;refine gJ ?_;refine St.s (l:=[x.tv,x.vv,κs x.name,i64 x.a,i64 x.b,i64 x.c,x.sv,x.mv]) (t:=35) (l':=[x.tv,.slice (some ⟨w40.heap.size,0,none⟩) x.val.length cap,κs x.name,i64 x.a,i64 x.b,i64 x.c,x.sv,x.mv]) ?_ hw2 rfl;have:=h.grow (x':={ x with val:=x.val.set i { n with n:=IntKind.i64.wrap (n.n+op.b),len:=IntKind.i64.wrap (n.len+op.c) },vv:=.slice (some ⟨w40.heap.size,0,none⟩) x.val.length cap,o2:=some w40.heap.size }) (Nat.le_refl k) (k2.mono λ_ _ _=>trivial) hw2
  (w3:=ag w63 wb (cl [x.tv,.slice (some ⟨w40.heap.size,0,none⟩) x.val.length cap,κs x.name,i64 x.a,i64 x.b,i64 x.c,x.sv,x.mv] 35)) kpA (aC rfl l2)
  ⟨h.t.kp k2 λ_ _=>trivial,Mv.refl _ _,h.l1,h.tl⟩
  ⟨⟨by rw[mZ],rest,cap,by rw[hlen],hb63,by rw[mZ,hlen,<- mZ];exact hcap⟩,λb hb=>Or.inr (by cases hb;exact Nat.le_refl _),by rw[hlen];exact h.l2,λy hy=>?_⟩
  ⟨h.s.kp k2 λ_ _=>trivial,Mv.refl _ _,h.l3⟩ ⟨h.m.kp k2 λ_ _=>trivial,Mv.refl _ _,h.l4⟩ ⟨rfl,rfl,rfl,rfl⟩
 .exact hR _ ⟨_,this.1,this.2,rfl,rfl⟩
 .rcases List.mem_or_eq_of_mem_set hy with hy|rfl
  .exact h.vl y hy
  .have hm:=h.vl n (List.mem_of_getElem? hn);have:=ZI (n.n+op.b);exact⟨⟨this.1,Int.lt_of_le_of_lt this.2 dcd⟩,hm.2⟩
theorem abz(h:WS N k wb w x)(hk:k<=1000000)(ho:OpOk op):Calls P 8 #[pt wb 0,.agg (List.toArray (opV op))] w
  (Ret λv w'=>Owd N (k+1) wb w x w'/\v=.bool (owned op.k)):=by
 have hoo:=ho;obtain⟨hok,hox,hoa,Z4,hoc,hos⟩:=ho;refine Ret.R λR hR=>?_;refine cf [] Tryz.func8 ?_;refine .s ?_;have k2:Kp [] w (w.alloc (cl (opV op) 27)):=by exact kpA
 have n2:(w.alloc (cl (opV op) 27)).heap[w.heap.size]?=some (cl (opV op) 27):=by exact lookA
 have h2:=h.kp0 k2;have f2:Fr wb w x (w.alloc (cl (opV op) 27)) x:=Fr.kp0 k2;generalize w.alloc (cl (opV op) 27)=w2 at *;have hlw:=lt_of_heap h.hw;have hw:=h2.hw;unfold jd at hw;have z2:=lt_of_heap n2;have lw2:=lt_of_heap hw;have back:∀{w'},Owd N (k+1) wb w2 x w'->Owd N (k+1) wb w x w':=λ⟨x',a,b,c⟩=>⟨x',a,f2.trans b hlw,c⟩;refine Jn.by (λvals w'=>owned op.k=true/\Owd N (k+1) wb w2 x w') (λJ hJ=>?_) ?_
 .refine gg ?_;refine .split (λc4=>?_) (λc4=>?_)
  .refine gg ?_;have k20:Kp [] w2 (w2.drew.alloc (cl [i64 op.a,i64 op.b,κs op.s,Value.int IntKind.i64 0,i64 op.c] 52)):=by exact kpA
   have n20:(w2.drew.alloc (cl [i64 op.a,i64 op.b,κs op.s,Value.int IntKind.i64 0,i64 op.c] 52)).heap[w2.heap.size]?=some (cl (qY ⟨op.a,op.b,op.s,0,op.c⟩) 52):=iw rfl;refine(h2.kp0 k20).addVal hk n20 ⟨⟨Z4.1,Int.lt_of_le_of_lt Z4.2 dcd⟩,by show op.s.length<=65536;omega⟩ ?_;intro w' x' h' f' e1 e2;exact hJ _ _ ⟨by unfold owned;rw[c4];rfl,x',h',(Fr.kp0 k20).trans f' lw2,e1,e2⟩
  refine gg ?_;refine .split (λc5=>?_) (λc5=>?_)
  .refine gg ?_;obtain⟨va,vc,hvv⟩:=h2.v.len;rw[show ∀K,Ln false x.vv K=Ln false (.slice va x.val.length vc) K from λK=>by rw[hvv]];refine gg ?_;refine .split (λc9=>?_) (λc9=>?_)
   .have c9':=of_decide_eq_true c9;have k3:Kp [] w2 w2.drew:=by exact kpA
    have n3:w2.drew.heap[w.heap.size]?=some (cl (opV op) 27):=n2;refine WS.turn (h2.kp0 k3) hk n3 hoo (λe=>by rw[e]at c9';simp at c9') ?_;rintro w' ⟨x',h',f',e1,e2⟩;exact hJ _ _ ⟨by unfold owned;rw[c4,c5];rfl,x',h'.mono (Nat.le_succ k),(Fr.kp0 k3).trans f' lw2,e1,e2⟩
   .exact hJ _ _ ⟨by unfold owned;rw[c4,c5];rfl,x,h2.mono (Nat.le_succ k),Fr.refl _ _ _,rfl,rfl⟩
  refine gg ?_;refine .split (λc6=>?_) (λc6=>?_)
  .refine gg ?_;have:=h2.grow (x':={ x with val:=[],vv:=.slice none 0 0,o2:=none }) (Nat.le_succ k) ((Kp.refl [] _).any) h2.hw
    (w3:=ag w2 wb (cl [x.tv,.slice none 0 0,κs x.name,i64 x.a,i64 x.b,i64 x.c,x.sv,x.mv] 35)) kpA (aC rfl lw2)
    ⟨h2.t,Mv.refl _ _,Nat.le_succ_of_le h2.l1,h2.tl⟩ ⟨Gw.nil _ _ _,(λb hb=>by cases hb),Nat.zero_le _,λy hy=>by cases hy⟩ ⟨h2.s,Mv.refl _ _,Nat.le_succ_of_le h2.l3⟩ ⟨h2.m,Mv.refl _ _,Nat.le_succ_of_le h2.l4⟩ ⟨rfl,rfl,rfl,rfl⟩
   exact hJ _ _ ⟨by unfold owned;rw[c4,c5,c6];rfl,_,this.1,this.2,rfl,rfl⟩
  refine gg ?_;refine .split (λc7=>?_) (λc7=>?_)
  .refine gg ?_;refine(λ(Q:∀w',Kp [(wb,wb+1)] w2 w'->w'.heap[wb]?=some (cl [x.tv,x.vv,κs x.name,i64 op.a,i64 op.b,i64 op.c,x.sv,x.mv] 35)->J [] w')=>Q _ kpA lookA) ?_;intro w' k' n';have:=h2.put (x':={ x with a:=op.a,b:=op.b,c:=op.c }) n' k' ⟨rfl,rfl,rfl⟩ ⟨rfl,rfl,rfl⟩ ⟨rfl,rfl,rfl⟩ ⟨rfl,rfl,rfl⟩ hoa Z4 hoc h2.nl;exact hJ _ _ ⟨by unfold owned;rw[c4,c5,c6,c7];rfl,_,this.1.mono (Nat.le_succ k),this.2,rfl,rfl⟩
  refine gg ?_;refine .split (λc8=>?_) (λc8=>?_)
  .refine gg ?_;refine(λ(Q:∀w',Kp [(wb,wb+1)] w2 w'->w'.heap[wb]?=some (cl [x.tv,x.vv,κs op.s,i64 x.a,i64 x.b,i64 x.c,x.sv,x.mv] 35)->J [] w')=>Q _ kpA lookA) ?_;intro w' k' n';have:=h2.put (x':={ x with name:=op.s }) n' k' ⟨rfl,rfl,rfl⟩ ⟨rfl,rfl,rfl⟩ ⟨rfl,rfl,rfl⟩ ⟨rfl,rfl,rfl⟩ h2.ia h2.ib h2.ic (by show op.s.length<=65536;omega);exact hJ _ _ ⟨by unfold owned;rw[c4,c5,c6,c7,c8];rfl,_,this.1.mono (Nat.le_succ k),this.2,rfl,rfl⟩
  refine gg ?_;refine Cl.ret (Y1 h2 hk hoo) ?_;rintro _ w95 ⟨x',h95,f95,e1,e2,rfl⟩;exact hR _ _ ⟨back ⟨x',h95,f95,e1,e2⟩,by unfold owned;rw[c4,c5,c6,c7,c8];rfl⟩
 .rintro _ w96 jk ⟨h1,h3⟩;exact hR _ _ ⟨back h3,by rw[h1]⟩
end Go.W.T
namespace Go.W.T
open Go Go.W Go.M Go.Proofs
variable {N k wb:Nat} {w w0:World} {x:Wd}
theorem abw(h:WS N k wb w x)(hk:k<=100000)(ho:OpOk op)(h9:op.k<=9)(kw:Kp [] w0 w)(hN:w0.heap.size=N)(hg:Gl w0)(he:JW w0):Calls P 7 #[pt wb 0,.agg (List.toArray (opV op))] w
  (Ret λv w'=>v=.bool true/\∃x',WS N (k+2) wb w' x'/\Fr wb w x w' x'):=by
 have hoo:=ho;obtain⟨hok,hox,hoa,Z4,hoc,hos⟩:=ho;refine Ret.R λR hR=>?_;refine cf [6] Tryz.func7 ?_;refine .s ?_;have k2:Kp [] w (w.alloc (cl (opV op) 27)):=by exact kpA
 have n2:(w.alloc (cl (opV op) 27)).heap[w.heap.size]?=some (cl (opV op) 27):=by exact lookA
 have h2:=h.kp0 k2;have f2:Fr wb w x (w.alloc (cl (opV op) 27)) x:=Fr.kp0 k2;have hlw:=lt_of_heap h.hw;generalize w.alloc (cl (opV op) 27)=w2 at *;refine gg ?_;refine Cl.ret (abz h2 omg hoo) ?_;rintro _ w5 ⟨⟨x5,h5,f5,e5,e5'⟩,rfl⟩;have f05:Fr wb w x w5 x5:=f2.trans f5 hlw;refine .split (λc0=>?_) (λc0=>?_)
 .exact hR _ _ ⟨rfl,x5,h5.mono omg,f05⟩
 have n5:w5.heap[w.heap.size]?=some (cl (opV op) 27):=by
  refine(f5.k.same _ (lt_of_heap n2) (NU.mpr ⟨omg,?_,?_,?_,?_⟩)).trans n2
  .exact λe=>by have:=h.t.lt _ e;omega
  .exact λe=>by have:=h.v.lt _ e;omega
  .exact λe=>by have:=h.s.lt _ e;omega
  .exact λe=>by have:=h.m.lt _ e;omega
 have k05:Kp [] w0 w5:=h.base f05 kw hN;have hg5:=hg.kp0 k05;have he5:=he.kp k05;have hw5:=h5.hw;have lw5:=lt_of_heap hw5;refine gg ?_;refine .split (λc9=>?_) (λc9=>?_)
 .refine gg ?_;refine Cl.ret (IP h5 omg _ hoa) ?_;rintro _ w12 ⟨k12,s,rfl,hs⟩;refine Cl.ret (q_read (hg5.kp0 k12) (he5.kp k12) s hs) ?_;rintro _ w14 ⟨k14,pv,rfl,hpv⟩;have h14:=h5.kp0 (k12.tt k14);have f14:=f05.trans (Fr.kp0 (k12.tt k14)) hlw;have hw14:=h14.hw;unfold jd at hw14;refine gJ ?_;refine Jn.by (λvals w'=>vals=[]/\∃x',WS N (k+2) wb w' x'/\Fr wb w x w' x') (λJ hJ=>?_) ?_
  .rcases hpv with rfl|hpv
   .refine gg ?_;exact hJ _ _ ⟨rfl,x5,h14.mono omg,f14⟩
   .obtain⟨_,_,_,_,b,_,_,_,_,_,rfl,_⟩:=hpv;refine .s ?_;refine .t ?_ rfl;refine vI ?_;refine h14.addSpec (y:=pt b 0) omg rfl rfl ?_;intro w28 x28 h28 f28 _ _;exact hJ _ _ ⟨rfl,x28,h28,f14.trans f28 hlw⟩
  .rintro _ w29 jk ⟨rfl,x',h',f'⟩;exact hR _ _ ⟨rfl,x',h',f'⟩
 .have n14:decide (op.k>14)=false:=decide_eq_false omg;unfold jd at hw5;refine vI ?_;refine .f ?_ n14;obtain⟨sa,sc,hsv⟩:=h5.s.len;refine vI ?_;rw[show ∀K,Ln false x5.sv K=Ln false (.slice sa x5.specs.length sc) K from λK=>by rw[hsv]];refine .t ?_;refine .s ?_;refine .split (λc1=>?_) (λc1=>?_)
  .exact hR _ _ ⟨rfl,x5,h5.mono omg,f05⟩
  have hp:0<x5.specs.length:=by
   have:=beq_eq_false_iff_ne.mp c1;omega
  rw[hsv]at hw5;have hs5:=h5.s;have hl3:=h5.l3;rw[hsv]at hs5;refine gg ?_;refine Cl.ret (NM op.x _ hox omg omg) ?_;rintro _ w52 ⟨⟨i,rfl,hi⟩,rfl⟩;have hi':i<x5.specs.length:=omg;obtain⟨b,cap,_,e2,hcell⟩:=gw_at hs5 (List.getElem?_eq_getElem hi');cases e2;refine .intro (by(repeat' first|refine .q ?_|refine .r ?_|refine .g ?_|fail);rfl) ?_;refine IaS.s ?_ hi';rw[Nat.zero_add,Nat.mul_one];refine Ld.by hcell ?_;refine gg ?_;have k5d:Kp [] w5 w5.drew:=by exact kpA
  refine Cl.ret (IP (h5.kp0 k5d) omg _ hoa) ?_;rintro _ w59 ⟨k59,s,rfl,hs⟩;have n59:w59.heap[w.heap.size]?=some (cl (opV op) 27):=((k5d.tt k59).same _ (lt_of_heap n5) trivial).trans n5;refine Jn.by (λvals w'=>vals=[.bool true]/\w'=w59) (λJ hJ=>?_) ?_
  .have m10:(op.k==10)=false:=beq_eq_false_iff_ne.mpr omg;have m11:(op.k==11)=false:=beq_eq_false_iff_ne.mpr omg;have m12:(op.k==12)=false:=beq_eq_false_iff_ne.mpr omg;have m13:(op.k==13)=false:=beq_eq_false_iff_ne.mpr omg;have m14:(op.k==14)=false:=beq_eq_false_iff_ne.mpr omg;refine gg ?_;exact hJ _ _ ⟨rfl,rfl⟩
  .rintro _ w1 jk ⟨rfl,rfl⟩;refine .s ?_;exact hR _ _ ⟨rfl,x5,(h5.kp0 (k5d.tt k59)).mono omg,f05.trans (Fr.kp0 (k5d.tt k59)) hlw⟩
end Go.W.T
namespace Go.W.T
open Go Go.W Go.M Go.Proofs
variable {w:World}
def qC(l:List OpR):List Value:=l.flatMap opV
def uT(w:World)(v:Value)(l:List OpR):Prop:=∃a c,v=.slice a l.length c/\∀(i:Nat) (o:OpR),l[i]?=some o->∃b off t fr cs,a=some ⟨b,off,none⟩/\w.heap[b]?=some (clf cs t fr)/\off+i*6+6<=cs.length/\(cs.drop (off+i*6)).take 6=opV o
theorem uT.kp(h:uT w v l)(k:Kp [] w w'):uT w' v l:=by
 obtain⟨a,c,h1,h2⟩:=h;refine⟨a,c,h1,λi o hi=>?_⟩;obtain⟨b,off,t,fr,cs,h3,h4,h5⟩:=h2 i o hi;exact⟨b,off,t,fr,cs,h3,(k.same _ (lt_of_heap h4) trivial).trans h4,h5⟩
theorem uT.gw(h:Gw w e 6 v l.length (qC l) o):uT w v l:=by
 obtain⟨h1,h2⟩:=h;cases o with
 |none=>
  obtain⟨rfl,h3⟩:=h2;have:l=[]:=List.length_eq_zero_iff.mp h3;subst this;exact⟨none,0,rfl,λi o hi=>by cases hi⟩
 |some b=>
  obtain⟨rest,cap,rfl,hb,hc⟩:=h2;refine⟨_,_,rfl,λi o hi=>⟨b,0,e,(0,0),qC l++rest,rfl,hb,?_⟩⟩;have:=aaB (l:=qC l++rest) (v:=opV o) (m:=6) (o:=0+i*6) rfl omg λj u hj=>by
   have h4:=G8 (f:=opV) (m:=6) (λ_=>rfl) hi hj;rw[List.getElem?_append_left (by rw[Nat.zero_add];exact(List.getElem?_eq_some_iff.mp h4).1),Nat.zero_add];exact h4
  exact⟨this.2,this.1⟩
theorem uT.ld{v:Value}{l:List OpR}(h:uT w v l){i:Nat}{o:OpR}(hi:l[i]?=some o){K:Value->Prop}(hK:∀b off,w.cell? ⟨b,off,none⟩=some (i64 o.k)->w.cell? ⟨b,off+5,none⟩=some (κs o.s)->(∀K':Value->Prop,K' (.agg (List.toArray (opV o)))->LdN (pt b off) 6 w K')->K (pt b off)):IaS 6 v (i64 i) K:=by
 obtain⟨a,c,rfl,h2⟩:=h;obtain⟨b,off,t,fr,cs,rfl,h4,h5,h6⟩:=h2 i o hi;have hlt:=(List.getElem?_eq_some_iff.mp hi).1;refine IaS.s ?_ hlt;have cell:∀j u,(opV o)[j]?=some u->w.cell? ⟨b,off+i*6+j,none⟩=some u:=λj u hj=>by
  rw[jM,h4,Option.bind_some,fM,List.getElem?_toArray];rw[<- h6,List.getElem?_take]at hj;split at hj
  .rw[List.getElem?_drop]at hj;exact hj
  .cases hj
 refine hK b (off+i*6) (cell 0 _ rfl) (cell 5 _ rfl) λK' hK'=>?_;refine sLdN b (off+i*6) 6 w K' ?_;rw[h4];refine⟨by simpa using h5,?_⟩;rw[show (List.toArray cs).toList=cs from rfl,h6];exact hK'
theorem abx{v:Value}{l:List OpR}(h:uT w v l)(hl:l.length<=140737488355328)(hs:∀o∈l,o.s.length<=140737488355328):Calls P 5 #[v] w
  (Ret λr w'=>w'=w/\∃b,r=.bool b/\(b=true->l.length<=16384/\∀o∈l,o.s.length<=16384)):=by
 refine Ret.R λR hR=>?_;refine cf [3,4] Tryz.func5 ?_;have h':=h;obtain⟨a,c,hv,_⟩:=h;rw[hv];refine gg ?_;refine .split (λc1=>?_) (λc1=>?_)
 .exact hR _ _ ⟨rfl,false,rfl,λe=>by cases e⟩
 have c1':=of_decide_eq_false c1;refine gg ?_;refine Lp.nat (λm vals w'=>∃(i n:Nat),m+i=l.length/\vals=[i64 n,i64 i]/\n<=16384/\w'=w/\∀j o,j<i->l[j]?=some o->o.s.length<=16384) (n:=l.length) ⟨0,l.length,omg,rfl,omg,rfl,λ_ _ h=>omg⟩ ?_;rintro m _ w' jk C ⟨i,n,hi,rfl,hn,rfl,hall⟩ hC;refine gg ?_;refine .split (λhh=>?_) (λhh=>?_)
 .have hlt:i<l.length:=by have:=of_decide_eq_true hh;omega
  have hio:=List.getElem?_eq_getElem hlt;have hos:=hs _ (List.getElem_mem hlt);rw[<- hv];refine h'.ld hio (λb off _ hc5 _=>?_);refine .s ?_;refine Ld.by hc5 ?_;refine gg ?_;refine .split (λc2=>?_) (λc2=>?_)
  .exact hR _ _ ⟨rfl,false,rfl,λe=>by cases e⟩
  have c2':=of_decide_eq_false c2;refine gg ?_;refine hC (m - 1) _ _ omg ⟨i+1,n+l[i].s.length,omg,by congr 1,omg,rfl,λj o hj ho=>?_⟩
  by_cases hji:j=i
  .subst hji;rw[hio]at ho;cases ho;omega
  .exact hall j o omg ho
 .have hge:=of_decide_eq_false hh;refine hR _ _ ⟨rfl,true,rfl,λ_=>⟨omg,λo ho=>?_⟩⟩;obtain⟨j,hj,rfl⟩:=List.mem_iff_getElem.mp ho;exact hall j _ omg (List.getElem?_eq_getElem hj)
def keeps(kinds:List Int)(n:Int):Bool:=decide (n<9)||kinds.contains n
theorem app_op(g:Gw w 27 6 v l.length (qC l) o)(hl:l.length<=1000000)
  (hC:∀v' w' o',Gw w' 27 6 v' (l++[op]).length (qC (l++[op])) o'->Mv w o o'->Kp (own o) w w'->C v' w'):
  BuS 27 6 [.agg (List.toArray (opV op))] w λx w1=>Ap 27 6 56 (.agg #[.int .i64 0,.int .i64 0,.int .i64 0,.int .i64 0,.int .i64 0,.string ⟨#[]⟩]) v x w1 C:=by
 refine .s ?_;refine Ap.w (λw9=>Kp [] w w9/\w9.heap[w.heap.size]?=some (cl (opV op) 27)) ⟨kpA,lookA⟩ ?_;rintro w9 ⟨k9,n9⟩;refine Ap.g (g.kp k9 (λ_ _=>trivial)) n9 rfl rfl ?_ omg;intro v' w10 o' g10 ho' k10;refine hC v' w10 o' ?_ (FY k9 ho') (k9.trans k10 λi _ h=>⟨trivial,h⟩);have e:qC (l++[op])=qC l++opV op:=by simp[qC]
 rw[List.length_append,e];exact g10
theorem aby{v:Value}{l:List OpR}{kinds:List Int}{kb kc:Nat}(h:uT w v l)(hkb:w.heap[kb]?=some (cl (ints kinds) 3))(hkl:kinds.length<=1000)(hl:l.length<=140737488355328)(hs:∀o∈l,o.s.length<=140737488355328)
  (hup:∀l' v' w',uT w' v' l'->Kp [] w w'->(∀o∈l',o∈l/\o.s.length<=16384/\keeps kinds o.k=true)->l'.length<=16384->Calls P 6 #[v'] w' (Ret λr w2=>r=i64 (-1)/\Kp [] w' w2)):
  Calls P 4 #[v,.slice (some ⟨kb,0,none⟩) kinds.length kc] w (Law w):=by
 refine Law.R λR hR=>?_;refine cf [6,7,9,10] Tryz.func4 ?_;refine Cl.ret (abx h hl hs) ?_;rintro _ w2 ⟨rfl,bb,rfl,hb⟩;refine .s ?_;cases bb with
 |false=>
  refine .t ?_ rfl;exact hR _ _ rfl (Kp.refl _ _)
 |true=>
 obtain⟨hb1,hb2⟩:=hb rfl;refine .f ?_ rfl;have h':=h;obtain⟨a,c,rfl,_⟩:=h
 refine Lp.nat (λm vals w'=>∃(i:Nat) (v7:Value) (l':List OpR) (o:Option Nat) (y9 y10:Value),m+i=l.length/\vals=[v7,i64 i,y9,y10]/\Gw w' 27 6 v7 l'.length (qC l') o/\(∀b,o=some b->w2.heap.size<=b)/\l'.length<=i/\Kp [] w2 w' /\
  ∀op∈l',op∈l/\op.s.length<=16384/\keeps kinds op.k=true) (n:=l.length) ⟨0,.slice none 0 0,[],none,_,_,omg,rfl,Gw.nil _ _ _,(λb hb=>by cases hb),Nat.le_refl _,Kp.refl _ _,λop h=>by cases h⟩ ?_
 rintro m _ w5 jk C ⟨i,v7,l',o,y9,y10,hi,rfl,g,go,gl,k5,hall⟩ hC;refine .s ?_;refine .t ?_;refine .s ?_;refine .split (λhh=>?_) (λhh=>?_)
 .have hlt:i<l.length:=by have:=of_decide_eq_true hh;omega
  have hio:=List.getElem?_eq_getElem hlt;have hmem:=List.getElem_mem hlt;generalize l[i]=op at *;have h5:=h'.kp k5;have hkb5:=(k5.same _ (lt_of_heap hkb) trivial).trans hkb
  refine Jn.by (λvals w'=>∃(v7:Value) (l':List OpR) (o:Option Nat) (y9 y10:Value),vals=[v7,y9,y10]/\Gw w' 27 6 v7 l'.length (qC l') o/\(∀b,o=some b->w2.heap.size<=b)/\l'.length<=i+1/\Kp [] w2 w' /\
   ∀op∈l',op∈l/\op.s.length<=16384/\keeps kinds op.k=true) (λJ hJ=>?_) ?_
  .refine h5.ld hio (λb off hc0 _ _=>?_);refine .s ?_;refine Ld.by hc0 ?_;refine .s ?_;refine Lp.nat (λm vals w'=>∃j:Nat,m+j=kinds.length/\vals=[.bool (decide (op.k<9)||(kinds.take j).contains op.k),i64 j]/\w'=w5) (n:=kinds.length) ⟨0,omg,smp,rfl⟩ ?_;rintro m2 _ w19 jk2 C2 ⟨j,hj,rfl,rfl⟩ hC2;refine .s ?_;refine .t ?_;refine .s ?_;refine .split (λhh2=>?_) (λhh2=>?_)
   .have hlt2:j<kinds.length:=by have:=of_decide_eq_true hh2;omega
    have hjo:=List.getElem?_eq_getElem hlt2;have e2:(kinds.take (j+1)).contains op.k=((kinds.take j).contains op.k||(op.k==kinds[j])):=by
     rw[List.take_add_one,hjo,List.contains_append];rw[Bool.eq_iff_iff];simp
    have hne:∀y,y=(decide (op.k<9)||(kinds.take (j+1)).contains op.k)->C2 [.bool y,i64 ((j:Int)+1)] w19:=λy hy=>by
     refine hC2 (m2 - 1) _ _ omg ⟨j+1,omg,by rw[hy];congr 1,rfl⟩
    rw[e2,<- Bool.or_assoc]at hne;cases hkk:(decide (op.k<9)||(kinds.take j).contains op.k)with
    |true=>
     rw[hkk]at hne;refine gg ?_;exact hne _ rfl
    |false=>
     rw[hkk]at hne;have hcell:(ints kinds)[0+j*1]?=some (i64 kinds[j]):=by simp[ints,hlt2]
     have hc2:w19.cell? ⟨kb,0+j*1,none⟩=some (i64 kinds[j]):=by
      rw[jM,hkb5,Option.bind_some,fM,List.getElem?_toArray];exact hcell
     refine .t ?_;refine .t ?_;refine .t ?_;refine .t ?_;refine IaS.s ?_ hlt2;refine .t ?_;refine Ld.by hc2 ?_;refine .t ?_;refine .s ?_;refine .f ?_;refine .a ?_;exact hne _ rfl
   .refine .split (λc1=>?_) (λc1=>?_)
    .refine h5.ld hio (λb off _ _ hld=>?_);refine hld _ ?_;refine app_op g omg ?_;intro v' w' o' g' m' k';refine hJ _ _ ⟨v',_,o',_,_,rfl,g',m'.geN go k5.size,by simp;omega,k5.own k' go,λy hy=>?_⟩;rcases List.mem_append.mp hy with hy|hy
     .exact hall y hy
     .rw[List.mem_singleton.mp hy];refine⟨hmem,hb2 _ hmem,?_⟩;have:j=kinds.length:=by have:=of_decide_eq_false hh2;omega
      rw[this,List.take_length]at c1;exact c1
    .exact hJ _ _ ⟨v7,l',o,_,_,rfl,g,go,omg,k5,hall⟩
  .rintro _ w57 jk2 ⟨v7,l',o,y9,y10,rfl,g,go,gl,k57,hall⟩;refine .s ?_;refine .a ?_;exact hC (m - 1) _ _ omg ⟨i+1,v7,l',o,y9,y10,omg,rfl,g,go,gl,k57,hall⟩
 .refine Cl.ret (hup l' v7 w5 (uT.gw g) k5 hall omg) ?_;rintro _ w61 ⟨rfl,k61⟩;refine .s ?_;exact hR _ _ rfl (k5.tt k61)
end Go.W.T
namespace Go.W.T
open Go Go.W Go.M Go.Proofs
variable {w:World}
def OpI(o:OpR):Prop:=I6 o.k/\I6 o.x/\I6 o.a/\I6 o.b/\I6 o.c
def x00:Wd:=⟨[],[],[],0,0,0,[],[],.slice none 0 0,.slice none 0 0,.slice none 0 0,.slice none 0 0,none,none,none,none⟩
theorem X8(h:w'.heap[w.heap.size]?=some (cl (jd x00) 35)):WS w.heap.size 0 w.heap.size w' x00:=
 ⟨h,Gw.nil _ _ _,Gw.nil _ _ _,Gw.nil _ _ _,Gw.nil _ _ _,Nat.le_refl _,(λb hb=>by cases hb),(λb hb=>by cases hb),(λb hb=>by cases hb),(λb hb=>by cases hb),Nat.le_refl _,Nat.le_refl _,Nat.le_refl _,Nat.le_refl _,(λs h=>by cases h),(λs h=>by cases h),⟨dcd,dcd⟩,⟨dcd,dcd⟩,⟨dcd,dcd⟩,Nat.zero_le _⟩
theorem abu(hg:Gl w)(he:JW w)(h:uT w v l)(hl:l.length<=16384)(hok:∀o∈l,OpOk o/\o.k<=9):Calls P 6 #[v] w (Ret λr w2=>r=i64 (-1)/\Kp [] w w2):=by
 refine Ret.R λR hR=>?_;refine cf [4] Tryz.func6 ?_;have hlt0:=h;obtain⟨a,c,rfl,_⟩:=h;refine gg ?_;have k3:Kp [] w (w.alloc (cl (jd x00) 35)):=by exact kpA
 have n3:(w.alloc (cl (jd x00) 35)).heap[w.heap.size]?=some (cl (jd x00) 35):=by exact lookA
 refine Lp.nat (λm vals w'=>∃(i:Nat) (x:Wd),m+i=l.length/\vals=[i64 i]/\WS w.heap.size (2*i) w.heap.size w' x/\Kp [] w w') (n:=l.length) ⟨0,x00,omg,rfl,X8 n3,k3⟩ ?_;rintro m _ w5 jk C ⟨i,x,hi,rfl,h5,k5⟩ hC;refine gg ?_;refine .split (λhh=>?_) (λhh=>?_)
 .have hlt:i<l.length:=by have:=of_decide_eq_true hh;omega
  obtain⟨ho,h9⟩:=hok _ (List.getElem_mem hlt);refine(hlt0.kp k5).ld (List.getElem?_eq_getElem hlt) (λb off _ _ hld=>?_);refine hld _ ?_;refine Cl.ret (abw h5 omg ho h9 k5 rfl hg he) ?_;rintro _ w13 ⟨rfl,x',h13,f13⟩;refine .s ?_;refine .f ?_ rfl;refine .a ?_;exact hC (m - 1) _ _ omg ⟨i+1,x',omg,rfl,h13.mono omg,h5.base f13 k5 rfl⟩
 .exact hR _ _ ⟨rfl,k5⟩
theorem aa0(hg:Gl w)(he:JW w)(h:uT w v l)(hl:l.length<=140737488355328)(hs:∀o∈l,o.s.length<=140737488355328)(hi:∀o∈l,OpI o):Calls P 3 #[v] w (Law w):=by
 refine Law.R λR hR=>?_;refine cf [] Tryz.func3 ?_;refine BuS.s (l:=ints [9]) (n:=1) ?_;have k1:Kp [] w (w.alloc (cl (ints [9]) 3)):=by exact kpA
 have n1:(w.alloc (cl (ints [9]) 3)).heap[w.heap.size]?=some (cl (ints [9]) 3):=by exact lookA
 generalize w.alloc (cl (ints [9]) 3)=w1 at *;have hp:=aby (kinds:=[9]) (kb:=w.heap.size) (kc:=1) (h.kp k1) n1 dcd hl hs λl' v' w' h' k' hall hl'=>abu (hg.kp0 (k1.tt k')) (he.kp (k1.tt k')) h' hl' λo ho=>by
  obtain⟨hm,hsm,hk⟩:=hall o ho;obtain⟨i1,i2,i3,i4,i5⟩:=hi o hm;refine⟨⟨i1,i2,i3,i4,i5,hsm⟩,?_⟩;unfold keeps at hk;simp at hk;omega
 refine Cl.ret (Q:=λv w'=>v=.bool true/\Kp [] w1 w') (hp.mono λen w' hh=>⟨_,hh.1,rfl,hh.2⟩) ?_;rintro _ w3 ⟨rfl,k3⟩;exact hR _ _ rfl (k1.tt k3)
end Go.W.T
