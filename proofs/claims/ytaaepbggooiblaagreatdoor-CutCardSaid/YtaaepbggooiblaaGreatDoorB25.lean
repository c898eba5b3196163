/- Texts of mine, one behind the other; nothing is assumed. -/
import Derived.Test.YtaaepbggooiblaaGreatDoorB23
import Derived.Test.YtaaepbggooiblaaGreatDoorB06
import Derived.Test.YtaaepbggooiblaaGreatDoorB24
set_option linter.unusedSimpArgs false
set_option linter.unusedVariables false
set_option maxRecDepth 4000
namespace Go.W
open Go
def aG(l:List UInt8):List Value:=l.map fun b=>.int .u8 b.toNat
theorem PH(l:List UInt8):(aG l).all (·.oneCell')=true:=by
 induction l with
 |nil=>rfl
 |cons a r ih=>rw[aG,List.map_cons,List.all_cons];rw[aG]at ih;rw[ih];rfl
theorem fJ(l:List UInt8):(aG l).length=l.length:=by simp[aG]
theorem Ap.str{e bytes:Nat}{zero v:Value}{s:List UInt8}{l:List Value}{w:World}{K:KV}{n:Nat}{o:Option Nat}
  (hg:Gw w e 1 v n l o)
  (hK:∀v' w' o',Gw w' e 1 v' (n+s.length) (l++aG s) o'→(o'=o∨o'=some w.heap.size)→Kp (own o) w w'→K v' w')
  (hb:(n+s.length)*bytes≤140737488355328) (hz:zero.cells.size=1:=by rfl):Ap e 1 bytes zero v (.string (bs s)) w K:=by
 refine⟨?_⟩
 have hsrc:bZ 1 (.string (bs s)) w=some (s.length,aG s):=by
  have h1:(bs s).size=s.length:=rfl
  have h2:(bs s).data.toList=s:=by simp[bs]
  simp only[bZ,h1,h2];rfl
 obtain⟨hl,hg2⟩:=hg
 rw[Nat.mul_one]at hl
 have hbl:=fJ s
 have hlen:((l++aG s).length)=(n+s.length)*1:=by rw[List.length_append,hl,hbl,Nat.mul_one]
 cases o with
 |none=>
  obtain⟨rfl,rfl⟩:=hg2
  have hl0:l=[]:=List.length_eq_zero_iff.mp hl
  subst hl0
  unfold ApD
  refine⟨s.length,aG s,hsrc,?_⟩
  by_cases h0:0+s.length≤0
  ·rw[if_pos h0]
   have hs0:s=[]:=List.length_eq_zero_iff.mp (by omega)
   subst hs0
   exact hK _ _ none ⟨hlen,rfl,rfl⟩ (Or.inl rfl) (Kp.refl _ _)
  rw[if_neg h0]
  refine⟨by simpa using hb,[],0,by simp[bZ],fun c hc=>?_⟩
  refine hK _ _ (some w.heap.size) ⟨hlen,(Builtin.zeroCells zero.cells (c - (0+s.length))).toList,c,?_,?_,?_⟩ (Or.inr rfl) ?_
  ·simp
  ·rw[dM (by rfl)]
   simp only[List.nil_append,Array.empty_append,cl]
   congr 2
   apply Array.toList_inj.mp
   simp only[Array.toList_append]
  ·have hc':0+s.length≤c:=hc
   have e9:(Builtin.zeroCells zero.cells (c - (0+s.length))).toList.length=c - (0+s.length):=by rw[Array.length_toList,iF,hz,Nat.mul_one]
   rw[hlen,e9];omega
  ·exact((Kp.refl _ _).drew).alloc _
 |some b=>
  obtain⟨rest,cap,rfl,hbb,hcap⟩:=hg2
  unfold ApD
  refine⟨s.length,aG s,hsrc,?_⟩
  by_cases hfit:n+s.length≤cap
  ·rw[if_pos hfit]
   have hsz:n*1+(aG s).length≤(List.toArray (l++rest)).size:=by simp;omega
   have hadd:(Addr.add ⟨b,0,none⟩ (n*1))=⟨b,n*1,none⟩:=by rw[add_eq,Nat.zero_add]
   simp only[]
   rw[hadd,lK e (aG s) w b (n*1) 0 (List.toArray (l++rest)) hbb (by rw[Nat.add_zero];exact hsz) (PH s)]
   refine hK _ _ (some b) ⟨hlen,rest.drop s.length,cap,rfl,?_,?_⟩ (Or.inl rfl) ?_
   ·rw[lM hbb]
    congr 2
    unfold putAt
    congr 1
    have e1:List.take (n*1) (l++rest)=l:=by rw[Nat.mul_one,← hl,List.take_left'];rfl
    have e2:List.drop (n*1+(aG s).length) (l++rest)=rest.drop s.length:=by rw[Nat.mul_one,← hl,hbl,← List.drop_drop,List.drop_left'];rfl
    simp only[Nat.add_zero,e1,e2,List.append_assoc]
   ·rw[hlen,List.length_drop];omega
   ·exact Kp.Ji (Kp.refl _ _) (by simp[own,Out]) _
  ·rw[if_neg hfit]
   have hcn:bI w ⟨b,0,none⟩ 0 (n*1)=some l:=by
    rw[iR hbb (n*1) 0 (by rw[List.length_append];omega)]
    simp[← hl]
   refine⟨hb,l,n,by simp only[bZ,hcn];rfl,fun c hc=>?_⟩
   refine hK _ _ (some w.heap.size) ⟨hlen,(Builtin.zeroCells zero.cells (c - (n+s.length))).toList,c,rfl,?_,?_⟩ (Or.inr rfl) ?_
   ·rw[dM (by rfl)]
    congr 2
    apply Array.toList_inj.mp
    simp only[Array.toList_append]
   ·have hc':n+s.length≤c:=hc
    have e9:(Builtin.zeroCells zero.cells (c - (n+s.length))).toList.length=c - (n+s.length):=by rw[Array.length_toList,iF,hz,Nat.mul_one]
    rw[hlen,e9];omega
   ·exact((Kp.refl _ _).drew).alloc _
end Go.W
namespace Go.W.T
open Go Go.W Go.M Go.Proofs
abbrev RU(v:Value)(k:Nat)(lim:Lim)(cp a buf:Value):List Value:=[v,i64 (k:Nat),.int .i64 lim.depth,.int .i64 lim.fuel,.int .i64 lim.size,cp,a,buf]
theorem XL:P.underlying 136=some (.pointer 139):=by kernel_rfl
theorem u167:P.underlying 167=some .unsafePointer:=by kernel_rfl
theorem WI:(P.info? 139).map (·.size)=some 2:=by kernel_rfl
theorem abE:liesAt P P.depth aO (8 / P.cellsOf aO) 6 139 1=true:=by kernel_rfl
theorem bH.ok{P:Program}{s:Sem Value}{w w':World}{v:Value}{K:KV}(h:s.run P w=.ok v w')(hK:K v w'):bH P s w K:=⟨by unfold UX;rw[h];exact hK⟩
theorem eH.val{P:Program}{s:Sem Next}{w w':World}{v:Value}{E:KE}{K:KV}(h:s.run P w=.ok (.value v) w')(hK:K v w'):eH P s w E K:=⟨by unfold Iz;rw[h];exact hK⟩
theorem SL{w:World}{eb:Nat}{c0 c1 c2 c3 c4 c5 a buf:Value}(h:w.heap[eb]?=some (cl [c0,c1,c2,c3,c4,c5,a,buf] aO))(ha:a=.pointer none∨a=pt eb 6):
  Calls P fQ #[pt eb 6] w (Ret fun _ w'=>w'.heap[eb]?=some (cl [c0,c1,c2,c3,c4,c5,pt eb 6,buf] aO)∧Kp [(eb,eb+1)] w w'):=by
 refine Ret.R fun R hR=>?_
 apply jZ
 unfold fO
 obtain⟨j,hj,hjs⟩:=Option.map_eq_some_iff.1 WI
 have hlt:=lt_of_heap h
 have hsh:w.shape? eb=some (aO,8):=by simp[World.shape?,h,cl]
 rcases ha with rfl|rfl
 ·repeat' first|refine .x ?_|refine .y ?_|refine .z ?_|fail
  refine bH.ok (Lib.run_to_unsafe w ⟨eb,6,none⟩ XL u167 hj (by rw[hjs];decide) hsh (by decide:(6:Nat)<8)) ?_
  refine eH.val (v:=pt eb 6) (w':=w) ?_ ?_
  ·rw[run_callFunc_extern Tryz.func132 (by kernel_rfl) (by kernel_rfl) (by kernel_rfl) (e:=Extern.AbiNoEscape.same) (by kernel_rfl),Lib.run_noEscape]
   rfl
  refine bH.ok (Lib.run_from_unsafe w ⟨eb,6,none⟩ u167 XL hj hsh abE) ?_
  repeat' first|refine .x ?_|refine .y ?_|refine .z ?_|fail
  exact hR _ _ ⟨by exact lookA,by exact kpA⟩
 ·refine .s ?_
  refine .s ?_
  refine .s ?_
  refine .s ?_
  refine If.f ?_ rfl
  repeat' first|refine .x ?_|refine .y ?_|refine .z ?_|fail
  refine bH.ok (v:=.bool false) (w':=w) ?_ ?_
  ·have h1:=Lib.run_neq_ptr_same w ⟨eb,6,none⟩ XL hj
   simp[eqGuard]
   exact h1
  refine If.f ?_ rfl
  exact hR _ _ ⟨h,Kp.refl _ _⟩
theorem w_wstr{w:World}{eb:Nat}{c0 c1 c2 c3 c4 c5 a buf:Value}{n:Nat}{l:List Value}{o:Option Nat}(s:By)(h:w.heap[eb]?=some (cl [c0,c1,c2,c3,c4,c5,a,buf] aO))(ha:a=.pointer none∨a=pt eb 6)
  (hg:Gw w 5 1 buf n l o) (ho:∀b,o=some b→b≠eb) (hn:n+s.length≤4000000000):
  Calls P dB #[pt eb 6,κs s] w (Ret fun _ w'=>∃buf' o',w'.heap[eb]?=some (cl [c0,c1,c2,c3,c4,c5,pt eb 6,buf'] aO)∧Gw w' 5 1 buf' (n+s.length) (l++aG s) o'∧(∀b,o'=some b→b≠eb∧(o=some b∨w.heap.size≤b))∧Kp ((eb,eb+1)::own o) w w'):=by
 refine Ret.R fun R hR=>?_
 apply jA
 unfold eY
 have hlt:=lt_of_heap h
 refine Cl.ret (SL h ha) ?_
 rintro v w1 ⟨h1,k1⟩
 have s1:=k1.size
 have g1:=hg.kp k1 (fun b hb=>⟨by have:=ho b hb;omega,trivial⟩)
 obtain⟨va,vc,rfl⟩:=g1.len
 repeat' first|refine .x ?_|refine .y ?_|refine .z ?_|fail
 refine Ap.str g1 ?_ (by omega)
 intro v' w2 o' g2 ho' k2
 have z2:=k2.size
 obtain⟨aa',ca',rfl⟩:=g2.len
 have c2':w2.heap[eb]?=some (cl [c0,c1,c2,c3,c4,c5,pt eb 6,.slice va n vc] aO):=(k2.same _ (by omega) (aB fun e=>ho eb e rfl)).trans h1
 repeat' first|refine .x ?_|refine .y ?_|refine .z ?_|fail
 refine(fun(Q:∀w9,Kp [(eb,eb+1)] w2 w9∧w9.heap[eb]?=some (cl [c0,c1,c2,c3,c4,c5,pt eb 6,.slice aa' (n+s.length) ca'] aO)→R (.returned (.tuple #[i64 (s.length:Nat),.nilIface])) w9)=>Q _ ⟨by exact kpA,by exact lookA⟩) ?_
 rintro w3 ⟨k3,c3'⟩
 have hoo:∀b,o'=some b→b≠eb∧(o=some b∨w.heap.size≤b):=by
  rintro b rfl
  rcases ho' with r|r
  ·exact⟨ho b r.symm,Or.inl r.symm⟩
  ·have:=Option.some.inj r;exact⟨by omega,Or.inr (by omega)⟩
 refine hR _ _ ⟨_,o',c3',g2.kp k3 (fun b hb=>⟨by have:=(hoo b hb).1;omega,trivial⟩),hoo,?_⟩
 exact((k1.trans k2 (fun i _ ho=>⟨⟨ho.1,trivial⟩,ho.2⟩):Kp ((eb,eb+1)::own o) w w2)).trans k3 (fun i _ ho=>⟨ho,ho.1,trivial⟩)
end Go.W.T
namespace Go.W.T
open Go Go.W Go.M Go.Proofs
theorem Fv(s:By):bytesOf (aG s)=some s:=by
 induction s with
 |nil=>rfl
 |cons a r ih=>
  rw[aG,List.map_cons]
  rw[aG]at ih
  simp only[bytesOf]
  rw[ih,Option.map_some,Int.toNat_natCast,UInt8.ofNat_toNat]
theorem IK{w:World}(n:Nat)(hn:n<4294967296):Calls P ET #[.int .u32 (n:Nat)] w (Ret fun v w'=>v=κs (cZ n)∧Kp [] w w'):=by
 refine Ret.R fun R hR=>?_
 apply OQ
 unfold Ec
 repeat' first|refine .x ?_|refine .y ?_|refine .z ?_|fail
 have h1:∀k m:Nat,2 ^ k=m→k≤24→0<m→IntKind.u8.wrap (((n:Nat):Int).fdiv (2 ^ k))=((wH (n / m % 256)).toNat:Int):=by
  intro k m hm hk h0
  have e:((2:Int) ^ k)=((m:Nat):Int):=by rw[← hm];push_cast;rfl
  rw[e,IntKind.wrap_u8,Int.fdiv_eq_ediv_of_nonneg _ (by omega),← Int.natCast_ediv]
  unfold wH
  have:n / m % 256<256:=Nat.mod_lt _ (by decide)
  rw[UInt8.toNat_ofNat_of_lt' (by simpa using this)]
  omega
 have h2:IntKind.u8.wrap ((n:Nat):Int)=((wH (n % 256)).toNat:Int):=by
  rw[IntKind.wrap_u8]
  unfold wH
  have:n % 256<256:=Nat.mod_lt _ (by decide)
  rw[UInt8.toNat_ofNat_of_lt' (by simpa using this)]
  omega
 rw[show min (Int.toNat 24) IntKind.u32.bits=24 from rfl,show min (Int.toNat 16) IntKind.u32.bits=16 from rfl,show min (Int.toNat 8) IntKind.u32.bits=8 from rfl,
  h1 24 16777216 (by decide) (by decide) (by decide),h1 16 65536 (by decide) (by decide) (by decide),h1 8 256 (by decide) (by decide) (by decide),h2]
 refine(fun(Q:∀w9,Kp [] w w9∧w9.heap[w.heap.size]?=some (cl (aG (cZ n)) 5)→CvB _ w9 (fun x10=>R (.returned x10) w9))=>Q _ ⟨by exact kpA,by simp only[cZ,aG,List.map_cons,List.map_nil];exact lookA⟩) ?_
 rintro w9 ⟨k9,n9⟩
 refine⟨?_⟩
 unfold Yq
 have hc:bI w9 ⟨w.heap.size,0,none⟩ 0 4=some (aG (cZ n)):=by
  rw[iR n9 4 0 (by rw[fJ];exact Nat.le_refl 4)]
  rfl
 simp only[hc,Fv]
 exact hR _ _ ⟨rfl,k9⟩
end Go.W.T
namespace Go.W
open Go
abbrev clf(l:List Value)(t:TypeId)(fr:Nat×Nat):Obj:=.cells (List.toArray l) t fr
theorem Ld.t{w:World}{b o:Nat}{l:List Value}{t:TypeId}{fr:Nat×Nat}{x:Value}{K:Value→Prop}(hK:K x)(h:w.heap[b]?=some (clf l t fr):=by exact lookA)(hx:l[o]?=some x:=by first|rfl|assumption):Ld (pt b o) w K:=by
 rw[sLd,h]
 show (match (List.toArray l)[o]? with|some x=>K x|none=>False)
 rw[List.getElem?_toArray,hx];exact hK
abbrev Ld.y:=@Ld.t
theorem LdN.t{w:World}{b o n:Nat}{l:List Value}{t:TypeId}{fr:Nat×Nat}{l':List Value}{K:Value→Prop}(hK:K (.agg (List.toArray l')))(h:w.heap[b]?=some (clf l t fr):=by exact lookA)(hx:o+n≤l.length)(hl:(l.drop o).take n=l'):LdN (pt b o) n w K:=by
 apply sLdN
 rw[h]
 refine⟨by simpa using hx,?_⟩
 rw[hl];exact hK
abbrev LdN.y:=@LdN.t
end Go.W
namespace Go.W.T
open Go Go.W Go.M Go.Proofs
def FK(w:World)(v:Value)(l:List Nd):Prop:=(∃a c,v=.slice a l.length c)∧(l≠[]→∃b off t fr cs c,v=.slice (some ⟨b,off,none⟩) l.length c∧w.heap[b]?=some (clf cs t fr)∧off+l.length*5≤cs.length∧(cs.drop off).take (l.length*5)=gQ l)
theorem FK.of{w w':World}{v:Value}{l:List Nd}(h:FK w v l)(hk:∀b x,w.heap[b]?=some x→(∃off n c,v=.slice (some ⟨b,off,none⟩) n c)→w'.heap[b]?=some x):FK w' v l:=by
 refine⟨h.1,fun hn=>?_⟩
 obtain⟨b,off,t,fr,cs,c,h1,h2,h3⟩:=h.2 hn
 exact⟨b,off,t,fr,cs,c,h1,hk b _ h2 ⟨off,_,c,h1⟩,h3⟩
theorem FK.kp{w w':World}{v:Value}{l:List Nd}(h:FK w v l)(k:Kp [] w w'):FK w' v l:=h.of fun b x hb _=>(k.same b (lt_of_heap hb) trivial).trans hb
theorem Jp:∀{l:List Nd} {k:Nat} {n:Nd},l[k]?=some n→((gQ l).drop (k*5)).take 5=jL n
 |a::r,0,n,h=>by simp at h;subst h;simp[gQ,jL]
 |a::r,k+1,n,h=>by
  have h':r[k]?=some n:=by simpa using h
  rw[gQ,List.flatMap_cons]
  have e:(k+1)*5=(jL a).length+k*5:=by simp[jL];omega
  rw[e,← List.drop_drop,List.drop_left']
  ·exact Jp h'
  ·rfl
theorem FK.at{w:World}{v:Value}{l:List Nd}{k:Nat}{n:Nd}(h:FK w v l)(hk:l[k]?=some n):∃b off t fr cs c,v=.slice (some ⟨b,off,none⟩) l.length c∧w.heap[b]?=some (clf cs t fr)∧off+k*5+5≤cs.length∧(cs.drop (off+k*5)).take 5=jL n:=by
 have hlt:k<l.length:=by
  rcases Nat.lt_or_ge k l.length with h|h
  ·exact h
  ·rw[List.getElem?_eq_none h]at hk;cases hk
 obtain⟨b,off,t,fr,cs,c,h1,h2,h3,h4⟩:=h.2 (fun e=>by subst e;cases hk)
 refine⟨b,off,t,fr,cs,c,h1,h2,by omega,?_⟩
 have h5:=Jp hk
 rw[← h4]at h5
 rw[← List.drop_drop,← h5,List.drop_take,List.take_take]
 congr 1
 omega
structure ER (w0:World) (eb:Nat) (cp:Value) (lim:Lim) (F:Nat→Prop) (w:World) (e:ES):Prop where
 hM:w0.heap.size≤eb
 c:∃v a buf o,w.heap[eb]?=some (cl (RU v e.k lim cp a buf) aO)∧(a=.pointer none∨a=pt eb 6)∧FK w0 v e.l∧Gw w 5 1 buf e.out.length (aG e.out) o∧∀b,o=some b→b≠eb∧F b
 fd:F eb
 fM:∀b,F b→w0.heap.size≤b
 fl:∀b,F b→b<w.heap.size
 kb:e.k≤1000000
 ob:e.out.length≤1000000
 lf:lim.fuel≤1000000
 ls:lim.size≤1000000
 nb:∀n∈e.l,n.s.length≤140737488355328
 lb:e.l.length≤140737488355328
theorem ER.ext{w0:World}{eb:Nat}{cp:Value}{lim:Lim}{F G:Nat→Prop}{w w':World}{e:ES}(h:ER w0 eb cp lim F w e)(k:Kf G w w')(hd:∀i,F i→¬ G i):ER w0 eb cp lim F w' e:=by
 obtain⟨v,a,buf,o,h1,h2,h3,h4,h5⟩:=h.c
 exact { h with c:=⟨v,a,buf,o,(k.same _ (lt_of_heap h1) (hd _ h.fd)).trans h1,h2,h3,Hg h4 k (fun b hb=>hd _ (h5 b hb).2),h5⟩,fl:=fun b hb=>Nat.lt_of_lt_of_le (h.fl b hb) k.size }
theorem ER.kp{w0:World}{eb:Nat}{cp:Value}{lim:Lim}{F:Nat→Prop}{w w':World}{e:ES}(h:ER w0 eb cp lim F w e)(k:Kp [] w w'):ER w0 eb cp lim F w' e:=h.ext (Kp.kf k:Kf (fun _=>False) w w') (fun _ _ f=>f)
theorem Hw{w0:World}{eb:Nat}{cp:Value}{lim:Lim}{F:Nat→Prop}{w:World}{e:ES}(h:ER w0 eb cp lim F w e)(b:Bool):
  Calls P qR #[pt eb 0,.bool b] w (PostF F w (e.must b) fun _ _ F' w'=>F'=F∧w'=w∧b=true):=by
 refine PostF.R fun R M hM hok hno=>?_
 apply BI
 unfold qo
 obtain⟨v,a,buf,o,h1,h2,h3,h4,h5⟩:=h.c
 rw[ES.must]at hM
 cases b with
 |true=>
  repeat' first|refine .x ?_|refine .y ?_|refine .z ?_|fail
  exact hok _ _ F _ hM (Kf.refl _ _) (fun i hi=>Or.inl hi) ⟨rfl,rfl,rfl⟩
 |false=>
  simp only[Bool.false_eq_true,if_false]at hM
  repeat' first|refine .x ?_|refine .y ?_|refine .z ?_|fail
  exact Cl.wV fun ch w' hf hk=>hno _ _ _ _ hM (Kp.kf hk) hf
theorem IL{w0:World}{eb:Nat}{cp:Value}{lim:Lim}{F:Nat→Prop}{w:World}{e:ES}(h:ER w0 eb cp lim F w e)(k0:Kp [] w0 w)(kind:Nat):
  Calls P qQ #[pt eb 0,i64 (kind:Nat)] w (PostF F w (e.take lim kind) fun n v F' w'=>v=.agg (jL n).toArray∧F'=F∧Kp [] w w'∧n∈e.l∧(e.k:Int)<lim.fuel):=by
 refine PostF.R fun R M hM hok hno=>?_
 apply BH
 unfold qm
 obtain⟨v,a,buf,o,h1,h2,h3,h4,h5⟩:=h.c
 have hlt:=lt_of_heap h1
 rw[ES.take]at hM
 refine .s ?_
 refine Jn.by (fun _ w'=>Kp [] w w'∧w.heap.size<w'.heap.size∧w'.heap[w.heap.size]?=some (cl [.int .i64 0,.int .i64 0,.string ⟨#[]⟩,.int .i64 0,.int .i64 0] 52)∧¬ lim.fuel≤e.k) (fun J hJ=>?_) ?_
 ·repeat' first|refine .x ?_|refine .y ?_|refine .z ?_|fail
  refine .split (fun hc=>?_) (fun hc=>?_)
  ·have hc':((e.k:Nat):Int)≥lim.fuel:=of_decide_eq_true hc
   rw[if_pos (by omega)]at hM
   repeat' first|refine .x ?_|refine .y ?_|refine .z ?_|fail
   refine Cl.w (fun w9=>Kp [] w w9) (by exact kpA) ?_
   intro w9 k9
   exact Cl.wV fun ch w' hf hk=>hno _ _ _ _ hM (Kp.kf (k9.tt hk)) hf
  ·have hc':¬ ((e.k:Nat):Int)≥lim.fuel:=of_decide_eq_false hc
   exact hJ _ _ ⟨by exact kpA,by simp,by exact lookA,by omega⟩
 rintro _ w1 jk ⟨k1,z1,n1,hfu⟩
 rw[if_neg hfu]at hM
 have h3':=h3
 obtain⟨⟨va,vc,rfl⟩,_⟩:=h3
 have c1:=(k1.same _ hlt trivial).trans h1
 have kb:=h.kb
 have hlb:=h.lb
 refine Jn.by (fun _ w'=>Kp [] w1 w'∧∃n,e.l[e.k]?=some n∧n.kind=kind) (fun J hJ=>?_) ?_
 ·repeat' first|refine .x ?_|refine .y ?_|refine .z ?_|fail
  rcases Nat.lt_or_ge e.k e.l.length with hkl|hkl
  ·obtain⟨n,hn⟩:∃n,e.l[e.k]?=some n:=⟨_,List.getElem?_eq_getElem hkl⟩
   obtain⟨b,off,t,fr,cs,c,a1,a2,a3,a4⟩:=h3'.at hn
   have hge:decide (((e.k:Nat):Int)≥((e.l.length:Nat):Int))=false:=decide_eq_false (by omega)
   cases a1
   rw[hge]
   rw[hn]at hM
   simp only at hM
   have a2':w1.heap[b]?=some (clf cs t fr):=((k0.tt k1).same _ (lt_of_heap a2) trivial).trans a2
   have a0:cs[off+e.k*5]?=some (.int .i64 n.kind):=by
    have:=congrArg (fun l=>l[0]?) a4
    simp only[List.getElem?_take,List.getElem?_drop,jL]at this
    simpa using this
   repeat' first|refine .x ?_|refine .y ?_|refine .z ?_|fail
   cases hkd:(n.kind==(kind:Int))with
   |true=>
    refine If.f ?_ (by simp[bne,hkd])
    exact hJ _ _ ⟨by exact kpA,n,hn,by simpa using hkd⟩
   |false=>
    simp only[hkd,Bool.false_eq_true,if_false]at hM
    refine If.t ?_ (by simp[bne,hkd])
    repeat' first|refine .x ?_|refine .y ?_|refine .z ?_|fail
    refine Cl.w (fun w9=>Kp [] w w9) (by exact kpA) ?_
    intro w9 k9
    exact Cl.wV fun ch w' hf hk=>hno _ _ _ _ hM (Kp.kf (k9.tt hk)) hf
  ·have hge:decide (((e.k:Nat):Int)≥((e.l.length:Nat):Int))=true:=decide_eq_true (by omega)
   rw[hge]
   rw[List.getElem?_eq_none hkl]at hM
   simp only at hM
   repeat' first|refine .x ?_|refine .y ?_|refine .z ?_|fail
   refine Cl.w (fun w9=>Kp [] w w9) (by exact kpA) ?_
   intro w9 k9
   exact Cl.wV fun ch w' hf hk=>hno _ _ _ _ hM (Kp.kf (k9.tt hk)) hf
 rintro _ w2 jk2 ⟨k2,n,hn,hkind⟩
 have hkl:e.k<e.l.length:=by
  rcases Nat.lt_or_ge e.k e.l.length with h|h
  ·exact h
  ·rw[List.getElem?_eq_none h]at hn;cases hn
 have hkd:(n.kind==(kind:Int))=true:=by simp[hkind]
 rw[hn]at hM
 simp only[hkd,if_true]at hM
 have k02:Kp [] w w2:=k1.tt k2
 have c2:=(k2.same _ (by omega) trivial).trans c1
 have n2:=(k2.same _ z1 trivial).trans n1
 have z2:=k2.size
 obtain⟨b,off,t,fr,cs,c,a1,a2,a3,a4⟩:=h3'.at hn
 cases a1
 have a2':w2.heap[b]?=some (clf cs t fr):=((k0.tt k02).same _ (lt_of_heap a2) trivial).trans a2
 refine .s ?_
 refine .s ?_
 refine .s ?_
 refine .s ?_
 refine .s ?_
 refine .s ?_
 refine .s ?_
 refine LdN.t (l':=jL n) ?_ a2' (by omega) a4
 unfold jL
 repeat' first|refine .x ?_|refine .y ?_|refine .z ?_|fail
 exact hok _ _ F _ hM (Kp.kf (by exact kpA)) (fun i hi=>Or.inl hi) ⟨rfl,rfl,by exact kpA,List.mem_of_getElem? hn,by omega⟩
end Go.W.T
namespace Go.W.T
open Go Go.W Go.M Go.Proofs
theorem w_blen{w:World}{eb:Nat}{c0 c1 c2 c3 c4 c5 a buf:Value}{n:Nat}{l:List Value}{o:Option Nat}(h:w.heap[eb]?=some (cl [c0,c1,c2,c3,c4,c5,a,buf] aO))(hg:Gw w 5 1 buf n l o):
  Calls P sN #[pt eb 6] w (Ret fun v w'=>v=i64 (n:Nat)∧w'=w):=by
 refine Ret.R fun R hR=>?_
 apply Dn
 unfold rJ
 obtain⟨va,vc,rfl⟩:=hg.len
 repeat' first|refine .x ?_|refine .y ?_|refine .z ?_|fail
 exact hR _ _ ⟨rfl,rfl⟩
def PartsAt(w:World)(v:Value)(parts:List By)(F:Nat→Prop):Prop:=(∃a c,v=.slice a parts.length c)∧(parts≠[]→∃b t c,v=.slice (some ⟨b,0,none⟩) parts.length c∧w.heap[b]?=some (cl (parts.map κs) t)∧¬ F b)
theorem JW{w0:World}{eb:Nat}{cp:Value}{lim:Lim}{F:Nat→Prop}{w:World}{e:ES}{v:Value}{parts:List By}(h:ER w0 eb cp lim F w e)(hp:PartsAt w v parts F)(hfu:(e.k:Int)<lim.fuel)(hlen:∀s∈parts,s.length≤140737488355328)(hpl:parts.length≤100):
  Calls P sS #[pt eb 0,v] w (PostF F w (e.put lim parts) fun x _ F' w'=>ER w0 eb cp lim F' w' x):=by
 refine PostF.R fun R M hM hok hno=>?_
 apply Dx
 unfold rW
 obtain⟨⟨va,vc,rfl⟩,hp2⟩:=hp
 rw[ES.put]at hM
 repeat' first|refine .x ?_|refine .y ?_|refine .z ?_|fail
 refine Lp.nat (n:=parts.length) (fun n vals w'=>∃(i:Nat) (out:By) (F':Nat→Prop),vals=[i64 (i:Nat)]∧i+n=parts.length∧Kf F w w'∧(∀i,F' i→F i∨w.heap.size≤i)∧ER w0 eb cp lim F' w' { e with out:=out }∧M=(Ia lim e.k out (parts.drop i)).andThen fun o=>.ok { e with out:=o,k:=e.k+1 }) ?_ ?_
 ·exact⟨0,e.out,F,rfl,by omega,Kf.refl _ _,fun i hi=>Or.inl hi,h,hM⟩
 clear hM
 rintro n _ w1 jk C ⟨i,out,F1,rfl,hin,k1,hF1,h1,hM⟩ hC
 obtain⟨v1,a1,buf,o,c1,c2,c3,c4,c5⟩:=h1.c
 have hlt:=lt_of_heap c1
 simp only at c1 c4
 repeat' first|refine .x ?_|refine .y ?_|refine .z ?_|fail
 refine .split (fun hc=>?_) (fun hc=>?_)
 ·have hi:i<parts.length:=by have:=of_decide_eq_true hc;omega
  obtain⟨b,t,c,p1,p2,p3⟩:=hp2 (fun e=>by subst e;simp at hi)
  cases p1
  have hblt:=lt_of_heap p2
  have p2':w1.heap[b]?=some (cl (parts.map κs) t):=(k1.same _ hblt p3).trans p2
  obtain⟨s,hs⟩:∃s,parts[i]?=some s:=⟨_,List.getElem?_eq_getElem hi⟩
  have hs2:(parts.map κs)[i]?=some (κs s):=by rw[List.getElem?_map,hs];rfl
  have hsl:=hlen s (List.mem_of_getElem? hs)
  have hd:parts.drop i=s::parts.drop (i+1):=by
   rw[List.drop_eq_getElem_cons hi];congr 1
   rw[List.getElem?_eq_getElem hi]at hs;exact Option.some.inj hs
  rw[hd,Ia]at hM
  have hol:=h1.ob
  have hls:=h1.ls
  simp only at hol
  refine .s ?_
  refine Ld.by (x:=κs s) ?_ ?_
  ·rw[eG,p2']
   simp only[Option.bind_some,bC,Nat.zero_add,Nat.add_zero,Nat.mul_one]
   rw[List.getElem?_toArray];exact hs2
  refine Jn.by (fun _ w'=>w'=w1.drew∧¬ lim.size<out.length+s.length) (fun J hJ=>?_) ?_
  ·repeat' first|refine .x ?_|refine .y ?_|refine .z ?_|fail
   refine Cl.ret (w_blen (w:=w1.drew) c1 (c4.kp (by exact kpA:Kp [] w1 w1.drew) (fun _ _=>trivial))) ?_
   rintro v w3 ⟨rfl,rfl⟩
   refine⟨by repeat' first|refine .x ?_|refine .y ?_|refine .z ?_|fail
             rfl, ?_⟩
   repeat' first|refine .x ?_|refine .y ?_|refine .z ?_|fail
   refine .split (fun hc=>?_) (fun hc=>?_)
   ·have hc':(out.length:Int)+(s.length:Nat)>lim.size:=of_decide_eq_true hc
    rw[if_pos (by omega)]at hM
    repeat' first|refine .x ?_|refine .y ?_|refine .z ?_|fail
    exact Cl.wV fun ch w' hf hk=>hno _ _ _ _ hM ((k1.kp (by exact kpA:Kp [] w1 w1.drew)).kp hk) hf
   ·have hc':¬ (out.length:Int)+(s.length:Nat)>lim.size:=of_decide_eq_false hc
    exact hJ _ _ ⟨rfl,by omega⟩
  ·rintro _ w3 jk2 ⟨rfl,hle⟩
   rw[if_neg hle]at hM
   have kd:Kp [] w1 w1.drew:=by exact kpA
   repeat' first|refine .x ?_|refine .y ?_|refine .z ?_|fail
   refine Cl.ret (w_wstr (w:=w1.drew) s c1 c2 (c4.kp kd (fun _ _=>trivial)) (fun b hb=>(c5 b hb).1) (by omega)) ?_
   rintro v w4 ⟨buf',o',d1,d2,d3,k4⟩
   have z4:=k4.size
   have zd:w1.drew.heap.size=w1.heap.size:=size_drew _
   have kf14:Kf F1 w1 w4:=(Kp.kf kd:Kf F1 w1 w1.drew).trans (Kp.kfX (F:=F1) k4 (fun j hj ho=>⟨by
    by_cases e:j=eb
    ·subst e;exact absurd h1.fd ho
    ·omega,aB (fun e=>ho (c5 _ e).2)⟩)) (fun j hj=>Or.inl hj)
   repeat' first|refine .x ?_|refine .y ?_|refine .z ?_|fail
   refine hC (parts.length - i - 1) _ _ (by omega) ⟨i+1,out++s,(fun j=>F1 j∨o'=some j),by push_cast;rfl,by omega,k1.trans kf14 hF1,?_,?_,hM⟩
   ·rintro j (hj|hj)
    ·exact hF1 j hj
    ·rcases(d3 j hj).2 with h|h
     ·exact hF1 j (c5 j h).2
     ·have:=k1.size;exact Or.inr (by omega)
   ·exact { hM:=h1.hM,c:=⟨v1,_,buf',o',d1,Or.inr rfl,c3,by simp only[List.length_append];rw[show aG (out++s)=aG out++aG s by simp[aG]];exact d2,fun b hb=>⟨(d3 b hb).1,Or.inr hb⟩⟩,fd:=Or.inl h1.fd
            fM := fun b hb => hb.elim (h1.fM b) (fun e => (d3 b e).2.elim (fun q => h1.fM b (c5 b q).2) (fun q => by have := h1.hM; omega))
            fl := fun b hb => hb.elim (fun q => by have := h1.fl b q; omega) (fun e => d2.lt b e)
            kb := h1.kb, ob := by simp only [List.length_append]; omega, lf := h1.lf, ls := h1.ls, nb := h1.nb, lb := h1.lb }
 ·have hi:i=parts.length:=by have:=of_decide_eq_false hc;omega
  subst hi
  rw[List.drop_length,Ia]at hM
  simp only[Res.bW]at hM
  have hkb:=h1.kb
  have hlf:=h1.lf
  simp only at hkb
  repeat' first|refine .x ?_|refine .y ?_|refine .z ?_|fail
  have ek:((e.k+1:Nat):Int)=(e.k:Int)+1:=by push_cast;rfl
  refine(fun(Q:∀w9,Kp [(eb,eb+1)] w1 w9∧w9.heap[eb]?=some (cl (RU v1 (e.k+1) lim cp a1 buf) aO)→R (.returned (.tuple #[])) w9)=>Q _ ⟨by exact kpA,by simp only[RU,ek];exact aj rfl hlt⟩) ?_
  rintro w9 ⟨k9,n9⟩
  have kf9:Kf F1 w1 w9:=Kp.kfX (F:=F1) k9 (fun j hj ho=>⟨by
    by_cases e:j=eb
    ·subst e;exact absurd h1.fd ho
    ·omega,trivial⟩)
  refine hok _ _ F1 _ hM (k1.trans kf9 hF1) hF1 ?_
  exact { hM:=h1.hM,c:=⟨v1,a1,buf,o,n9,c2,c3,c4.kp k9 (fun b hb=>⟨by have:=(c5 b hb).1;omega,trivial⟩),c5⟩,fd:=h1.fd,fM:=h1.fM,fl:=fun b hb=>Nat.lt_of_lt_of_le (h1.fl b hb) k9.size
          kb := by simp only; omega, ob := h1.ob, lf := h1.lf, ls := h1.ls, nb := h1.nb, lb := h1.lb }
end Go.W.T
namespace Go.W.T
open Go Go.W Go.M Go.Proofs
theorem aah(a b c d:Int)(s:ByteArray)(w:World):(Instr.field 52 (.agg #[.int .i64 a,.int .i64 b,.string s,.int .i64 c,.int .i64 d]) 1).run P w=.ok (.int .i64 b) w:=by kernel_rfl
theorem VU(a b c d:Int)(s:ByteArray)(w:World):(Instr.field 52 (.agg #[.int .i64 a,.int .i64 b,.string s,.int .i64 c,.int .i64 d]) 4).run P w=.ok (.int .i64 d) w:=by kernel_rfl
theorem IU(n:Int):IntKind.u32.wrap n=((u32 n:Nat):Int):=by rw[IntKind.wrap_u32,u32];omega
theorem Ol(n:Int):u32 n<4294967296:=by unfold u32;omega
theorem PartsAt.of{w:World}{b c:Nat}{t:TypeId}{parts:List By}{F:Nat→Prop}(h:w.heap[b]?=some (cl (parts.map κs) t))(hf:¬ F b):PartsAt w (.slice (some ⟨b,0,none⟩) parts.length c) parts F:=
 ⟨⟨_,_,rfl⟩,fun _=>⟨b,t,c,rfl,h,hf⟩⟩
theorem PartsAt.nil(w:World)(F:Nat→Prop):PartsAt w (.slice none 0 0) [] F:=⟨⟨_,_,rfl⟩,fun h=>absurd rfl h⟩
theorem zN(n:Nat):(cZ n).length=4:=rfl
theorem aaU{w0:World}{eb:Nat}{cp:Value}{lim:Lim}{F:Nat→Prop}{w:World}{e:ES}{T:List Nat}{i:Ins}{f g:Value}(h:ER w0 eb cp lim F w e)(k0:Kp [] w0 w)(hf:dG T i.table f)(hg:dG T i.set g)(hn:0≤i.n∧i.n≤4294967295):
  Calls P fU #[pt eb 0,zD i f g] w (PostF F w (e.list lim i) fun x v F' w'=>v=.int .i64 x.1∧0≤x.1∧x.1≤4294967295∧ER w0 eb cp lim F' w' x.2):=by
 refine PostF.R fun R M hM hok hno=>?_
 apply BJ
 unfold qp zD
 obtain⟨fb,rfl⟩:=hf.one
 obtain⟨gb,rfl⟩:=hg.one
 rw[ES.list]at hM
 refine .s ?_
 refine Cl.w (fun w9=>Kp [] w w9∧w.heap.size<w9.heap.size∧w9.heap[w.heap.size]?=some (cl [i64 (i.op:Nat),.int .i64 i.n,.int .i64 i.to,.bool i.fixed,i64 (i.of_:Nat),.map fb,.map gb] ay)) ⟨by exact kpA,by simp,by exact lookA⟩ ?_
 rintro w1 ⟨k1,z1,n1⟩
 refine Cl.dK (w0:=w) hM (IL (h.kp k1) (k0.tt k1) 3) (Kp.kf k1) (fun i hi=>Or.inl hi) hno ?_
 rintro n v F1 w2 e2 hM2 hk2 hq2 hf2 hs2 ⟨rfl,rfl,k2,hmem,hfu⟩
 have h2:=(h.kp k1).kp k2
 have n2:=(k2.same _ z1 trivial).trans n1
 have k12:=k1.tt k2
 clear hM k1 k2
 refine bH.by (VU n.kind n.n n.at_ n.len (bs n.s) w2) ?_
 repeat' first|refine .x ?_|refine .y ?_|refine .z ?_|fail
 refine .split (fun hc=>?_) (fun hc=>?_)
 ·have hop:(i.op==9)=true:=by have:(i.op:Int)=9:=by simpa using hc
                              simp; omega
  simp only[hop,if_true]at hM2
  refine .s ?_
  have hb:∀b:Bool,b=(decide (0≤n.len)&&decide (n.len≤i.n))→Cl P 329 #[pt eb 0,.bool b] w2 (pE R) fun x27 w28=>
    Cv .u32 (.int .i64 n.len) fun x29=>Cl P 336 #[x29] w28 (pE R) fun x30 w31=>BuS 9 1 [x30] w31 fun x32 w33=>Cl P 335 #[pt eb 0,x32] w33 (pE R) fun x34 w35=>R (.returned (.int .i64 n.len)) w35:=by
   rintro b rfl
   refine Cl.dK (w0:=w) hM2 (Hw h2 _) hq2 hf2 hno ?_
   rintro u v F2 w3 e3 hM3 hk3 hq3 hf3 hs3 ⟨rfl,rfl,hgood⟩
   simp only[Bool.and_eq_true,decide_eq_true_eq]at hgood
   refine .s ?_
   rw[IU]
   refine Cl.ret (IK _ (Ol _)) ?_
   rintro v w4 ⟨rfl,k4⟩
   refine .s ?_
   refine Cl.w (fun w9=>Kp [] w4 w9∧w9.heap[w4.heap.size]?=some (cl ([cZ (u32 n.len)].map κs) 9)) ⟨by exact kpA,by simp only[List.map_cons,List.map_nil];exact lookA⟩ ?_
   rintro w5 ⟨k5,n5⟩
   have h5:=(h2.kp k4).kp k5
   refine Cl.dK (w0:=w) (k:=fun e=>.ok (n.len,e)) hM3 (JW h5 (PartsAt.of (parts:=[cZ (u32 n.len)]) n5 (fun hb=>by have:=(h2.kp k4).fl _ hb;omega)) hfu (by simp[zN]) (by simp)) ((hq3.kp k4).kp k5) hf3 hno ?_
   rintro e6 v F3 w6 e6' hM6 hk6 hq6 hf6 hs6 h6
   exact hok _ _ F3 _ hM6 hq6 hf6 ⟨rfl,hgood.1,by simp only;omega,h6⟩
  cases hge:decide (0≤n.len)with
  |true=>
   repeat' first|refine .x ?_|refine .y ?_|refine .z ?_|fail
   exact hb _ (by rw[hge];rfl)
  |false=>
   repeat' first|refine .x ?_|refine .y ?_|refine .z ?_|fail
   exact hb _ (by rw[hge];rfl)
 ·have hop:(i.op==9)=false:=by have:¬ (i.op:Int)=9:=by simpa using hc
                               simp; omega
  simp only[hop,Bool.false_eq_true,if_false]at hM2
  repeat' first|refine .x ?_|refine .y ?_|refine .z ?_|fail
  refine Cl.dK (w0:=w) hM2 (Hw h2 _) hq2 hf2 hno ?_
  rintro u v F2 w3 e3 hM3 hk3 hq3 hf3 hs3 ⟨rfl,rfl,hgood⟩
  have hgood':n.len=i.n:=by simpa using hgood
  refine Cl.dK (w0:=w) (k:=fun e=>.ok (n.len,e)) hM3 (JW h2 (PartsAt.nil _ _) hfu (by simp) (by simp)) hq3 hf3 hno ?_
  rintro e6 v F3 w6 e6' hM6 hk6 hq6 hf6 hs6 h6
  exact hok _ _ F3 _ hM6 hq6 hf6 ⟨rfl,by simp only;omega,by simp only;omega,h6⟩
theorem Ru{w0 w w2:World}{eb:Nat}{cp:Value}{lim:Lim}{F0 F:Nat→Prop}{e:ES}{β:Type}{M:Res β}{r:ES→Res β}{E:KE}{K:KV}{m:Int}(h:ER w0 eb cp lim F w2 e)(hfu:(e.k:Int)<lim.fuel)
  (hM:M=(e.put lim [cZ (u32 m)]).andThen r) (hq:Kf F0 w w2) (hf:∀i,F i→F0 i∨w.heap.size≤i) (hno:∀er a ch w',M=.no er a→Kf F0 w w'→Flt er a ch w'→E ch w')
  (hK:∀x v F' w',M=r x→Kf F w2 w'→Kf F0 w w'→(∀i,F' i→F0 i∨w.heap.size≤i)→w2.heap.size≤w'.heap.size→ER w0 eb cp lim F' w' x→K v w'):
  Cv .u32 (.int .i64 m) fun x29=>Cl P 336 #[x29] w2 E fun x30 w31=>BuS 9 1 [x30] w31 fun x32 w33=>Cl P 335 #[pt eb 0,x32] w33 E K:=by
 refine .s ?_
 rw[IU]
 refine Cl.ret (IK _ (Ol _)) ?_
 rintro v w4 ⟨rfl,k4⟩
 refine .s ?_
 refine Cl.w (fun w9=>Kp [] w4 w9∧w9.heap[w4.heap.size]?=some (cl ([cZ (u32 m)].map κs) 9)) ⟨by exact kpA,by simp only[List.map_cons,List.map_nil];exact lookA⟩ ?_
 rintro w5 ⟨k5,n5⟩
 have h5:=(h.kp k4).kp k5
 have k25:=k4.tt k5
 refine Cl.dK (w0:=w) hM (JW h5 (PartsAt.of (parts:=[cZ (u32 m)]) n5 (fun hb=>by have:=(h.kp k4).fl _ hb;omega)) hfu (by simp[zN]) (by simp)) (hq.kp k25) hf hno ?_
 rintro e6 v F3 w6 e6' hM6 hk6 hq6 hf6 hs6 h6
 exact hK e6 v F3 w6 hM6 ((Kp.kf k25).trans hk6 (fun i hi=>Or.inl hi)) hq6 hf6 (Nat.le_trans k25.size hs6) h6
theorem XA{w0:World}{eb:Nat}{cp:Value}{lim:Lim}{F:Nat→Prop}{w:World}{e:ES}(h:ER w0 eb cp lim F w e)(k0:Kp [] w0 w):
  Calls P eU #[pt eb 0] w (PostF F w (e.option lim) fun x v F' w'=>v=.bool x.1∧ER w0 eb cp lim F' w' x.2):=by
 refine PostF.R fun R M hM hok hno=>?_
 apply zu
 unfold mr
 rw[ES.option]at hM
 refine Cl.dK (w0:=w) hM (IL h k0 4) (Kf.refl _ _) (fun i hi=>Or.inl hi) hno ?_
 rintro n v F1 w2 e2 hM2 hk2 hq2 hf2 hs2 ⟨rfl,rfl,k2,hmem,hfu⟩
 have h2:=h.kp k2
 unfold jL
 refine .s ?_
 refine .s ?_
 have k3:Kp [] w2 (ag (w2.alloc (cl [.int .i64 0,.int .i64 0,.string ⟨#[]⟩,.int .i64 0,.int .i64 0] 52)) w2.heap.size (cl [.int .i64 n.kind,.int .i64 n.n,κs n.s,.int .i64 n.at_,.int .i64 n.len] 52)):=by exact kpA
 have n3:(ag (w2.alloc (cl [.int .i64 0,.int .i64 0,.string ⟨#[]⟩,.int .i64 0,.int .i64 0] 52)) w2.heap.size (cl [.int .i64 n.kind,.int .i64 n.n,κs n.s,.int .i64 n.at_,.int .i64 n.len] 52)).heap[w2.heap.size]?=some (cl [.int .i64 n.kind,.int .i64 n.n,κs n.s,.int .i64 n.at_,.int .i64 n.len] 52):=by exact lookA
 generalize ag (w2.alloc (cl [.int .i64 0,.int .i64 0,.string ⟨#[]⟩,.int .i64 0,.int .i64 0] 52)) w2.heap.size (cl [.int .i64 n.kind,.int .i64 n.n,κs n.s,.int .i64 n.at_,.int .i64 n.len] 52)=w3 at *
 have h3:=h2.kp k3
 have hnF:¬ F1 w2.heap.size:=fun hb=>by have:=h2.fl _ hb;omega
 have hq3:=hq2.kp k3
 clear k2 k3
 have hb:∀b:Bool,b=(decide (0≤n.len)&&decide (n.len≤1)&&n.n==n.len)→Cl P 329 #[pt eb 0,.bool b] w3 (pE R) fun x43 w44=>
   Fa (pt w2.heap.size 0) 1 fun x45=>Ld x45 w44 fun x46=>Cv .u32 x46 fun x47=>Cl P 336 #[x47] w44 (pE R) fun x48 w49=>BuS 9 1 [x48] w49 fun x50 w51=>Cl P 335 #[pt eb 0,x50] w51 (pE R) fun x52 w53=>
   Fa (pt w2.heap.size 0) 4 fun x54=>Ld x54 w53 fun x55=>Bi .eql x55 (.int .i64 1) fun x56=>R (.returned x56) w53:=by
  rintro b rfl
  refine Cl.dK (w0:=w) hM2 (Hw h3 _) hq3 hf2 hno ?_
  rintro u v F2 w4 e4 hM4 hk4 hq4 hf4 hs4 ⟨rfl,rfl,hgood⟩
  refine .s ?_
  refine .s ?_
  refine Ru (F0:=F2) (w:=w) h3 hfu hM4 hq4 hf4 hno ?_
  rintro x v F3 w5 hM5 hk5 hq5 hf5 hs5 h5
  have n5:=(hk5.same _ (lt_of_heap n3) hnF).trans n3
  repeat' first|refine .x ?_|refine .y ?_|refine .z ?_|fail
  exact hok _ _ F3 _ hM5 hq5 hf5 ⟨rfl,h5⟩
 refine .s ?_
 refine .s ?_
 refine .s ?_
 cases hge:decide (0≤n.len)with
 |false=>
  have hge':decide (n.len≥0)=false:=hge
  repeat' first|refine .x ?_|refine .y ?_|refine .z ?_|fail
  exact hb _ (by rw[hge];rfl)
 |true=>
  have hge':decide (n.len≥0)=true:=hge
  cases hle:decide (n.len≤1)with
  |false=>
   repeat' first|refine .x ?_|refine .y ?_|refine .z ?_|fail
   exact hb _ (by rw[hge,hle];rfl)
  |true=>
   repeat' first|refine .x ?_|refine .y ?_|refine .z ?_|fail
   exact hb _ (by rw[hge,hle];rfl)
end Go.W.T
namespace Go.W.T
open Go Go.W Go.M Go.Proofs
theorem YF{w0:World}{eb:Nat}{cp:Value}{lim:Lim}{F:Nat→Prop}{w:World}{e:ES}{T:List Nat}{L:List Ins}{tabs:List Tab}{i:Ins}{f g:Value}(h:ER w0 eb cp lim F w e)(k0:Kp [] w0 w)(hc:MC w0 cp T L tabs)(hf:dG T i.table f)(hg:dG T i.set g)(hto:∀n,target tabs i n<L.length):
  Calls P fB #[pt eb 0,zD i f g] w (PostF F w (e.union L tabs lim i) fun x v F' w'=>v=.int .i64 x.1∧0≤x.1∧ER w0 eb cp lim F' w' x.2):=by
 refine PostF.R fun R M hM hok hno=>?_
 apply Aj
 unfold oH zD
 have hf':=hf
 have hg':=hg
 obtain⟨fb,rfl⟩:=hf.one
 obtain⟨gb,rfl⟩:=hg.one
 rw[ES.union]at hM
 refine .s ?_
 refine Cl.w (fun w9=>Kp [] w w9∧w.heap.size<w9.heap.size∧w9.heap[w.heap.size]?=some (cl [i64 (i.op:Nat),.int .i64 i.n,.int .i64 i.to,.bool i.fixed,i64 (i.of_:Nat),.map fb,.map gb] ay)) ⟨by exact kpA,by simp,by exact lookA⟩ ?_
 rintro w1 ⟨k1,z1,n1⟩
 refine Cl.dK (w0:=w) hM (IL (h.kp k1) (k0.tt k1) 4) (Kp.kf k1) (fun i hi=>Or.inl hi) hno ?_
 rintro n v F1 w2 e2 hM2 hk2 hq2 hf2 hs2 ⟨rfl,rfl,k2,hmem,hfu⟩
 have h2:=(h.kp k1).kp k2
 have n2:=(k2.same _ z1 trivial).trans n1
 have z2:=k2.size
 have k12:=k1.tt k2
 clear hM k1 k2
 unfold jL
 refine .s ?_
 refine .s ?_
 have k3:Kp [] w2 (ag (w2.alloc (cl [.int .i64 0,.int .i64 0,.string ⟨#[]⟩,.int .i64 0,.int .i64 0] 52)) w2.heap.size (cl [.int .i64 n.kind,.int .i64 n.n,κs n.s,.int .i64 n.at_,.int .i64 n.len] 52)):=by exact kpA
 have n3:(ag (w2.alloc (cl [.int .i64 0,.int .i64 0,.string ⟨#[]⟩,.int .i64 0,.int .i64 0] 52)) w2.heap.size (cl [.int .i64 n.kind,.int .i64 n.n,κs n.s,.int .i64 n.at_,.int .i64 n.len] 52)).heap[w2.heap.size]?=some (cl [.int .i64 n.kind,.int .i64 n.n,κs n.s,.int .i64 n.at_,.int .i64 n.len] 52):=by exact lookA
 generalize ag (w2.alloc (cl [.int .i64 0,.int .i64 0,.string ⟨#[]⟩,.int .i64 0,.int .i64 0] 52)) w2.heap.size (cl [.int .i64 n.kind,.int .i64 n.n,κs n.s,.int .i64 n.at_,.int .i64 n.len] 52)=w3 at *
 have h3:=h2.kp k3
 have hnF:¬ F1 w2.heap.size:=fun hb=>by have:=h2.fl _ hb;omega
 have hq3:=hq2.kp k3
 have n3':=(k3.same _ (by omega) trivial).trans n2
 have kb3:Kp [] w0 w3:=Kf.base k0 hq3 h.fM
 clear k3
 repeat' first|refine .x ?_|refine .y ?_|refine .z ?_|fail
 refine Cl.ret (SE n.n (ht:=(hc.kp kb3).t) hf' hg') ?_
 rintro v w4 ⟨rfl,k4⟩
 have htL:=hto n.n
 generalize htg:target tabs i n.n=t at hM2 htL ⊢
 have h4:=h3.kp k4
 have hq4:=hq3.kp k4
 have n4:=(k4.same _ (lt_of_heap n3) trivial).trans n3
 have kb4:Kp [] w0 w4:=Kf.base k0 hq4 h.fM
 clear k4
 refine .s ?_
 refine Cl.dK (w0:=w) hM2 (Hw h4 (decide (t≥0))) hq4 hf2 hno ?_
 rintro u v F2 w5 e5 hM5 hk5 hq5 hf5 hs5 ⟨rfl,rfl,hgood⟩
 have ht0:t≥0:=of_decide_eq_true hgood
 obtain⟨tn,rfl⟩:∃m:Nat,t=(m:Nat):=⟨t.toNat,by omega⟩
 have htn:tn<L.length:=by omega
 rw[Int.toNat_natCast]at hM5
 obtain⟨j,hj⟩:∃j,L[tn]?=some j:=⟨_,List.getElem?_eq_getElem htn⟩
 rw[hj]at hM5
 obtain⟨cb,lb,m1,m2,m3,cells,rest,cap,rfl,b2,b3,b4⟩:=(hc.kp kb4).c
 obtain⟨v5,a5,buf5,o5,x1,x2⟩:=h4.c
 obtain⟨jf,jg,y1,y2,y3,y4⟩:=b4.at hj
 refine Jn.by (fun vals w'=>w'=w5∧vals=[.int .i64 (if Option.map (fun x=>x.op) (some j)==some 15 then 0 else 1)]) (fun J hJ=>?_) ?_
 ·repeat' first|refine .x ?_|refine .y ?_|refine .z ?_|fail
  refine Ld.by (x:=i64 (j.op:Nat)) ?_ ?_
  ·rw[eG,b3]
   simp only[Option.bind_some,bC,Nat.zero_add,Nat.add_zero]
   rw[List.getElem?_toArray,List.getElem?_append_left]
   ·exact y4
   ·rw[b4.len];omega
  refine .s ?_
  refine .split (fun hc=>?_) (fun hc=>?_)
  ·have hop:j.op=15:=by have:(j.op:Int)=15:=by simpa using hc
                        omega
   exact hJ _ _ ⟨rfl,by simp[hop]⟩
  ·have hop:¬ j.op=15:=by have:¬ (j.op:Int)=15:=by simpa using hc
                          omega
   exact hJ _ _ ⟨rfl,by simp[hop]⟩
 rintro _ w6 jk2 ⟨rfl,rfl⟩
 generalize (if Option.map (fun x=>x.op) (some j)==some 15 then(0:Int)else 1)=z at hM5 ⊢
 repeat' first|refine .x ?_|refine .y ?_|refine .z ?_|fail
 refine Cl.dK (w0:=w) hM5 (Hw h4 _) hq5 hf5 hno ?_
 rintro u v F3 w7 e7 hM7 hk7 hq7 hf7 hs7 ⟨rfl,rfl,hgood⟩
 refine .s ?_
 refine .s ?_
 refine Ru (F0:=F3) (w:=w) h4 hfu hM7 hq7 hf7 hno ?_
 rintro x v F4 w8 hM8 hk8 hq8 hf8 hs8 h8
 exact hok _ _ F4 _ hM8 hq8 hf8 ⟨rfl,by simp,h8⟩
theorem aaJ{w:World}(k:Nat)(hk:k<4):Calls P AA #[.string ⟨#[0]⟩,i64 (k:Nat)] w (Ret fun v w'=>v=κs (zeros k)∧Kp [] w w'):=by
 have hmain:∀k:Nat,2≤k→k<4→(Lib.repeatL [0] k).toArray=(zeros k).toArray→Calls P AA #[.string ⟨#[0]⟩,i64 (k:Nat)] w (Ret fun v w'=>v=κs (zeros k)∧Kp [] w w'):=by
  intro k h2 h4 he
  refine(Tryz.strings_Repeat_main ⟨#[0]⟩ k w h2 (by omega) (by show 1*k≤_;omega) (by decide)).mono ?_
  rintro en w' ⟨rfl,hb⟩
  exact⟨_,rfl,by show Value.string ⟨(Lib.repeatL [0] k).toArray⟩=_;rw[he],Kp.below hb⟩
 match k,hk with
 |0,_=>
  refine(Tryz.strings_Repeat_zero ⟨#[0]⟩ w).mono ?_
  rintro en w' ⟨rfl,rfl⟩
  exact⟨_,rfl,rfl,Kp.refl _ _⟩
 |1,_=>
  refine(Tryz.strings_Repeat_one ⟨#[0]⟩ w).mono ?_
  rintro en w' ⟨rfl,rfl⟩
  exact⟨_,rfl,rfl,Kp.refl _ _⟩
 |2,_=>exact hmain 2 (by decide) (by decide) (by decide)
 |3,_=>exact hmain 3 (by decide) (by decide) (by decide)
theorem aaW{w0:World}{eb:Nat}{cp:Value}{lim:Lim}{F:Nat→Prop}{w:World}{e:ES}{T:List Nat}{tabs:List Tab}{i:Ins}{f g:Value}(h:ER w0 eb cp lim F w e)(k0:Kp [] w0 w)(ht:CB w0 T tabs)(hf:dG T i.table f)(hg:dG T i.set g):
  Calls P fV #[pt eb 0,zD i f g] w (PostF F w (e.leaf tabs lim i) fun x v F' w'=>ER w0 eb cp lim F' w' x):=by
 refine PostF.R fun R M hM hok hno=>?_
 apply BK
 unfold qw zD
 have hf':=hf
 have hg':=hg
 obtain⟨fb,rfl⟩:=hf.one
 obtain⟨gb,rfl⟩:=hg.one
 rw[ES.leaf]at hM
 refine .s ?_
 have k1:Kp [] w (w.alloc (cl [i64 (i.op:Nat),.int .i64 i.n,.int .i64 i.to,.bool i.fixed,i64 (i.of_:Nat),.map fb,.map gb] ay)):=by exact kpA
 have n1:(w.alloc (cl [i64 (i.op:Nat),.int .i64 i.n,.int .i64 i.to,.bool i.fixed,i64 (i.of_:Nat),.map fb,.map gb] ay)).heap[w.heap.size]?=some (cl [i64 (i.op:Nat),.int .i64 i.n,.int .i64 i.to,.bool i.fixed,i64 (i.of_:Nat),.map fb,.map gb] ay):=by exact lookA
 generalize w.alloc (cl [i64 (i.op:Nat),.int .i64 i.n,.int .i64 i.to,.bool i.fixed,i64 (i.of_:Nat),.map fb,.map gb] ay)=w1 at *
 have z1:=lt_of_heap n1
 have h1:=h.kp k1
 repeat' first|refine .x ?_|refine .y ?_|refine .z ?_|fail
 refine .split (fun hc=>?_) (fun hc=>?_)
 ·have hop:(i.op==5)=true:=by have:(i.op:Int)=5:=by simpa using hc
                              simp; omega
  simp only[hop,if_true]at hM
  refine Cl.dK (w0:=w) hM (IL h1 (k0.tt k1) 2) (Kp.kf k1) (fun i hi=>Or.inl hi) hno ?_
  rintro n v F1 w2 e2 hM2 hk2 hq2 hf2 hs2 ⟨rfl,rfl,k2,hmem,hfu⟩
  have h2:=h1.kp k2
  have n2:=(k2.same _ z1 trivial).trans n1
  have z2:=k2.size
  have hnl:=h.nb n hmem
  clear hM k1 k2 n1
  unfold jL
  refine .s ?_
  refine .s ?_
  have k3:Kp [] w2 (ag (w2.alloc (cl [.int .i64 0,.int .i64 0,.string ⟨#[]⟩,.int .i64 0,.int .i64 0] 52)) w2.heap.size (cl [.int .i64 n.kind,.int .i64 n.n,κs n.s,.int .i64 n.at_,.int .i64 n.len] 52)):=by exact kpA
  have n3:(ag (w2.alloc (cl [.int .i64 0,.int .i64 0,.string ⟨#[]⟩,.int .i64 0,.int .i64 0] 52)) w2.heap.size (cl [.int .i64 n.kind,.int .i64 n.n,κs n.s,.int .i64 n.at_,.int .i64 n.len] 52)).heap[w2.heap.size]?=some (cl [.int .i64 n.kind,.int .i64 n.n,κs n.s,.int .i64 n.at_,.int .i64 n.len] 52):=by exact lookA
  generalize ag (w2.alloc (cl [.int .i64 0,.int .i64 0,.string ⟨#[]⟩,.int .i64 0,.int .i64 0] 52)) w2.heap.size (cl [.int .i64 n.kind,.int .i64 n.n,κs n.s,.int .i64 n.at_,.int .i64 n.len] 52)=w3 at *
  have h3:=h2.kp k3
  have hq3:=hq2.kp k3
  have n3':=(k3.same _ (by omega) trivial).trans n2
  clear k3 n2
  have hz3:=lt_of_heap n3
  have hz3':=lt_of_heap n3'
  have hb:∀b:Bool,b=(((n.s.length:Int)==i.n)||(decide ((n.s.length:Int)<i.n)&&!i.fixed))→Cl P 329 #[pt eb 0,.bool b] w3 (pE R) fun x52 w53=>
   Ng (i64 (n.s.length:Nat)) fun x54=>Bi .and x54 (.int .i64 3) fun x55=>Cl P 334 #[.string ⟨#[0]⟩,x55] w53 (pE R) fun x56 w57=>
   Jn (fun J58=>Fa (pt w.heap.size 0) 3 fun x59=>Ld x59 w57 fun x60=>If x60 (
    Fa (pt w2.heap.size 0) 2 fun x61=>Ld x61 w57 fun x62=>BuS 9 1 [x62,x56] w57 fun x63 w64=>Cl P 335 #[pt eb 0,x63] w64 (pE R) fun x65 w66=>J58 [] w66) (
    Cv .u32 (i64 (n.s.length:Nat)) fun x67=>Fa (pt w2.heap.size 0) 2 fun x68=>Ld x68 w57.drew fun x69=>Cl P 336 #[x67] w57.drew (pE R) fun x70 w71=>
    (Ld x68 w71 fun x72=>x72=x69)∧BuS 9 1 [x70,x69,x56] w71 fun x73 w74=>Cl P 335 #[pt eb 0,x73] w74 (pE R) fun x75 w76=>J58 [] w76)) fun jk78 vals w77=>R (.returned (.tuple #[])) w77:=by
   rintro b rfl
   refine Cl.dK (w0:=w) hM2 (Hw h3 _) hq3 hf2 hno ?_
   rintro u v F2 w4 e4 hM4 hk4 hq4 hf4 hs4 ⟨rfl,rfl,hgood⟩
   refine .s ?_
   refine .s ?_
   rw[and3 n.s.length (by omega)]
   refine Cl.ret (aaJ (bn n.s.length) (by unfold bn;omega)) ?_
   rintro v w5 ⟨rfl,k5⟩
   have n5:=(k5.same _ hz3 trivial).trans n3
   have n5':=(k5.same _ hz3' trivial).trans n3'
   have h5:=h3.kp k5
   have hq5:=hq4.kp k5
   clear k5
   refine Jn.by (fun _ w'=>∃F' e',Kf F2 w w'∧(∀j,F' j→F2 j∨w.heap.size≤j)∧ER w0 eb cp lim F' w' e'∧M=.ok e') (fun J hJ=>?_) ?_
   ·repeat' first|refine .x ?_|refine .y ?_|refine .z ?_|fail
    cases hfx:i.fixed with
    |true=>
     simp only[hfx,if_true]at hM4
     repeat' first|refine .x ?_|refine .y ?_|refine .z ?_|fail
     refine Cl.w (fun w9=>Kp [] w5 w9∧w9.heap[w5.heap.size]?=some (cl ([n.s,zeros (bn n.s.length)].map κs) 9)) ⟨by exact kpA,by simp only[List.map_cons,List.map_nil];exact lookA⟩ ?_
     rintro w6 ⟨k6,n6⟩
     refine Cl.dK (w0:=w) (k:=fun e=>.ok e) (m:=e.put lim [n.s,zeros (bn n.s.length)]) (by rw[hM4];cases e.put lim [n.s,zeros (bn n.s.length)]<;>rfl) (JW (h5.kp k6) (PartsAt.of (parts:=[n.s,zeros (bn n.s.length)]) n6 (fun hb=>by have:=h5.fl _ hb;omega)) hfu ?_ (by simp)) (hq5.kp k6) hf4 hno ?_
     ·intro s hs
      simp only[List.mem_cons,List.not_mem_nil,or_false]at hs
      rcases hs with rfl|rfl
      ·exact hnl
      ·simp only[zeros,List.length_replicate];unfold bn;omega
     rintro e6 v F3 w7 e6' hM6 hk6 hq6 hf6 hs6 h6
     exact hJ _ _ ⟨F3,e6,hq6,hf6,h6,hM6⟩
    |false=>
     simp only[hfx,Bool.false_eq_true,if_false]at hM4
     have eu:u32 ((n.s.length:Nat):Int)=n.s.length % 4294967296:=by unfold u32;omega
     refine .f ?_
     refine .s ?_
     rw[IU]
     have kd:Kp [] w5 w5.drew:=by exact kpA
     repeat' first|refine .x ?_|refine .y ?_|refine .z ?_|fail
     refine Cl.ret (IK (w:=w5.drew) _ (Ol _)) ?_
     rintro v w6 ⟨rfl,k6⟩
     have n6:=(k6.same _ (lt_of_heap n5) trivial).trans n5
     refine⟨by repeat' first|refine .x ?_|refine .y ?_|refine .z ?_|fail
               rfl, ?_⟩
     refine .s ?_
     have ew:cZ (u32 ((n.s.length:Nat):Int))=cZ n.s.length:=by
      rw[eu]
      unfold cZ
      simp only[List.cons.injEq,and_true]
      refine⟨?_,?_,?_,?_⟩<;>congr 1<;>omega
     rw[ew]
     refine Cl.w (fun w9=>Kp [] w6 w9∧w9.heap[w6.heap.size]?=some (cl ([cZ n.s.length,n.s,zeros (bn n.s.length)].map κs) 9)) ⟨by exact kpA,by simp only[List.map_cons,List.map_nil];exact lookA⟩ ?_
     rintro w7 ⟨k7,n7⟩
     refine Cl.dK (w0:=w) (k:=fun e=>.ok e) (m:=e.put lim [cZ n.s.length,n.s,zeros (bn n.s.length)]) (by rw[hM4];cases e.put lim [cZ n.s.length,n.s,zeros (bn n.s.length)]<;>rfl) (JW (((h5.kp kd).kp k6).kp k7) (PartsAt.of (parts:=[cZ n.s.length,n.s,zeros (bn n.s.length)]) n7 (fun hb=>by have:=((h5.kp kd).kp k6).fl _ hb;omega)) hfu ?_ (by simp)) (((hq5.kp kd).kp k6).kp k7) hf4 hno ?_
     ·intro s hs
      simp only[List.mem_cons,List.not_mem_nil,or_false]at hs
      rcases hs with rfl|rfl|rfl
      ·simp[zN]
      ·exact hnl
      ·simp only[zeros,List.length_replicate];unfold bn;omega
     rintro e6 v F3 w8 e6' hM6 hk6 hq6 hf6 hs6 h6
     exact hJ _ _ ⟨F3,e6,hq6,hf6,h6,hM6⟩
   ·rintro _ w6 jk2 ⟨F3,e6,hq6,hf6,h6,hM6⟩
    exact hok _ _ F3 _ hM6 hq6 hf6 h6
  refine .s ?_
  refine .s ?_
  refine .s ?_
  refine .s ?_
  refine .s ?_
  refine .s ?_
  cases heq:((n.s.length:Int)==i.n)with
  |true=>
   repeat' first|refine .x ?_|refine .y ?_|refine .z ?_|fail
   exact hb _ (by rw[heq];rfl)
  |false=>
   cases hlt:decide ((n.s.length:Int)<i.n)with
   |false=>
    repeat' first|refine .x ?_|refine .y ?_|refine .z ?_|fail
    exact hb _ (by rw[heq,hlt];rfl)
   |true=>
    repeat' first|refine .x ?_|refine .y ?_|refine .z ?_|fail
    exact hb _ (by rw[heq,hlt];rfl)
 ·have hop:(i.op==5)=false:=by have:¬ (i.op:Int)=5:=by simpa using hc
                               simp; omega
  simp only[hop,Bool.false_eq_true,if_false]at hM
  refine Cl.dK (w0:=w) hM (IL h1 (k0.tt k1) 1) (Kp.kf k1) (fun i hi=>Or.inl hi) hno ?_
  rintro n v F1 w2 e2 hM2 hk2 hq2 hf2 hs2 ⟨rfl,rfl,k2,hmem,hfu⟩
  have h2:=h1.kp k2
  have n2:=(k2.same _ z1 trivial).trans n1
  have kb2:Kp [] w0 w2:=Kf.base k0 hq2 h.fM
  clear hM k1 k2 n1
  refine bH.by (aah n.kind n.n n.at_ n.len (bs n.s) w2) ?_
  repeat' first|refine .x ?_|refine .y ?_|refine .z ?_|fail
  refine Cl.ret (Vf i.op n.n (ht.kp kb2) hf') ?_
  rintro v w3 ⟨rfl,rfl⟩
  refine Cl.dK (w0:=w) hM2 (Hw h2 _) hq2 hf2 hno ?_
  rintro u v F2 w4 e4 hM4 hk4 hq4 hf4 hs4 ⟨rfl,rfl,hgood⟩
  repeat' first|refine .x ?_|refine .y ?_|refine .z ?_|fail
  refine .split (fun hc=>?_) (fun hc=>?_)
  ·have ZO:(i.op==2)=true:=by have:(i.op:Int)=2:=by simpa using hc
                              simp; omega
   simp only[ZO,if_true]at hM4
   repeat' first|refine .x ?_|refine .y ?_|refine .z ?_|fail
   have eh:IntKind.u32.wrap ((IntKind.u64.wrap n.n).fdiv (2 ^ min (Int.toNat 32) IntKind.u64.bits))=(((n.n % 18446744073709551616).toNat / 4294967296:Nat):Int):=by
    rw[show min (Int.toNat 32) IntKind.u64.bits=32 from rfl,IntKind.wrap_u32,IntKind.wrap_u64,Int.fdiv_eq_ediv_of_nonneg _ (by decide)]
    rw[show (2:Int) ^ 32=4294967296 by decide]
    omega
   rw[eh]
   refine Cl.ret (IK _ (by omega)) ?_
   rintro v w5 ⟨rfl,k5⟩
   refine .s ?_
   rw[IU]
   refine Cl.ret (IK _ (Ol _)) ?_
   rintro v w6 ⟨rfl,k6⟩
   refine .s ?_
   have h6:=(h2.kp k5).kp k6
   refine Cl.w (fun w9=>Kp [] w6 w9∧w9.heap[w6.heap.size]?=some (cl ([cZ ((n.n % 18446744073709551616).toNat / 4294967296),cZ (u32 n.n)].map κs) 9)) ⟨by exact kpA,by simp only[List.map_cons,List.map_nil];exact lookA⟩ ?_
   rintro w7 ⟨k7,n7⟩
   refine Cl.dK (w0:=w) (k:=fun e=>.ok e) (m:=e.put lim [cZ ((n.n % 18446744073709551616).toNat / 4294967296),cZ (u32 n.n)]) (by rw[hM4];cases e.put lim [cZ ((n.n % 18446744073709551616).toNat / 4294967296),cZ (u32 n.n)]<;>rfl) (JW (h6.kp k7) (PartsAt.of (parts:=[cZ ((n.n % 18446744073709551616).toNat / 4294967296),cZ (u32 n.n)]) n7 (fun hb=>by have:=h6.fl _ hb;omega)) hfu ?_ (by simp)) (((hq4.kp k5).kp k6).kp k7) hf4 hno ?_
   ·intro s hs
    simp only[List.mem_cons,List.not_mem_nil,or_false]at hs
    rcases hs with rfl|rfl<;>simp[zN]
   rintro e6 v F3 w8 e6' hM6 hk6 hq6 hf6 hs6 h8
   exact hok _ _ F3 _ hM6 hq6 hf6 h8
  ·have ZO:(i.op==2)=false:=by have:¬ (i.op:Int)=2:=by simpa using hc
                               simp; omega
   simp only[ZO,Bool.false_eq_true,if_false]at hM4
   refine Ru (F0:=F2) (w:=w) (r:=fun e=>.ok e) h2 hfu (by rw[hM4];cases e.put lim [cZ (u32 n.n)]<;>rfl) hq4 hf4 hno ?_
   rintro x v F4 w8 hM8 hk8 hq8 hf8 hs8 h8
   exact hok _ _ F4 _ hM8 hq8 hf8 h8
end Go.W.T
namespace Go.W.T
open Go Go.W Go.M Go.Proofs
theorem mY{recv:Value}{name:String}{args args':Array Value}{w:World}{E:KE}{K:KV}{f:FuncId}(h:(callMethod recv name args).run P w=.ok (.enter f args') w)(hK:Cl P f args' w E K):rq P recv name args w E K:=
 ⟨by unfold Sr;exact⟨by unfold Iz;rw[h];exact hK⟩⟩
theorem d_leaf(b:Nat)(a:Value)(w:World):(callMethod (.iface 142 (pt b 0)) "marshal/machine.leaf" #[a]).run P w=.ok (.enter gq #[pt b 0,a]) w:=by kernel_rfl
theorem d_list(b:Nat)(a:Value)(w:World):(callMethod (.iface 142 (pt b 0)) "marshal/machine.list" #[a]).run P w=.ok (.enter fZ #[pt b 0,a]) w:=by kernel_rfl
theorem aao(b:Nat)(w:World):(callMethod (.iface 142 (pt b 0)) "marshal/machine.option" #[]).run P w=.ok (.enter eX #[pt b 0]) w:=by kernel_rfl
theorem acr(b:Nat)(a:Value)(w:World):(callMethod (.iface 142 (pt b 0)) "marshal/machine.union" #[a]).run P w=.ok (.enter fD #[pt b 0,a]) w:=by kernel_rfl
theorem acs(b:Nat)(w:World):(callMethod (.iface 142 (pt b 0)) "marshal/machine.place" #[]).run P w=.ok (.enter fE #[pt b 0]) w:=by kernel_rfl
theorem e_leaf(b:Nat)(a:Value)(w:World):(callMethod (.iface 156 (pt b 0)) "marshal/machine.leaf" #[a]).run P w=.ok (.enter fV #[pt b 0,a]) w:=by kernel_rfl
theorem e_list(b:Nat)(a:Value)(w:World):(callMethod (.iface 156 (pt b 0)) "marshal/machine.list" #[a]).run P w=.ok (.enter fU #[pt b 0,a]) w:=by kernel_rfl
theorem aam(b:Nat)(w:World):(callMethod (.iface 156 (pt b 0)) "marshal/machine.option" #[]).run P w=.ok (.enter eU #[pt b 0]) w:=by kernel_rfl
theorem ack(b:Nat)(a:Value)(w:World):(callMethod (.iface 156 (pt b 0)) "marshal/machine.union" #[a]).run P w=.ok (.enter fB #[pt b 0,a]) w:=by kernel_rfl
theorem acm(b:Nat)(w:World):(callMethod (.iface 156 (pt b 0)) "marshal/machine.place" #[]).run P w=.ok (.enter fC #[pt b 0]) w:=by kernel_rfl
theorem PostF.mono{β:Type}{F:Nat→Prop}{w:World}{m:Res β}{good good':β→Value→(Nat→Prop)→World→Prop}{f:FuncId}{args:Array Value}(h:Calls P f args w (PostF F w m good))(hg:∀b v F' w',m=.ok b→good b v F' w'→good' b v F' w'):Calls P f args w (PostF F w m good'):=by
 refine h.mono ?_
 rintro en w' ⟨h1,h2⟩
 refine⟨h1,?_⟩
 cases m with
 |ok b=>obtain⟨v,F',h3,h4,h5⟩:=h2;exact⟨v,F',h3,h4,hg b v F' w' rfl h5⟩
 |no e a=>exact h2
theorem Uh{L:List Ins}{tabs:List Tab}{i:Ins}(h:wW L.length tabs i=true)(hi:i.op=13)(n:Int):target tabs i n<L.length:=by
 unfold wW at h
 have h1:=of_decide_eq_true (Bool.and_eq_true _ _|>.mp h).1
 have h2:=(Bool.and_eq_true _ _|>.mp h).2
 unfold target
 split
 ·have:=h1.2.2.1
  rcases Nat.eq_zero_or_pos L.length with e|e<;>omega
 ·split
  ·rename_i t ht
   have hm:(n,t)∈(kG tabs i.table).getD []:=by
    clear h2
    revert ht
    generalize (kG tabs i.table).getD []=l
    intro ht
    induction l with
    |nil=>cases ht
    |cons x r ih=>
     obtain⟨a,b⟩:=x
     rw[List.lookup_cons]at ht
     cases hab:n==a with
     |true=>rw[hab]at ht;simp at ht hab;subst ht hab;exact List.mem_cons_self ..
     |false=>rw[hab]at ht;exact List.mem_cons_of_mem _ (ih ht)
   have:=of_decide_eq_true (List.all_eq_true.mp h2 _ hm) hi
   simp only at this
   omega
  ·exact h1.2.2.1
theorem DR.extF{M db:Nat}{cp:Value}{lim:Lim}{F G:Nat→Prop}{w w':World}{d:DS}(h:DR M db cp lim F w d)(k:Kf G w w')(hd:∀i,F i→¬ G i):DR M db cp lim F w' d:=by
 obtain⟨v,o,h1,h2,h3⟩:=h.c
 exact { h with c:=⟨v,o,(k.same _ (lt_of_heap h1) (hd _ h.fd)).trans h1,Hg h2 k (fun b hb=>hd _ (h3 b hb).2),h3⟩,fl:=fun b hb=>Nat.lt_of_lt_of_le (h.fl b hb) k.size }
theorem VI{lim:Lim}{i:Ins}{d:DS}{x:Int×DS}(hm:d.list lim i=.ok x)(h0:0≤i.n)(h1:i.n≤4294967295):0≤x.1∧x.1≤4294967295:=by
 rw[DS.list]at hm
 obtain⟨u,_,hm⟩:=Res.then_ok hm
 obtain⟨y,hy,hm⟩:=Res.then_ok hm
 cases hm
 split at hy
 ·obtain⟨z,hz,hy⟩:=Res.then_ok hy
  cases hy
  rw[DS.count]at hz
  obtain⟨q,hq,hz⟩:=Res.then_ok hz
  split at hz
  ·cases hz
  ·cases hz;simp only;omega
 ·cases hy;simp only;omega
theorem readC{w0:World}{db:Nat}{cp:Value}{lim:Lim}{T:List Nat}{L:List Ins}{tabs:List Tab}(hc:MC w0 cp T L tabs)(hL:∀i∈L,wW L.length tabs i=true):
  WayC w0 (.iface 142 (pt db 0)) (pt db 0) (FU L tabs lim) (fun F w d=>DR w0.heap.size db cp lim F w d) T L where
 low F w d h b hb:=⟨h.fM b hb,h.fl b hb⟩
 ext F G w w' d h k hd:=h.extF k hd
 leaf:=⟨gq,fun a w E K h=>mY (d_leaf db a w) h,fun F w d i t u h k hi ht hu=>aaV h k hc.t ht hu (fun _=>by
  have:=hL i hi
  unfold wW at this
  exact(of_decide_eq_true (Bool.and_eq_true _ _|>.mp this).1).1)⟩
 list:=⟨fZ,fun a w E K h=>mY (d_list db a w) h,fun F w d i t u h k hi ht hu=>PostF.mono (aaT h ht hu) (fun b v F' w' hm hg=>by
  have hio:=hL i hi
  unfold wW at hio
  have hb:=of_decide_eq_true (Bool.and_eq_true _ _|>.mp hio).1
  have hr:=VI hm hb.1 hb.2.1
  exact⟨hg.1,hr.1,hr.2,hg.2⟩)⟩
 option:=⟨eX,fun w E K h=>mY (aao db w) h,fun F w d h k=>Xz h⟩
 union:=⟨fD,fun a w E K h=>mY (acr db a w) h,fun F w d i t u h k hi h13 ht hu=>PostF.mono (YE h k hc ht hu (Uh (hL i hi) h13)) (fun b v F' w' _ hg=>⟨hg.1,hg.2.1,hg.2.2.2⟩)⟩
 place:=⟨fE,fun w E K h=>mY (acs db w) h,fun F w d h=>YJ h⟩
theorem YI{w0:World}{eb:Nat}{cp:Value}{lim:Lim}{F:Nat→Prop}{w:World}{e:ES}(h:ER w0 eb cp lim F w e):
  Calls P fC #[pt eb 0] w (Ret fun v w'=>v=i64 (e.k:Nat)∧w'=w):=by
 refine Ret.R fun R hR=>?_
 apply Ak
 unfold oI
 obtain⟨v,a,buf,o,h1,h2,h3,h4,h5⟩:=h.c
 repeat' first|refine .x ?_|refine .y ?_|refine .z ?_|fail
 exact hR _ _ ⟨rfl,rfl⟩
theorem writeC{w0:World}{eb:Nat}{cp:Value}{lim:Lim}{T:List Nat}{L:List Ins}{tabs:List Tab}(hc:MC w0 cp T L tabs)(hL:∀i∈L,wW L.length tabs i=true):
  WayC w0 (.iface 156 (pt eb 0)) (pt eb 0) (zK L tabs lim) (fun F w e=>ER w0 eb cp lim F w e) T L where
 low F w d h b hb:=⟨h.fM b hb,h.fl b hb⟩
 ext F G w w' d h k hd:=h.ext k hd
 leaf:=⟨fV,fun a w E K h=>mY (e_leaf eb a w) h,fun F w d i t u h k hi ht hu=>aaW h k hc.t ht hu⟩
 list:=⟨fU,fun a w E K h=>mY (e_list eb a w) h,fun F w d i t u h k hi ht hu=>aaU h k ht hu (by
  have:=hL i hi
  unfold wW at this
  have:=of_decide_eq_true (Bool.and_eq_true _ _|>.mp this).1
  exact⟨this.1,this.2.1⟩)⟩
 option:=⟨eU,fun w E K h=>mY (aam eb w) h,fun F w d h k=>XA h k⟩
 union:=⟨fB,fun a w E K h=>mY (ack eb a w) h,fun F w d i t u h k hi h13 ht hu=>YF h k hc ht hu (Uh (hL i hi) h13)⟩
 place:=⟨fC,fun w E K h=>mY (acm eb w) h,fun F w d h=>YI h⟩
end Go.W.T
