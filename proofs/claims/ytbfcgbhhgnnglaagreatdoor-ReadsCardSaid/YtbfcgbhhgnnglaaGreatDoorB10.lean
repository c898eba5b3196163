/- Texts of mine, one behind the other; nothing is assumed. -/
import Derived.Test.YtbfcgbhhgnnglaaGreatDoorB09
import Derived.MapKept
set_option autoImplicit true
set_option relaxedAutoImplicit true
set_option linter.unusedSimpArgs false
set_option linter.unusedVariables false
set_option linter.unusedSectionVars false
namespace Go.W
open Go
def MK{α:Type}(κ:α->Value)(es:Array MapEntry)(clock:Nat)(m:List (α×Value)):Prop:=
 es.toList.map (λe=>(e.key,e.val))=m.map (λx=>(κ x.1,x.2))/\MapKept.Stamped es clock
abbrev κs(l:List UInt8):Value:=.string (bs l)
abbrev κi(k:IntKind)(n:Int):Value:=.int k n
class Keyed (α:Type) [BEq α] (d:TypeDesc) (κ:α->Value):Prop where
 same:∀a b,Instr.sameNow d (κ a) (κ b)=some (a==b)
instance :Keyed (List UInt8) .string κs:=⟨λa b=>by
 show some (bs a==bs b)=_;congr 1;rw[Bool.eq_iff_iff,MapKept.bytes_beq,beq_iff_eq]
 exact⟨bs_inj,λh=>by rw[h]⟩⟩
instance (k:IntKind):Keyed Int (.int k) (κi k):=⟨λa b=>by simp[Instr.sameNow]⟩
variable {α:Type} [BEq α] [LawfulBEq α] {d:TypeDesc} {κ:α->Value} [Keyed α d κ]
def qW(m:List (α×Value))(a:α)(v:Value):List (α×Value):=
 match m with
 |[]=>[(a,v)]
 |x::r=>if a==x.1 then(a,v)::r else x::qW r a v
theorem xI(a:α)(u:Value):∀(es:List MapEntry) (m:List (α×Value)) (i:Nat),es.map (λe=>(e.key,e.val))=m.map (λx=>(κ x.1,x.2)) ->
  (m.lookup a=none/\Instr.findNow d (κ a) es i=some none)\/∃j v,m.lookup a=some v/\Instr.findNow d (κ a) es i=some (some (i+j,v)) /\
   (es.modify j λe=>{ e with key:=κ a,val:=u }).map (λe=>(e.key,e.val))=(qW m a u).map (λx=>(κ x.1,x.2))/\(es[j]?).map (·.key)=some (κ a)
 |[],[],i,_=>Or.inl ⟨rfl,rfl⟩
 |[],_::_,_,h=>by simp at h
 |_::_,[],_,h=>by simp at h
 |e::es,x::m,i,h=>by
  simp only[List.map_cons,List.cons.injEq,Prod.mk.injEq]at h;obtain⟨⟨h1,h2⟩,h3⟩:=h;unfold Instr.findNow;rw[h1,Keyed.same];cases hb:a==x.1 with
  |true=>
   refine Or.inr ⟨0,x.2,?_,?_,?_,?_⟩
   .rw[List.lookup_cons,hb]
   .rw[h2];rfl
   .have hx:a=x.1:=by simpa using hb
    simp[qW,hb,h3,List.modify_cons]
   .have hx:a=x.1:=by simpa using hb
    simp[h1,hx]
  |false=>
   rcases xI a u es m (i+1) h3 with⟨h4,h5⟩|⟨j,v,h4,h5,h6,h7⟩
   .refine Or.inl ⟨?_,h5⟩;rw[List.lookup_cons,hb];exact h4
   .refine Or.inr ⟨j+1,v,?_,?_,?_,by simpa using h7⟩
    .rw[List.lookup_cons,hb];exact h4
    .show Instr.findNow d (κ a) es (i+1)=_;rw[h5];congr 3;omega
    .simp only[List.modify_succ_cons,List.map_cons,qW,hb,Bool.false_eq_true,if_false,h1,h2];rw[h6]
theorem zY{m:List (α×Value)}{a:α}(u:Value)(h:m.lookup a=none):qW m a u=m++[(a,u)]:=by
 induction m with
 |nil=>rfl
 |cons x r ih=>
  rw[List.lookup_cons]at h;cases hb:a==x.1 with
  |true=>rw[hb]at h;cases h
  |false=>rw[hb]at h;simp[qW,hb,ih h]
theorem MK.empty:MK κ #[] 0 ([]:List (α×Value)):=⟨rfl,MapKept.stamped_empty 0⟩
theorem Nz(hk:Keyed α d κ){a:α}{m:List (α×Value)}(h:m.lookup a=none):∀x∈m,κ x.1≠κ a:=by
 intro x hx he;have h1:=Keyed.same (d:=d) (κ:=κ) a x.1;rw[he]at h1;rw[Keyed.same (d:=d) (κ:=κ) a a]at h1;have h2:a=x.1:=by
  have:=Option.some.inj h1;rw[beq_self_eq_true]at this;exact eq_of_beq this.symm
 have:=List.lookup_eq_none_iff.mp h x hx;rw[h2]at this;simp at this
section
variable {w:World}
theorem Lk.s
  (hm:MK κ es clock m) (h:w.heap[b]?=some (.map es clock)) (hK:K (.tuple #[(m.lookup a).getD z,.bool (m.lookup a).isSome])):Lk d z (.map (some b)) (κ a) true w K:=by
 refine⟨?_⟩;unfold LkD;simp only[h];rcases xI (d:=d) a z es.toList m 0 hm.1 with⟨h1,h2⟩|⟨j,v,h1,h2,_,_⟩
 .rw[h2];rw[h1]at hK;exact hK
 .rw[h2];rw[h1]at hK;exact hK
theorem Mu.s{es:Array MapEntry}{clock:Nat}{m:List (α×Value)}{a:α}{b:Nat}{v:Value}{K:World->Prop}
  (hm:MK κ es clock m) (h:w.heap[b]?=some (.map es clock)) (hK:∀es' clock',MK κ es' clock' (qW m a v)->K (ag w b (.map es' clock'))):Mu d (.map (some b)) (κ a) v w K:=by
 refine⟨?_⟩;unfold MuD;simp only[h];rcases xI (d:=d) a v es.toList m 0 hm.1 with⟨h1,h2⟩|⟨j,u,h1,h2,h3,h4⟩
 .rw[h2];refine hK _ _ ⟨?_,?_⟩
  .rw[zY v h1];simp[hm.1]
  .refine MapKept.stamped_push hm.2 ?_;intro x hx he;have hx':(x.key,x.val)∈es.toList.map (λe=>(e.key,e.val)):=List.mem_map.mpr ⟨x,hx,rfl⟩;rw[hm.1]at hx';obtain⟨y,hy,e⟩:=List.mem_map.mp hx';exact Nz (d:=d) (κ:=κ) inferInstance h1 y hy (by rw[<- he];exact congrArg Prod.fst e)
 .rw[h2];simp only[Nat.zero_add]at *;refine hK _ _ ⟨by rw[Array.toList_modify];exact h3,?_⟩;refine MapKept.stamped_modify hm.2 j _ (λ_ _=>rfl) ?_;intro e he hj;show κ a=e.key;rw[Array.getElem?_toList,hj]at h4;exact(Option.some.inj h4).symm
abbrev Mu.q:=@Mu.s
end
end Go.W
namespace Go.W
theorem Lk.str
  (hm:MK κs es clock m) (h:w.heap[b]?=some (.map es clock)) (hK:K (.tuple #[(m.lookup a).getD z,.bool (m.lookup a).isSome])):Lk .string z (.map (some b)) (.string (bs a)) true w K:=
 Lk.s (κ:=κs) (d:=.string) hm h hK
theorem Mu.str
  (hm:MK κs es clock m) (h:w.heap[b]?=some (.map es clock)) (hK:∀es' clock',MK κs es' clock' (qW m a v)->K (ag w b (.map es' clock'))):Mu .string (.map (some b)) (.string (bs a)) v w K:=
 Mu.s (κ:=κs) (d:=.string) hm h hK
theorem Lk.int
  (hm:MK (κi k) es clock m) (h:w.heap[b]?=some (.map es clock)) (hK:K (.tuple #[(m.lookup a).getD z,.bool (m.lookup a).isSome])):Lk (.int k) z (.map (some b)) (.int k a) true w K:=
 Lk.s (κ:=κi k) (d:=.int k) hm h hK
theorem Mu.int
  (hm:MK (κi k) es clock m) (h:w.heap[b]?=some (.map es clock)) (hK:∀es' clock',MK (κi k) es' clock' (qW m a v)->K (ag w b (.map es' clock'))):Mu (.int k) (.map (some b)) (.int k a) v w K:=
 Mu.s (κ:=κi k) (d:=.int k) hm h hK
abbrev un:Value:=.agg #[]
def aW(w:World)(b:Nat)(l:List (List UInt8)):Prop:=∃es clock,w.heap[b]?=some (.map es clock)/\MK κs es clock (l.map (·,un))
def aH(k:IntKind)(w:World)(b:Nat)(l:List Int):Prop:=∃es clock,w.heap[b]?=some (.map es clock)/\MK (κi k) es clock (l.map (·,un))
theorem EU[BEq α][LawfulBEq α](l:List α)(a:α):(l.map (·,un)).lookup a=if l.contains a then some un else none:=by
 induction l with
 |nil=>rfl
 |cons x r ih=>
  simp only[List.map_cons,List.lookup_cons,List.contains_cons];cases h:a==x with
  |true=>simp
  |false=>simpa using ih
theorem Vk{α:Type}[BEq α][LawfulBEq α](l:List α)(a:α)(h:l.contains a=false):qW (l.map (·,un)) a un=(l++[a]).map (·,un):=by
 rw[zY]
 .simp
 .rw[EU,h];rfl
theorem Lk.set{w:World}{es:Array MapEntry}{clock:Nat}{l:List (List UInt8)}{a:List UInt8}{b:Nat}{K:Value->Prop}
  (hm:MK κs es clock (l.map (·,un))) (h:w.heap[b]?=some (.map es clock)) (hK:K (.tuple #[un,.bool (l.contains a)])):Lk .string un (.map (some b)) (.string (bs a)) true w K:=by
 refine Lk.str hm h ?_;rw[EU];cases hc:l.contains a<;>rw[hc]at hK<;>exact hK
theorem Mu.set
  (hm:MK κs es clock (l.map (·,un))) (h:w.heap[b]?=some (.map es clock)) (hc:l.contains a=false)
  (hK:∀es' clock',MK κs es' clock' ((l++[a]).map (·,un))->K (ag w b (.map es' clock'))):Mu .string (.map (some b)) (.string (bs a)) un w K:=by
 refine Mu.str hm h ?_;rw[Vk _ _ hc];exact hK
theorem Lk.ZF{k:IntKind}{w:World}{es:Array MapEntry}{clock:Nat}{l:List Int}{a:Int}{b:Nat}{K:Value->Prop}
  (hm:MK (κi k) es clock (l.map (·,un))) (h:w.heap[b]?=some (.map es clock)) (hK:K (.tuple #[un,.bool (l.contains a)])):Lk (.int k) un (.map (some b)) (.int k a) true w K:=by
 refine Lk.int hm h ?_;rw[EU];cases hc:l.contains a<;>rw[hc]at hK<;>exact hK
theorem Mu.ZF
  (hm:MK (κi k) es clock (l.map (·,un))) (h:w.heap[b]?=some (.map es clock)) (hc:l.contains a=false)
  (hK:∀es' clock',MK (κi k) es' clock' ((l++[a]).map (·,un))->K (ag w b (.map es' clock'))):Mu (.int k) (.map (some b)) (.int k a) un w K:=by
 refine Mu.int hm h ?_;rw[Vk _ _ hc];exact hK
theorem lookA{w:World}{b:Nat}{o:Option Obj}(h:w.heap[b]?=o:=by(refine aV.out ?_;repeat' (first|with_reducible exact aV.tZ ..|with_reducible refine aV.Ja (by first|(simp only[size_alloc,ah,size_drew];omega)|(simp only[size_alloc,ah,size_drew];done)|omega)|with_reducible refine aV.zy (by first|(simp only[size_alloc,ah,size_drew];omega)|(simp only[size_alloc,ah,size_drew];done)|omega) ?_|with_reducible refine aV.I9 (by first|(simp only[size_alloc,ah,size_drew];omega)|(simp only[size_alloc,ah,size_drew];done)|omega) ?_|with_reducible refine aV.drew ?_|with_reducible refine aV.of (by assumption)|with_reducible refine aV.kp (by assumption) (by first|(simp only[size_alloc,ah,size_drew];omega)|(simp only[size_alloc,ah,size_drew];done)|omega) (by first|exact trivial|(simp only[Out,and_true,true_and];done)|(simp only[Out,and_true,true_and];first|omega|(simp only[size_alloc,ah,size_drew];done)|(simp only[size_alloc,ah,size_drew];omega))) ?_|with_reducible refine aV.alloc_at (by first|(simp only[size_alloc,ah,size_drew];omega)|(simp only[size_alloc,ah,size_drew];done)|omega)))):w.heap[b]?=o:=h
theorem kpA(h:Kp X w w':=by(repeat' (first|with_reducible exact Kp.refl _ _|with_reducible assumption|with_reducible exact Kq.out (by assumption)|with_reducible exact Kp.any (by assumption)|with_reducible refine Kp.via (by assumption) ?_|with_reducible apply Kp.drew|with_reducible apply Kp.alloc|(with_reducible refine Kp.set ?_ ?_ _;rotate_left;first|omega|(simp only[size_alloc,ah,size_drew];done)|(simp only[size_alloc,ah,size_drew];omega))|(with_reducible refine Kp.obj ?_ ?_ _;rotate_left;first|omega|(simp only[size_alloc,ah,size_drew];done)|(simp only[size_alloc,ah,size_drew];omega))|(with_reducible refine Kp.yS ?_ (by simp only[Out,and_true,true_and];omega) _)|with_reducible refine Kp.viaX (by assumption) (λi hi ho=>by first|exact ho|exact trivial|(simp only[Out,and_true,true_and]at ho ⊢;omega)) ?_|exact Kp.refl _ _))):Kp X w w':=h
end Go.W
namespace Go.W
open Go
theorem IaA.s{l m b o j:Nat}{k:IntKind}{i:Int}{K:Value->Prop}(hK:K (pt b (o+j)))(h0:0<=i:=by decide)(h1:i<l:=by decide)(hj:i.toNat*m=j:=by first|(simp only[Int.reduceToNat,Nat.reduceMul];rfl)|rfl):IaA l m (pt b o) (.int k i) K:=by
 rw[rIaA h0 h1,add_eq,hj];exact hK
abbrev IaA.q:=@IaA.s
theorem oC.f{P:Program}{f:FuncId}{first captured args:Array Value}{w:World}{E:KE}{K:KV}(hp:nK P f=true)(h:Cl P f (first++args++captured) w E K):oC P (.func (.func f) first captured) args w E K:=by
 refine⟨?_⟩;unfold aaR;refine⟨?_⟩;unfold Fh;have:(do let d <- Deferred.ofValue (.func (.func f) first captured) args;invoke d.target d.args:Sem Next)=callFunc f (first++args++captured):=rfl;rw[this,pq hp];exact h
abbrev oC.q:=@oC.f
def Gw(w:World)(e:TypeId)(m:Nat)(v:Value)(n:Nat)(l:List Value)(o:Option Nat):Prop:=
 l.length=n*m/\match o with
 |none=>v=.slice none 0 0/\n=0
 |some b=>∃rest cap,v=.slice (some ⟨b,0,none⟩) n cap/\w.heap[b]?=some (cl (l++rest) e)/\l.length+rest.length=cap*m
def own:Option Nat->List (Nat×Nat)
 |none=>[]
 |some b=>[(b,b+1)]
theorem aF(h:o≠some c):Out (own o) c:=by
 cases o with
 |none=>trivial
 |some b=>exact⟨by have:b≠c:=λe=>h (by rw[e]);omega,trivial⟩
theorem Kp.own(h:Kp X a w)(k:Kp (own o) w w')(ho:∀b,o=some b->a.heap.size<=b):Kp X a w':=
 h.trans k λi hi hx=>⟨hx,aF (λe=>by have:=ho i e;omega)⟩
theorem Gw.nil(w:World)(e:TypeId)(m:Nat):Gw w e m (.slice none 0 0) 0 [] none:=⟨smp,rfl,rfl⟩
theorem Gw.kp(h:Gw w e m v n l o)(k:Kp X w w')(hx:∀b,o=some b->Out X b):Gw w' e m v n l o:=by
 obtain⟨h1,h2⟩:=h;refine⟨h1,?_⟩;cases o with
 |none=>exact h2
 |some b=>obtain⟨r,c,h3,h4,h5⟩:=h2;exact⟨r,c,h3,(k.same b (lt_of_heap h4) (hx b rfl)).trans h4,h5⟩
theorem Gw.lt(h:Gw w e m v n l o):∀b,o=some b->b<w.heap.size:=by
 rintro b rfl;obtain⟨_,r,c,_,h4,_⟩:=h;exact lt_of_heap h4
theorem Gw.len(h:Gw w e m v n l o):∃a c,v=.slice a n c:=by
 obtain⟨_,h2⟩:=h;cases o with
 |none=>obtain⟨h3,h4⟩:=h2;subst h4;exact⟨_,_,h3⟩
 |some b=>obtain⟨r,c,h3,_⟩:=h2;exact⟨_,_,h3⟩
theorem kR(h:w.heap[b]?=some (cl l e)):∀(n i:Nat),i+n<=l.length->eY w ⟨b,0,none⟩ i n=some ((l.drop i).take n)
 |0,i,_=>by simp[eY]
 |n+1,i,hn=>by
  rw[eY,kR h n (i+1) omg];have:w.cell? (Addr.add ⟨b,0,none⟩ i)=some l[i]:=by
   rw[add_eq,jM,h,Option.bind_some,fM,Nat.zero_add];simp[List.getElem?_eq_getElem (show i<l.length by omega)]
  rw[this];simp only[List.drop_eq_getElem_cons (show i<l.length by omega),List.take_succ_cons]
theorem nJ(zero:Array Value)(n:Nat):(Builtin.zeroCells zero n).size=n*zero.size:=by
 unfold Builtin.zeroCells;simp
theorem Ap.g{e m bytes:Nat}{zero v:Value}{b' e':Nat}{news l:List Value}{w:World}{K:KV}{n:Nat}{o:Option Nat}
  (hg:Gw w e m v n l o) (hb':w.heap[b']?=some (cl news e')) (hn:news.length=m) (hone:news.all (·.oneCell')=true)
  (hK:∀v' w' o',Gw w' e m v' (n+1) (l++news) o'->(o'=o\/o'=some w.heap.size)->Kp (own o) w w'->K v' w')
  (hb:(n+1)*bytes<=140737488355328) (hz:zero.cells.size=m:=by rfl):Ap e m bytes zero v (.slice (some ⟨b',0,none⟩) 1 1) w K:=by
 refine⟨?_⟩;have hsrc:fU m (.slice (some ⟨b',0,none⟩) 1 1) w=some (1,news):=by
  simp only[fU,Nat.one_mul];rw[kR hb' m 0 omg];simp[<- hn]
 obtain⟨hl,hg2⟩:=hg;have hlen:((l++news).length)=(n+1)*m:=by rw[List.length_append,hl,hn,Nat.add_mul,Nat.one_mul]
 cases o with
 |none=>
  obtain⟨rfl,rfl⟩:=hg2;have hl0:l=[]:=List.length_eq_zero_iff.mp (by rw[hl];omega);subst hl0;unfold ApD;refine⟨1,news,hsrc,?_⟩;rw[if_neg omg];refine⟨by simpa using hb,[],0,by simp[fU],λc hc=>?_⟩;refine hK _ _ (some w.heap.size) ⟨hlen,(Builtin.zeroCells zero.cells (c - (0+1))).toList,c,?_,?_,?_⟩ (Or.inr rfl) ?_
  .simp
  .rw[iw (by rfl)];simp only[List.nil_append,Array.empty_append,cl];congr 2;apply Array.toList_inj.mp;simp only[Array.toList_append]
  .rw[hlen,Array.length_toList,nJ,hz,<- Nat.add_mul];congr 1;omega
  .exact((Kp.refl _ _).drew).alloc _
 |some b=>
  obtain⟨rest,cap,rfl,hbb,hcap⟩:=hg2;unfold ApD;refine⟨1,news,hsrc,?_⟩
  by_cases hfit:n+1<=cap
  .rw[if_pos hfit];have hm:(n+1)*m<=cap*m:=Nat.mul_le_mul_right m hfit;rw[Nat.add_mul,Nat.one_mul]at hm;have hsz:n*m+news.length<=(List.toArray (l++rest)).size:=by simp;omega
   have hadd:(Addr.add ⟨b,0,none⟩ (n*m))=⟨b,n*m,none⟩:=by rw[add_eq,Nat.zero_add]
   simp only[];rw[hadd,oI e news w b (n*m) 0 (List.toArray (l++rest)) hbb (by rw[Nat.add_zero];exact hsz) hone];refine hK _ _ (some b) ⟨hlen,rest.drop m,cap,rfl,?_,?_⟩ (Or.inl rfl) ?_
   .rw[mF hbb];congr 2;unfold putAt;congr 1;have e1:List.take (n*m) (l++rest)=l:=by rw[<- hl,List.take_left'];rfl
    have e2:List.drop (n*m+news.length) (l++rest)=rest.drop m:=by rw[<- hl,hn,<- List.drop_drop,List.drop_left'];rfl
    simp only[Nat.add_zero,e1,e2,List.append_assoc]
   .rw[hlen,List.length_drop,Nat.add_mul,Nat.one_mul];omega
   .exact Kp.yS (Kp.refl _ _) (by simp[own,Out]) _
  .rw[if_neg hfit];have hcn:eY w ⟨b,0,none⟩ 0 (n*m)=some l:=by
    rw[kR hbb (n*m) 0 (by rw[List.length_append];omega)];simp[<- hl]
   refine⟨hb,l,n,by simp[fU,hcn],λc hc=>?_⟩;refine hK _ _ (some w.heap.size) ⟨hlen,(Builtin.zeroCells zero.cells (c - (n+1))).toList,c,rfl,?_,?_⟩ (Or.inr rfl) ?_
   .rw[iw (by rfl)];congr 2;apply Array.toList_inj.mp;simp only[Array.toList_append]
   .rw[hlen,Array.length_toList,nJ,hz,<- Nat.add_mul];congr 1;omega
   .exact((Kp.refl _ _).drew).alloc _
theorem Ap.w{e m bytes:Nat}{zero v x:Value}{w:World}{K:KV}(Q:World->Prop)(hQ:Q w)(h:∀w9,Q w9->Ap e m bytes zero v x w9 K):Ap e m bytes zero v x w K:=h w hQ
theorem Cl.w{P:Program}{f:FuncId}{args:Array Value}{w:World}{E:KE}{K:KV}(Q:World->Prop)(hQ:Q w)(h:∀w9,Q w9->Cl P f args w9 E K):Cl P f args w E K:=h w hQ
theorem Lk.s0[BEq α][LawfulBEq α][Keyed α d κ]
  (hm:MK κ es clock m) (h:w.heap[b]?=some (.map es clock)) (hK:K ((m.lookup a).getD z)):Lk d z (.map (some b)) (κ a) false w K:=by
 refine⟨?_⟩;unfold LkD;simp only[h];rcases xI (d:=d) a z es.toList m 0 hm.1 with⟨h1,h2⟩|⟨j,v,h1,h2,_,_⟩
 .rw[h2];rw[h1]at hK;exact hK
 .rw[h2];rw[h1]at hK;exact hK
theorem Lk.str0
  (hm:MK κs es clock m) (h:w.heap[b]?=some (.map es clock)) (hK:K ((m.lookup a).getD z)):Lk .string z (.map (some b)) (.string (bs a)) false w K:=
 Lk.s0 (κ:=κs) (d:=.string) hm h hK
theorem Lk.int0
  (hm:MK (κi k) es clock m) (h:w.heap[b]?=some (.map es clock)) (hK:K ((m.lookup a).getD z)):Lk (.int k) z (.map (some b)) (.int k a) false w K:=
 Lk.s0 (κ:=κi k) (d:=.int k) hm h hK
end Go.W
