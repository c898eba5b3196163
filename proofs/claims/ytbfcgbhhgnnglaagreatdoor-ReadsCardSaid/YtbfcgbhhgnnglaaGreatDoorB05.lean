/- Texts of mine, one behind the other; nothing is assumed. -/
import Derived.Test.YtbfcgbhhgnnglaaGreatDoorB04
import Derived.Laws.AppendOwn
import Derived.Laws.OwnMore
set_option autoImplicit true
set_option relaxedAutoImplicit true
set_option linter.unusedSimpArgs false
set_option linter.unusedVariables false
namespace Go.W
open Go
section
variable {P:Program} {w:World}
theorem Xx:∀(l:List Value) (cs:Array Value) (off k:Nat),
  ((l.zipIdx k).foldl (λ(cs:Array Value) (p:Value×Nat)=>cs.setIfInBounds (off+p.2) p.1) cs).toList=putCells cs.toList (off+k) l:=by
 intro l;induction l with
 |nil=>intro cs off k;simp[putCells]
 |cons v r ih=>
  intro cs off k;simp only[List.zipIdx_cons,List.foldl_cons,putCells];rw[ih];simp[Nat.add_assoc]
theorem Gx:∀(l:List Value) (cs:List Value) (off:Nat),(putCells cs off l).length=cs.length:=by
 intro l;induction l with
 |nil=>intro cs off;rfl
 |cons v r ih=>intro cs off;simp[putCells,ih]
theorem Rl(place:Nat->Option (Nat×Nat)):∀(ps:List (Nat×Value)) (qs:List (Nat×Nat×Value)) (cells:Array Value) (r:List Value),
  ps.length=qs.length->(∀(k:Nat) (p:Nat×Value) (q:Nat×Nat×Value),ps[k]?=some p->qs[k]?=some q->place p.1=some (q.1,q.2.1)/\p.2=q.2.2) ->
  o8 cells.toList qs=some r->Instr.fill place cells ps=some r.toArray:=by
 intro ps;induction ps with
 |nil=>
  intro qs cells r hl hk h;cases qs with
  |nil=>simp[o8]at h;simp[Instr.fill,<- h]
  |cons q qs=>simp at hl
 |cons p ps ih=>
  intro qs cells r hl hk h;cases qs with
  |nil=>simp at hl
  |cons q qs=>
   obtain⟨off,size,v⟩:=q;obtain⟨i,v'⟩:=p;obtain⟨hp,rfl⟩:=hk 0 (i,v') (off,size,v) rfl rfl;simp only[o8]at h;split at h
   .rename_i hc;simp only[Instr.fill,hp];have h1:(v'.cells.size≠size||off+v'.cells.size>cells.size)=false:=by
     simp only[Array.length_toList]at hc;simp[hc.1,hc.2]
    simp only[h1,Bool.false_eq_true,if_false];have hf:=Xx v'.cells.toList cells off 0;refine ih qs _ r (by simpa using hl) (λk p q h1 h2=>hk (k+1) p q (by simpa using h1) (by simpa using h2)) ?_;rw[<- Array.foldl_toList,Array.toList_zipIdx,hf,Nat.add_zero];exact h
   .cases h
theorem run_places{fs:Array Field}(h:qI P fs.toList=true):
  (fs.mapM λf=>(do pure (f.offset,<- sizeOf f.type):Sem (Nat×Nat))).run P w=.ok (fs.map λf=>(f.offset,P.cellsOf f.type)) w:=by
 obtain⟨l⟩:=fs;simp only[List.mapM_toArray,Sem.run_map];have key:∀l:List Field,qI P l=true->(l.mapM λf=>(do pure (f.offset,<- sizeOf f.type):Sem (Nat×Nat))).run P w=.ok (l.map λf=>(f.offset,P.cellsOf f.type)) w:=by
  intro l;induction l with
  |nil=>intro _;simp
  |cons f r ih=>
   intro h;simp only[qI,Bool.and_eq_true]at h;cases hi:P.info? f.type with
   |none=>simp[hi]at h
   |some i=>
    have:=ih h.2;simp only[bind_pure_comp]at this;simp[List.mapM_cons,run_sizeOf hi,this,Program.cellsOf,hi]
 rw[key l h];simp
theorem Cf(fs:Array Field):∀(ps:List (Nat×Value)) (qs:List (Nat×Nat×Value)),jo P fs ps=some qs ->
  ps.length=qs.length/\∀(k:Nat) (p:Nat×Value) (q:Nat×Nat×Value),ps[k]?=some p->qs[k]?=some q->((fs.map λf=>(f.offset,P.cellsOf f.type))[p.1]?=some (q.1,q.2.1))/\p.2=q.2.2:=by
 intro ps;induction ps with
 |nil=>intro qs h;simp[jo]at h;subst h;simp
 |cons p ps ih=>
  intro qs h;obtain⟨i,v⟩:=p;simp only[jo]at h;split at h
  .rename_i fl l hf hl;simp only[Option.some.injEq]at h;subst h;obtain⟨h1,h2⟩:=ih l hl;refine⟨by simp[h1],λk p q hp hq=>?_⟩;cases k with
   |zero=>simp at hp hq;subst hp hq;simp[hf]
   |succ k=>exact h2 k p q (by simpa using hp) (by simpa using hq)
  .cases h
theorem bu_run{t:TypeId}{fs:Array Field}{zero:Value}{ps:List (Nat×Value)}{qs:List (Nat×Nat×Value)}{K:Value->Prop}
  (hu:P.underlying t=some (.struct fs)) (hz:zeroOf P t=some zero) (ha:qI P fs.toList=true) (hs:jo P fs ps=some qs) (h:Bu zero qs K):
  ∃v,(Instr.build t ps.toArray).run P w=.ok v w/\K v:=by
 obtain⟨h1,h2⟩:=Cf fs ps qs hs;replace h:=h.out;unfold BuD at h;split at h
 .rename_i cells hc;refine⟨_,?_,h⟩;have hf:=Rl (λi=>(fs.map λf=>(f.offset,P.cellsOf f.type))[i]?) ps qs zero.cells cells h1 h2 hc;simp only[Instr.build,Sem.run_bind,iq hz,Result.andThen_ok,run_underlying hu,run_places ha];rw[hf];simp
 .exact h.elim
theorem Qc:∀(l:List Value) (cs:List Value) (off:Nat),off+l.length<=cs.length->putCells cs off l=cs.take off++l++cs.drop (off+l.length):=by
 intro l;induction l with
 |nil=>intro cs off h;simp[putCells]
 |cons v r ih=>
  intro cs off h;simp only[List.length_cons]at h;simp only[putCells];rw[ih _ _ (by simp;omega)];apply List.ext_getElem?;intro j;simp only[List.getElem?_append,List.length_append,List.length_take,List.length_set,List.length_cons,List.getElem?_drop,List.getElem?_take,List.getElem?_cons]
  by_cases h1:j<off
  .have e1:j<min (off+1) cs.length:=by omega
   have e2:j<min (off+1) cs.length+r.length:=by omega
   have e3:j<min off cs.length:=by omega
   have e4:j<min off cs.length+(r.length+1):=by omega
   simp only[e1,e2,e3,e4,h1,show j<off+1 by omega,if_true];rw[List.getElem?_set_ne (by omega)]
  .by_cases h2:j=off
   .subst h2;have e1:j<min (j+1) cs.length:=by omega
    have e2:j<min (j+1) cs.length+r.length:=by omega
    have e3:¬ j<min j cs.length:=by omega
    have e4:j<min j cs.length+(r.length+1):=by omega
    have e5:j - min j cs.length=0:=by omega
    simp only[e1,e2,e3,e4,e5,show j<j+1 by omega,if_true,if_false];rw[List.getElem?_set_self (by omega)]
   .by_cases h3:j<off+1+r.length
    .have e1:¬ j<min (off+1) cs.length:=by omega
     have e2:j<min (off+1) cs.length+r.length:=by omega
     have e3:¬ j<min off cs.length:=by omega
     have e4:j<min off cs.length+(r.length+1):=by omega
     have e5:j - min off cs.length≠0:=by omega
     simp only[e1,e2,e3,e4,e5,if_true,if_false];congr 1;omega
    .have e2:¬ j<min (off+1) cs.length+r.length:=by omega
     have e4:¬ j<min off cs.length+(r.length+1):=by omega
     simp only[e2,e4,if_false];rw[List.getElem?_set_ne (by omega)];congr 1;omega
theorem Rn(size:Nat):∀(vals:List Value) (k:Nat) (cs:List Value),(∀v∈vals,v.cells.size=size)->(k+vals.length)*size<=cs.length ->
  o8 cs ((vals.zipIdx k).map λp=>(p.2*size,size,p.1))=some (cs.take (k*size)++vals.flatMap (·.cells.toList)++cs.drop ((k+vals.length)*size)):=by
 intro vals;induction vals with
 |nil=>intro k cs hv hl;simp[o8]
 |cons v r ih=>
  intro k cs hv hl;have hs:v.cells.size=size:=hv v (by simp);simp only[List.length_cons]at hl;have hl':(k+1)*size<=cs.length:=Nat.le_trans (Nat.mul_le_mul_right _ (by omega)) hl;rw[Nat.add_mul,Nat.one_mul]at hl';simp only[List.zipIdx_cons,List.map_cons,o8];rw[if_pos ⟨hs,hl'⟩,ih (k+1) _ (λu hu=>hv u (by simp[hu])) (by rw[Gx];rw[show k+1+r.length=k+(r.length+1)by omega];exact hl)];rw[Qc _ _ _ (by rw[Array.length_toList,hs];exact hl')];simp only[List.flatMap_cons,List.length_cons,Option.some.injEq,Array.length_toList,hs];have e1:(k+1)*size=k*size+size:=by rw[Nat.add_mul,Nat.one_mul]
  rw[e1,show k+1+r.length=k+(r.length+1)by omega];have hlen:(List.take (k*size) cs++v.cells.toList).length=k*size+size:=by simp[hs];omega
  rw[List.take_append_of_le_length (by omega),List.take_of_length_le (by omega)]
  rw[List.drop_append,List.drop_of_length_le (by rw[hlen];have:(k+(r.length+1))*size=k*size+size+r.length*size:=by rw[show k+(r.length+1)=k+1+r.length by omega,Nat.add_mul,Nat.add_mul,Nat.one_mul]
                                                 omega), hlen, List.drop_drop]
  have e2:k*size+size+((k+(r.length+1))*size - (k*size+size))=(k+(r.length+1))*size:=by
   have:(k+(r.length+1))*size=k*size+size+r.length*size:=by rw[show k+(r.length+1)=k+1+r.length by omega,Nat.add_mul,Nat.add_mul,Nat.one_mul]
   omega
  rw[e2];simp[List.append_assoc]
theorem RJ(e:Operand->Value):∀(ps:List (Nat×Operand)) (k:Nat),covers k ps=true->(ps.map λp=>(p.1,e p.2))=(((ps.map λp=>e p.2).zipIdx k).map λp=>(p.2,p.1)):=by
 intro ps;induction ps with
 |nil=>intro k h;rfl
 |cons p r ih=>
  intro k h;obtain⟨j,x⟩:=p;simp only[covers,Bool.and_eq_true]at h;have:=Nat.eq_of_beq_eq_true h.1;subst this;simp[ih _ h.2]
theorem acP{t elem size len:Nat}{parts:Array (Nat×Operand)}{e:Operand->Value}{zero:Value}{K:KV}(hu:P.underlying t=some (.slice elem))
  (hsz:∃i,P.info? elem=some i/\i.size=size) (hlen:parts.toList.length=len) (hc:covers 0 parts.toList=true) (h1:1<=size) (hb:len*size<=16777216)
  (hz:zeroOf P elem=some zero) (h:BuS elem size (parts.toList.map λp=>e p.2) w K):
  ∃v w',(Instr.buildSlice t len (parts.map λp=>(p.1,e p.2))).run P w=.ok v w'/\K v w':=by
 obtain⟨i,hi,rfl⟩:=hsz;obtain⟨hv,hK⟩:=h;have hb':¬ 16777216<len*i.size:=by omega
 have hl2:(parts.toList.map λp=>e p.2).length=len:=by simpa using hlen
 have hfill:∀z:Array Value,Instr.fill (λj=>some (j*i.size,i.size)) ((Array.range (len*i.size)).map λj=>z[j % z.size]!) (parts.map λp=>(p.1,e p.2)).toList
   = some ((parts.toList.map λp=>e p.2).flatMap (·.cells.toList)).toArray:=by
  intro z;have hr:=Rn i.size (parts.toList.map λp=>e p.2) 0 ((Array.range (len*i.size)).map λj=>z[j % z.size]!).toList hv (by simp[hl2]);refine Rl _ _ _ _ _ ?_ ?_ (hr.trans ?_)
  .simp
  .intro k p q hp hq;rw[Array.toList_map,RJ e _ 0 hc,List.getElem?_map]at hp;rw[List.getElem?_map]at hq;cases hx:((parts.toList.map λp=>e p.2).zipIdx 0)[k]? with
   |none=>simp[hx]at hp
   |some y=>simp[hx]at hp hq;subst hp hq;simp
  .simp only[Nat.zero_mul,List.take_zero,List.nil_append,Nat.zero_add,hl2];rw[List.drop_of_length_le (by simp)];simp
 refine⟨_,_,?_,hK⟩;have h24:(2:Nat) ^ 24=16777216:=by decide
 simp only[Instr.buildSlice,Sem.run_bind,run_underlying hu,Result.andThen_ok,run_sizeOf hi,h24]
 by_cases h0:len*i.size=0
 .have:=hfill #[];simp only[h0]at this;simp only[h0,show ¬ (0:Nat)>16777216 by omega,if_false,if_true,Sem.run_pure,Result.andThen_ok,Sem.run_bind];rw[this];simp[newRow,hl2]
 .simp only[hb',h0,if_false,Sem.run_pure,Result.andThen_ok,Sem.run_bind,iq hz];rw[hfill];simp[newRow,hl2]
theorem qQ(hk:P.underlying kt=some kind)(hkind:(∃i,kind=.int i)\/kind=.string):
  (Instr.checkKey e 10000 kt k).run P w=.ok () w:=by
 rw[show (10000:Nat)=9999+1 from rfl];generalize 9999=n;rcases hkind with⟨i,rfl⟩|rfl<;>cases k<;>simp[Instr.checkKey,run_underlying hk]
theorem Dv(h:oU P t=some (kind,el)):
  ∃kt,P.underlying t=some (.map kt el)/\P.underlying kt=some kind/\((∃i,kind=.int i)\/kind=.string):=by
 unfold oU at h;split at h
 .rename_i k e hu;split at h
  .rename_i i hk;simp only[Option.some.injEq,Prod.mk.injEq]at h;obtain⟨rfl,rfl⟩:=h;exact⟨k,hu,hk,.inl ⟨i,rfl⟩⟩
  .rename_i hk;simp only[Option.some.injEq,Prod.mk.injEq]at h;obtain⟨rfl,rfl⟩:=h;exact⟨k,hu,hk,.inr rfl⟩
  .cases h
 .cases h
theorem lk_run(ht:oU P t=some (kind,el))
  (hz:zeroOf P el=some zero) (h:Lk kind zero m k ok w K):∃v,(Instr.lookup t m k ok).run P w=.ok v w/\K v:=by
 obtain⟨kt,hu,hk,hkind⟩:=Dv ht;replace h:=h.out;unfold LkD at h;split at h
 .refine⟨_,?_,h⟩;cases ok<;>simp[Instr.lookup,run_underlying hu,qQ hk hkind,Instr.findKey,run_underlying hk,Instr.findNow,iq hz]
 .rename_i r;split at h
  .rename_i es clock hr;have hg:(getObj r).run P w=.ok (.map es clock) w:=by simp[getObj,Sem.run,hr]
   split at h
   .rename_i i v hf;refine⟨_,?_,h⟩;cases ok<;>simp[Instr.lookup,run_underlying hu,hg,qQ hk hkind,Instr.findKey,run_underlying hk,hf]
   .rename_i hf;refine⟨_,?_,h⟩;cases ok<;>simp[Instr.lookup,run_underlying hu,hg,qQ hk hkind,Instr.findKey,run_underlying hk,hf,iq hz]
   .exact h.elim
  .exact h.elim
 .exact h.elim
theorem Rk:∀(es:List MapEntry) (n i:Nat) (v:Value),Instr.findNow kind k es n=some (some (i,v)) ->
  ∃e,es[i - n]?=some e/\n<=i/\e.val=v/\Instr.sameNow kind k e.key=some true:=by
 intro es;induction es with
 |nil=>intro n i v h;simp[Instr.findNow]at h
 |cons e r ih=>
  intro n i v h;simp only[Instr.findNow]at h;split at h
  .rename_i hs;simp only[Option.some.injEq,Prod.mk.injEq]at h;obtain⟨rfl,rfl⟩:=h;exact⟨e,by simp,Nat.le_refl _,rfl,hs⟩
  .obtain⟨e',h1,h2,h3,h4⟩:=ih (n+1) i v h;refine⟨e',?_,by omega,h3,h4⟩;rw[show i - n=(i - (n+1))+1 by omega];simpa using h1
  .cases h
theorem PY(hkind:(∃i,kind=.int i)\/kind=.string)(h:Instr.sameNow kind k k'=some true):Instr.sameBits 10000 k' k=true:=by
 rw[show (10000:Nat)=9999+1 from rfl];generalize 9999=n;rcases hkind with⟨i,rfl⟩|rfl
 .cases k<;>cases k'<;>simp[Instr.sameNow]at h;simp[Instr.sameBits,h.1,h.2]
 .cases k<;>cases k'<;>simp only[Instr.sameNow,Option.some.injEq,reduceCtorEq]at h;rename_i a b;have h2:a.data=b.data:=eq_of_beq h;have:a=b:=by cases a;cases b;simp_all
  subst this;simpa [Instr.sameBits] using h
theorem mu_run(ht:oU P t=some (kind,el))
  (h:Mu kind m k v w K):∃w',(Instr.mapUpdate t m k v).run P w=.ok () w'/\K w':=by
 obtain⟨kt,hu,hk,hkind⟩:=Dv ht;replace h:=h.out;unfold MuD at h;split at h
 .rename_i r;split at h
  .rename_i es clock hr;have hg:(getObj r).run P w=.ok (.map es clock) w:=by simp[getObj,Sem.run,hr]
   have hset:∀o,(setObj r o).run P w=.ok () (ag w r o):=λo=>by simp[setObj,Sem.run,hr,ag]
   split at h
   .rename_i i v' hf;refine⟨_,?_,h⟩;obtain⟨e,he,_,_,hs⟩:=Rk _ _ _ _ hf;have he':es[i]?=some e:=by simpa using he
    simp[Instr.mapUpdate,run_underlying hu,hg,qQ hk hkind,Instr.findKey,run_underlying hk,hf,Instr.keyThatStays,he',PY hkind hs,hset]
   .rename_i hf;refine⟨_,?_,h⟩;simp[Instr.mapUpdate,run_underlying hu,hg,qQ hk hkind,Instr.findKey,run_underlying hk,hf,hset]
   .exact h.elim
  .exact h.elim
 .exact h.elim
theorem Nu(h:fU size x w=some (n,l)):
  Builtin.lenOf x=pure n/\(Builtin.firstCells size n x).run P w=.ok l.toArray w:=by
 unfold fU at h;split at h
 .rename_i a m c;cases hc:eY w a 0 (m*size)with
  |none=>simp[hc]at h
  |some r=>
   simp[hc]at h;obtain⟨rfl,rfl⟩:=h;exact⟨rfl,oM hc⟩
 .simp only[Option.some.injEq,Prod.mk.injEq]at h;obtain⟨rfl,rfl⟩:=h;exact⟨rfl,rfl⟩
 .rename_i s;simp only[Option.some.injEq,Prod.mk.injEq]at h;obtain⟨rfl,rfl⟩:=h;refine⟨rfl,?_⟩;have:s.extract 0 s.size=s:=by simp
  simp only[Builtin.firstCells,this,Sem.run_pure];congr 1;apply Array.ext';simp
 .cases h
theorem Ky(h:∀a,w'.cell? a=w.cell? a)(a:Addr):∀n i,eY w' a i n=eY w a i n:=by
 intro n;induction n with
 |zero=>intro i;rfl
 |succ n ih=>intro i;simp[eY,h,ih]
theorem PN:fU size x w.drew=fU size x w:=by
 unfold fU;split<;>first|rfl|(rw[Ky (w:=w) (w':=w.drew) (λ_=>rfl)])
theorem ap_run(ht:P.underlying t=some (.slice el))(hux:∃d,P.underlying u=some d/\∀k,d≠.int k)
  (hi:P.info? el=some i) (hz:i.zero=some zero) (hb:1<=i.bytes) (h:Ap el i.size i.bytes zero s x w K):
  ∃v w',(Builtin.append_ #[t,u] ty #[s,x]).run P w=.ok v w'/\K v w':=by
 obtain⟨d,hd,hnd⟩:=hux;have hzero:(match d with|.int _=>true|_=>false)=false:=by cases d<;>first|rfl|exact absurd rfl (hnd _)
 have hzv:(zeroValue el).run P w=.ok zero w:=iq (by simp[zeroOf,hi,hz]);replace h:=h.out;unfold ApD at h;split at h
 .rename_i base len cap;obtain⟨n,news,hsrc,h⟩:=h;obtain⟨hl,hf⟩:=Nu (P:=P) hsrc
  by_cases hfit:len+n<=cap
  .rw[if_pos hfit]at h;split at h
   .rename_i a;split at h
    .rename_i w' hw';refine⟨_,_,?_,h⟩;have hst:=xW (P:=P) _ news 0 w w' hw';simp[Builtin.append_,run_underlying ht,run_sizeOf hi,run_underlying hd,hl,hfit,hf,hst]
    .exact h.elim
   .refine⟨_,_,?_,h⟩;simp[Builtin.append_,run_underlying ht,run_sizeOf hi,run_underlying hd,hl,hfit,hf]
  .rw[if_neg hfit]at h;obtain⟨hbound,olds,m,ho,hK⟩:=h;have ho':fU i.size (.slice base len cap) w.drew=some (m,olds):=by rw[PN];exact ho
   have hn':fU i.size x w.drew=some (n,news):=by rw[PN];exact hsrc
   obtain⟨ho1,ho2⟩:=Nu (P:=P) ho';obtain⟨hn1,hn2⟩:=Nu (P:=P) hn';have hm:m=len:=by
    cases base with
    |none=>simp[fU]at ho;exact ho.1.symm
    |some a=>
     simp only[fU]at ho;cases hc:eY w a 0 (len*i.size)with
     |none=>simp[hc]at ho
     |some r=>simp[hc]at ho;exact ho.1.symm
   subst hm;have h48:¬ 281474976710656<Builtin.nextslicecap (m+n) cap*i.bytes:=by
    have:=growslice_fits (need:=m+n) (old:=cap) (bytes:=i.bytes) omg hbound;omega
   have hq:(Question.appendCap (m+n) cap el).forced=false:=rfl;have hb0:i.bytes≠0:=omg;have hzv':(zeroValue el).run P w.drew=.ok zero w.drew:=iq (by simp[zeroOf,hi,hz]);refine⟨_,_,?_,hK ((Question.appendCap (m+n) cap el).cut (w.tape w.drawn (.appendCap (m+n) cap el))) (by simp[Question.cut])⟩;simp[Builtin.append_,run_underlying ht,run_sizeOf hi,run_underlying hd,hl,hfit,run_typeInfo hi,hb0,h48,hq,ho2,hn2,hzv',newRow];refine congrArg _ (congrArg (λc=>Obj.cells c el) ?_);apply Array.ext';simp
 .exact h.elim
end
end Go.W
namespace Go.W
open Go
section
variable {P:Program} {w:World}
def BM(P:Program)(o:Oper)(w:World)(K:KV)(r:Result Next):Prop:=
 ∃nx w',r=.ok nx w'/\((∃v,nx=.value v/\K v w')\/(nx=.skip/\K undef w'/\quiet P o=false))/\(quiet P o=true->w'=w)
theorem eH(h:∃v,s.run P w=.ok v w/\K v w):
  BM P o w K ((do pure (Next.value (<- s)):Sem Next).run P w):=by
 obtain⟨v,h1,h2⟩:=h;exact⟨.value v,w,by simp[h1],.inl ⟨v,rfl,h2⟩,λ_=>rfl⟩
theorem Ee(h:K v w):BM P o w K ((Pure.pure (Next.value v):Sem Next).run P w):=
 ⟨.value v,w,rfl,.inl ⟨v,rfl,h⟩,λ_=>rfl⟩
theorem gU(hq:quiet P o=false)(h:∃v w',s.run P w=.ok v w'/\K v w'):
  BM P o w K ((do pure (Next.value (<- s)):Sem Next).run P w):=by
 obtain⟨v,w',h1,h2⟩:=h;exact⟨.value v,w',by simp[h1],.inl ⟨v,rfl,h2⟩,λh=>by rw[hq]at h;cases h⟩
theorem Hf(hq:quiet P o=false)(h:∃w',s.run P w=.ok () w'/\K undef w'):
  BM P o w K ((do s;pure Next.skip:Sem Next).run P w):=by
 obtain⟨w',h1,h2⟩:=h;exact⟨.skip,w',by simp[h1],.inr ⟨rfl,h2,hq⟩,λh=>by rw[hq]at h;cases h⟩
theorem wR(h:fF P s w K):∃v w',s.run P w=.ok v w'/\K v w':=by
 replace h:=h.out;unfold SH at h;split at h
 .exact⟨_,_,by assumption,h⟩
 .exact h.elim
theorem runU(h:SI P s w K):∃w',s.run P w=.ok () w'/\K w':=by
 replace h:=h.out;unfold aaP at h;split at h
 .exact⟨_,by assumption,h⟩
 .exact h.elim
theorem Zm(h:Nw t v w K):∃x w',(do pure (.pointer (some (<- newVar t v))):Sem Value).run P w=.ok x w'/\K x w':=
 ⟨_,_,by simp[newVar,newRow],h.out⟩
theorem pk_run(h:Pk c a b K):∃v,(do pure (Next.value (if <- asBool c then a else b)):Sem Next).run P w=.ok (.value v) w/\K v:=by
 replace h:=h.out;unfold PkD at h;split at h
 .exact⟨_,by simp[asBool],h⟩
 .exact h.elim
theorem ex_run(h:Ex x i K):∃v,(Instr.extract x i).run P w=.ok v w/\K v:=by
 replace h:=h.out;unfold ExD at h;split at h
 .split at h
  .rename_i vs _ v hv;exact⟨v,by simp[Instr.extract,hv],h⟩
  .exact h.elim
 .exact h.elim
theorem nt_run(h:Nt x K):∃v,(Op.unary .not x).run P w=.ok v w/\K v:=by
 replace h:=h.out;unfold NtD at h;split at h
 .exact⟨_,by simp[Op.unary],h⟩
 .exact h.elim
theorem ng_run(h:Ng x K):∃v,(Op.unary .neg x).run P w=.ok v w/\K v:=by
 replace h:=h.out;unfold NgD at h;split at h
 .exact⟨_,by simp[Op.unary,Op.intArith],h⟩
 .exact h.elim
theorem abT(h:isIface P t=false):(Instr.makeInterface t x).run P w=.ok (.iface t x) w:=by
 unfold isIface at h;cases hu:P.underlying t with
 |none=>simp[hu]at h
 |some d=>cases d<;>simp[hu]at h<;>simp[Instr.makeInterface,run_underlying hu]
theorem UL(he:∀v,e (.const v)=v)(h:vop P o e w K):BM P o w K ((execOp e o).run P w):=by
 obtain⟨dst,op,type,pos,after,guard⟩:=o;cases op<;>simp only[vop]at h<;>simp only[execOp]<;>first|exact h.elim|skip
 case move x=>exact Ee h
 case assign x=>exact Ee h
 case pick c a b=>
  obtain⟨v,h1,h2⟩:=pk_run (P:=P) (w:=w) h;exact⟨.value v,w,h1,.inl ⟨v,rfl,h2⟩,λ_=>rfl⟩
 case alloc t=>
  split at h
  .rename_i z hz;rw[OY hz]at h;obtain⟨x,w',h1,h2⟩:=Zm (P:=P) h;refine gU rfl ⟨x,w',?_,h2⟩;simpa [Instr.alloc,iq hz] using h1
  .exact h.elim
 case box t x=>exact gU rfl (Zm h)
 case build t parts=>
  split at h
  .rename_i fs z hu hz;cases ha:qI P fs.toList with
   |false=>simp[ha]at h
   |true=>
    simp only[ha,cond_true]at h;split at h
    .rename_i ps hps;rw[OY hz]at h;have:=bu_run (P:=P) (w:=w) hu hz ha hps h;rw[show (parts.toList.map λp=>(p.1,e p.2)).toArray=parts.map (λp=>(p.1,e p.2))from Array.ext' smp]at this;exact eH this
    .exact h.elim
  .rename_i n el z hu hz;refine gU ?_ (wR h);simp[quiet,hu]
  .exact h.elim
 case buildSlice t len parts=>
  split at h
  .rename_i size elem hs hu;cases hc:Dj P elem size len parts with
   |false=>simp[hc]at h
   |true=>
    simp only[hc,cond_true]at h;simp only[Dj,Bool.and_eq_true,Option.isSome_iff_exists]at hc;obtain⟨⟨⟨⟨h1,h2⟩,h3⟩,h4⟩,z,hz⟩:=hc;obtain⟨el,i,hu',hi,rfl⟩:=rP hs;rw[hu]at hu';cases hu';exact gU rfl (acP hu ⟨i,hi,rfl⟩ (Nat.eq_of_beq_eq_true h1) h2 (Nat.le_of_ble_eq_true h3) (Nat.le_of_ble_eq_true h4) hz h)
  .exact h.elim
 case load t a=>
  split at h
  .rename_i hk;exact eH (Zx hk h)
  .rename_i n hk;exact eH (Vq hk h)
  .exact h.elim
 case store t a x=>
  split at h
  .rename_i hk;exact Hf rfl (st_run hk h)
  .rename_i n hk;exact Hf rfl (abk hk h)
  .exact h.elim
 case nilCheck x=>
  replace h:=h.out;unfold NkD at h;generalize e x=v at h ⊢;cases v with
  |pointer a=>cases a<;>first|exact h.elim|exact Ee h
  |func fn first captured=>cases fn<;>first|exact h.elim|exact Ee h
  |nilIface=>exact h.elim
  |nilFunc=>exact h.elim
  |_=>exact Ee h
 case binOp op t x y yt=>
  have raw:fF P (do eqGuard op t x y (e x) (e y);binOp op t (e x) (e y)) w K->quiet P ⟨dst,.binOp op t x y yt,type,pos,after,guard⟩=false ->
    BM P ⟨dst,.binOp op t x y yt,type,pos,after,guard⟩ w K ((do let a <- (do eqGuard op t x y (e x) (e y);binOp op t (e x) (e y));pure (Next.value a):Sem Next).run P w):=λh hq=>gU hq (wR h)
  have hconst:∀v,y=.const v->e y=v:=λv hv=>by rw[hv];exact he v
  by_cases hsh:op=.shl\/op=.shr
  .have h':Sh op (e x) (e y) λv=>K v w:=by rcases hsh with rfl|rfl<;>exact h
   exact eH (sh_run hsh h')
  .have hop:∀k,op≠.shl/\op≠.shr\/k:=λ_=>.inl ⟨λe=>hsh (.inl e),λe=>hsh (.inr e)⟩
   by_cases heq:op=.eql\/op=.neq
   .have h':(match und P t with
     |.int _=>Bi op (e x) (e y) λv=>K v w
     |.str=>Bs op (e x) (e y) λv=>K v w
     |.bool=>Eb (pK op) (e x) (e y) λv=>K v w
     |.nilable nk=>bif dV nk y then En nk (pK op) (e x) λv=>K v w
       else fF P (do eqGuard op t x y (e x) (e y);binOp op t (e x) (e y)) w K
     |.slice _=>bif dV .slc y then En .slc (pK op) (e x) λv=>K v w
       else fF P (do eqGuard op t x y (e x) (e y);binOp op t (e x) (e y)) w K
     |_=>fF P (do eqGuard op t x y (e x) (e y);binOp op t (e x) (e y)) w K):=by rcases heq with rfl|rfl<;>exact h
    cases hu:und P t with
    |int k=>simp only[hu]at h';exact eH (aaG hop h')
    |str=>simp only[hu]at h';exact eH (aaD h')
    |bool=>simp only[hu]at h';exact eH (eb_run heq hu h')
    |nilable nk=>
     simp only[hu]at h';cases hn:dV nk y with
     |true=>simp only[hn,cond_true]at h';exact eH (aap heq (.inl hu) hn hconst h')
     |false=>simp only[hn,cond_false]at h';exact raw h' (by rcases heq with rfl|rfl<;>simp[quiet,hu,hn])
    |slice n=>
     simp only[hu]at h';cases hn:dV .slc y with
     |true=>simp only[hn,cond_true]at h';exact eH (aap heq (.inr ⟨rfl,n,hu⟩) hn hconst h')
     |false=>simp only[hn,cond_false]at h';exact raw h' (by rcases heq with rfl|rfl<;>simp[quiet,hu,hn])
    |_=>simp only[hu]at h';exact raw h' (by rcases heq with rfl|rfl<;>simp[quiet,hu])
   .have h':(match und P t with
     |.int _=>Bi op (e x) (e y) λv=>K v w
     |.str=>Bs op (e x) (e y) λv=>K v w
     |_=>fF P (do eqGuard op t x y (e x) (e y);binOp op t (e x) (e y)) w K):=by
     cases op<;>first|exact h|exact absurd (.inl rfl) hsh|exact absurd (.inr rfl) hsh|exact absurd (.inl rfl) heq|exact absurd (.inr rfl) heq
    have hq:(∀k,und P t≠.int k)->und P t≠.str->quiet P ⟨dst,.binOp op t x y yt,type,pos,after,guard⟩=false:=λh1 h2=>by
     cases hu:und P t<;>cases op<;>simp_all [quiet]
    cases hu:und P t with
    |int k=>simp only[hu]at h';exact eH (aaG hop h')
    |str=>simp only[hu]at h';exact eH (aaD h')
    |_=>simp only[hu]at h';exact raw h' (hq (by simp[hu]) (by simp[hu]))
 case unOp op t x=>
  cases op with
  |neg=>exact eH (ng_run h)
  |not=>exact eH (nt_run h)
  |xor=>exact gU rfl (wR h)
  |plus=>exact gU rfl (wR h)
 case convert src dst x=>
  split at h
  .rename_i k k' hs hd;exact eH (cv_run hs hd h)
  .rename_i hs hd;exact eH (acM hs hd h)
  .rename_i n hs hd;cases hb:isBytes P src with
   |true=>simp only[hb,cond_true]at h;exact eH (acN hb hd h)
   |false=>simp only[hb,cond_false]at h;exact gU (by simp[quiet,hs,hd,hb]) (wR h)
  .rename_i h1 h2 h3;exact gU (by simp only[quiet];try (split<;>simp_all)) (wR h)
 case makeInterface t x=>
  cases hi:isIface P t with
  |true=>simp[hi]at h
  |false=>simp only[hi,cond_false]at h;exact eH ⟨_,abT hi,h⟩
 case makeFunc fn first captured=>exact eH ⟨_,rfl,h⟩
 case makeMap t r=>
  cases r with
  |none=>exact gU rfl ⟨_,_,by simp[Instr.makeMap],Mm.out h⟩
  |some r=>exact gU rfl (wR h)
 case makeSlice t l c=>exact gU rfl (wR h)
 case slice t x lo hi mx=>
  cases hs:und P t with
  |str=>
   cases mx with
   |none=>simp only[hs]at h;exact eH (abl hs h)
   |some m=>simp only[hs]at h;exact gU (by simp[quiet,hs]) (wR h)
  |slice n=>
   cases mx with
   |none=>simp only[hs]at h;exact eH (abm hs h)
   |some m=>simp only[hs]at h;exact gU (by simp[quiet,hs]) (wR h)
  |_=>simp only[hs]at h;exact gU (by simp[quiet,hs]) (wR h)
 case fieldAddr s x f=>
  split at h
  .rename_i off hk;exact eH (fa_run hk h)
  .exact h.elim
 case field t x f=>exact gU rfl (wR h)
 case indexAddr t x i=>
  split at h
  .rename_i n hs;exact eH (ab4 hs h)
  .rename_i m n hs;exact eH (ab5 hs h)
  .exact h.elim
 case index t x i=>
  split at h
  .rename_i hs;exact eH (abZ hs h)
  .rename_i hs;exact gU (by simp only[quiet];try (split<;>simp_all)) (wR h)
 case lookup t m k ok=>
  split at h
  .rename_i kind el hk;split at h
   .rename_i z hz;rw[OY hz]at h;exact eH (lk_run hk hz h)
   .exact h.elim
  .rename_i hk;exact gU (by simp[quiet,hk]) (wR h)
 case mapUpdate t m k x=>
  split at h
  .rename_i kind el hk;exact Hf rfl (mu_run hk h)
  .exact Hf rfl (runU h)
 case range t x=>exact gU rfl (wR h)
 case next it s=>exact gU rfl (wR h)
 case entry it=>exact gU rfl (wR h)
 case typeAssert x xt t ok=>
  cases hi:isIface P t with
  |true=>simp only[hi,cond_true]at h;exact gU (by simp[quiet,hi]) (wR h)
  |false=>
   simp only[hi,cond_false]at h;split at h
   .rename_i z hz;rw[OY hz]at h;exact eH (ta_run hi hz h)
   .exact eH (abg hi h)
   .exact h.elim
 case extract x i=>exact eH (ex_run h)
theorem xO{o:Oper}{a:Act}{s:Sem Next}{K:KV}{E:KE}{next:Act->World->Prop}{Q:Exit->Act->World->Prop}
  (h:pF P s w E K) (hK:∀v w',K v w'->next (a.put o.dst v) w') (hE:∀ch w',E ch w'->Q (.panic ch) a w'):
  o.upon P a next Q (s.run P w):=by
 replace h:=h.out;unfold Fh at h;split at h
 .rename_i v w' hr;rw[hr];exact hK _ _ h
 .rename_i w' hr;rw[hr];exact hK _ _ h
 .rename_i f args w' hr;rw[hr];refine Calls.mono h.out λe w'' he=>?_;cases e with
  |returned v=>exact hK _ _ he
  |panicked ch=>exact hE _ _ he
  |outgrown=>exact he.elim
 .rename_i v w' hr;rw[hr];exact hE _ _ h
 .exact h.elim
theorem Ur
  (h:BM P o w K r) (hK:∀v w',K v w'->next (a.put o.dst v) w'):o.upon P a next Q r:=by
 obtain⟨nx,w',rfl,h,_⟩:=h;rcases h with⟨v,rfl,h⟩|⟨rfl,h,_⟩
 .exact hK _ _ h
 .exact hK _ _ h
theorem pq(h:nK P f=true)(args:Array Value):(callFunc f args).run P w=.ok (.enter f args) w:=by
 unfold nK at h;split at h
 .rename_i fn hf;simp only[Bool.and_eq_true,bne_iff_ne,ne_eq]at h;have hb:¬ fn.body=none:=by intro hh;simp[hh]at h
  simp[callFunc,hf,hb,h.2]
 .cases h
theorem Vo{c:Go.Call}{t ty:TypeId}{x:Operand}{e:Operand->Value}{K:Value->Prop}(ht:c.argTypes[0]?=some t)(hx:c.args[0]?=some x)
  (hu:und P t=.str) (h:Ln true (e x) K):∃v,(Builtin.len_ c.argTypes ty (c.args.map e)).run P w=.ok v w/\K v:=by
 have hx':(c.args.map e)[0]?=some (e x):=by simp[hx]
 generalize e x=y at h hx';replace h:=h.out;cases y<;>simp only[LnD]at h;exact⟨_,by simp[Builtin.len_,ht,hx',run_underlying (um hu),goInt],h⟩
theorem Vp{c:Go.Call}{t ty n:TypeId}{x:Operand}{e:Operand->Value}{K:Value->Prop}(ht:c.argTypes[0]?=some t)(hx:c.args[0]?=some x)
  (hu:und P t=.slice n) (h:Ln false (e x) K):∃v,(Builtin.len_ c.argTypes ty (c.args.map e)).run P w=.ok v w/\K v:=by
 have hx':(c.args.map e)[0]?=some (e x):=by simp[hx]
 obtain⟨el,i,hd,_,_⟩:=rP hu;generalize e x=y at h hx';replace h:=h.out;cases y<;>simp only[LnD]at h;exact⟨_,by simp[Builtin.len_,ht,hx',run_underlying hd,goInt],h⟩
theorem LG{o:Oper}{e:Operand->Value}{K:KV}{E:KE}{a:Act}{next:Act->World->Prop}{Q:Exit->Act->World->Prop}
  (ha:a.eval=e) (he:∀v,e (.const v)=v) (hef:∀f,e (.func f)=.func (.func f) #[] #[]) (h:opW P o e w E K) (hK:∀v w',K v w'->next (a.put o.dst v) w') (hE:∀ch w',E ch w'->Q (.panic ch) a w'):
  o.wp P a w next Q:=by
 unfold Oper.wp;rw[ha];obtain⟨dst,op,type,pos,after,guard⟩:=o;have base:vop P ⟨dst,op,type,pos,after,guard⟩ e w K->Oper.upon P ⟨dst,op,type,pos,after,guard⟩ a next Q ((execOp e ⟨dst,op,type,pos,after,guard⟩).run P w):=
  λh=>Ur (UL he h) hK
 cases op<;>try exact base h
 case call c=>
  have val:∀{s:Sem Value},(∃v w',s.run P w=.ok v w'/\K v w')->Oper.upon P ⟨dst,.call c,type,pos,after,guard⟩ a next Q ((do pure (Next.value (<- s)):Sem Next).run P w):=by
   rintro s ⟨v,w',h1,h2⟩;simp only[Sem.run_bind,h1,Result.andThen_ok,Sem.run_pure];exact hK _ _ h2
  have qal:∀{s:Sem Value},(∃v,s.run P w=.ok v w/\K v w)->Oper.upon P ⟨dst,.call c,type,pos,after,guard⟩ a next Q ((do pure (Next.value (<- s)):Sem Next).run P w):=
   λ⟨v,h1,h2⟩=>val ⟨v,w,h1,h2⟩
  obtain⟨callee,args,argTypes⟩:=c;simp only[opW]at h;cases callee with
  |builtin b=>
   have hb:execOp e ⟨dst,.call ⟨.builtin b,args,argTypes⟩,type,pos,after,guard⟩ =
     builtin b argTypes type (args.map λ|.const _=>true|_=>false) (args.map e):=rfl
   rw[hb]
   have dflt:pF P (builtin b argTypes type (args.map λ|.const _=>true|_=>false) (args.map e)) w E K ->
     Oper.upon P ⟨dst,.call ⟨.builtin b,args,argTypes⟩,type,pos,after,guard⟩ a next Q ((builtin b argTypes type (args.map λ|.const _=>true|_=>false) (args.map e)).run P w):=
    λh=>xO h hK hE
   cases b<;>try exact dflt h
   case len=>
    simp only at h;split at h
    .rename_i t x ht hx;split at h
     .rename_i hu;exact qal (Vo (c:=⟨.builtin .len,args,argTypes⟩) ht hx hu h)
     .rename_i n hu;exact qal (Vp (c:=⟨.builtin .len,args,argTypes⟩) ht hx hu h)
     .exact val (wR h)
    .exact h.elim
   case append=>
    simp only at h;split at h
    .rename_i t u s x ht hx;have e1:argTypes=#[t,u]:=by cases argTypes;simpa using ht
     have e2:args=#[s,x]:=by cases args;simpa using hx
     subst e1 e2
     have fin:∀el,P.underlying t=some (.slice el)->(∃d,P.underlying u=some d/\∀k,d≠.int k) ->
       (match P.info? el with
       |some i=>(match i.zero with
        |some z=>bif Nat.ble 1 i.bytes&&Nat.beq z.cells.size i.size then Ap el i.size i.bytes (zv P el) (e s) (e x) w K else False
        |none=>False)
       |none=>False)->Oper.upon P ⟨dst,.call ⟨.builtin .append,#[s,x],#[t,u]⟩,type,pos,after,guard⟩ a next Q
        ((builtin .append #[t,u] type (#[s,x].map λ|.const _=>true|_=>false) (#[s,x].map e)).run P w):=by
      intro el hel hd h;split at h
      .rename_i i hi;split at h
       .rename_i z hz;cases hc:Nat.ble 1 i.bytes&&Nat.beq z.cells.size i.size with
        |false=>simp[hc]at h
        |true=>
         simp only[hc,cond_true]at h;simp only[Bool.and_eq_true]at hc;have hzo:zeroOf P el=some z:=by simp[zeroOf,hi,hz]
         rw[OY hzo]at h;rw[show (#[s,x]:Array Operand).map e=#[e s,e x]from smp];exact val (ap_run hel hd hi hz (Nat.le_of_ble_eq_true hc.1) h)
       .exact h.elim
      .exact h.elim
     split at h
     .rename_i el n hel hu;obtain⟨e',i',hd,_,_⟩:=rP hu;exact fin el hel ⟨_,hd,λk=>smp⟩ h
     .rename_i el hel hu;exact fin el hel ⟨_,um hu,λk=>smp⟩ h
     .exact h.elim
    .exact h.elim
  |invoke recv name=>
   replace h:=h.out;unfold UF at h;refine xO (s:=execOp e ⟨dst,.call ⟨.invoke recv name,args,argTypes⟩,type,pos,after,guard⟩) ?_ hK hE;have:execOp e ⟨dst,.call ⟨.invoke recv name,args,argTypes⟩,type,pos,after,guard⟩=callMethod (e recv) name (args.map e):=by
    have h0:(#[e recv]++args.map e)[0]?=some (e recv):=by simp[Array.getElem?_append]
    have h1:(args.map e).extract 0 args.size=args.map e:=by
     apply Array.ext';simp[List.take_of_length_le]
    simp[execOp,resolve,invoke,h0,h1]
   rw[this];exact h
  |value f=>
   have gen:oC P (e f) (args.map e) w E K->Oper.upon P ⟨dst,.call ⟨.value f,args,argTypes⟩,type,pos,after,guard⟩ a next Q
     ((execOp e ⟨dst,.call ⟨.value f,args,argTypes⟩,type,pos,after,guard⟩).run P w):=λh=>
    xO (s:=execOp e ⟨dst,.call ⟨.value f,args,argTypes⟩,type,pos,after,guard⟩) h.out hK hE
   cases f with
   |func f=>
    have hx:e (.func f)=.func (.func f) #[] #[]:=hef f;have hrun:(execOp e ⟨dst,.call ⟨.value (.func f),args,argTypes⟩,type,pos,after,guard⟩)=callFunc f (args.map e):=by
     simp[execOp,resolve,hx,Deferred.ofValue,invoke]
    cases hp:nK P f with
    |true=>
     simp only[hp,cond_true]at h;rw[hrun,pq hp];refine Calls.mono h.out λe w'' he=>?_;cases e with
     |returned v=>exact hK _ _ he
     |panicked ch=>exact hE _ _ he
     |outgrown=>exact he.elim
    |false=>
     simp only[hp,cond_false]at h;rw[hrun];exact xO h hK hE
   |_=>exact gen h
 case panic x=>
  simp only[opW]at h;replace h:=h.out;unfold PnD at h;split at h
  .rename_i t v hx;simp[execOp,hx,Instr.panic];exact hE _ _ h
  .exact h.elim
end
end Go.W
