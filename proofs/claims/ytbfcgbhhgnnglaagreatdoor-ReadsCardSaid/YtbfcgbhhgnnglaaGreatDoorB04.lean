/- Texts of mine, one behind the other; nothing is assumed. -/
import Derived.Test.YtbfcgbhhgnnglaaGreatDoorB03
import Derived.Laws.Entries
import Derived.Laws.Build
import Derived.Laws.Slices
set_option autoImplicit true
set_option relaxedAutoImplicit true
set_option linter.unusedSimpArgs false
set_option linter.unusedVariables false
namespace Go.W
open Go
theorem nG(n:Nat)(ρ:Fr)(ds:List Deferred):(act n ρ ds).eval=ev n ρ:=by
 funext x;cases x with
 |tmp t=>
  simp only[Act.eval,act,ev]
  by_cases h:t<n
  .have:Nat.ble (t+1) n=true:=Nat.ble_eq_true_of_le h;simp[this,h]
  .have:Nat.ble (t+1) n=false:=by
    cases hb:Nat.ble (t+1) n with
    |false=>rfl
    |true=>exact absurd (Nat.le_of_ble_eq_true hb) h
   simp[this,h]
 |_=>rfl
theorem uS(n:Nat)(ρ:Fr)(ds:List Deferred)(d:Option Tmp)(v:Value):(act n ρ ds).put d v=act n (upd ρ d v) ds:=by
 cases d with
 |none=>rfl
 |some d=>
  simp only[Act.put,act,upd,Act.mk.injEq,and_true];apply Array.ext';simp only[Array.toList_setIfInBounds];apply List.ext_getElem
  .simp
  .intro i h1 h2;simp only[List.length_set,List.length_map,List.length_range]at h1
   by_cases hd:d=i
   .subst hd;simp
   .have:Nat.beq i d=false:=Bool.eq_false_iff.2 λe=>hd (Nat.eq_of_beq_eq_true e).symm;simp[hd,this]
theorem Dz(n:Nat)(ρ:Fr)(ds:List Deferred)(ops:Array Oper)(j:Nat):
  yielded ops (act n ρ ds).tmps j=match Q8 n ρ ops j with|.bool b=>some b|_=>none:=by
 unfold yielded Q8;cases (ops[j]?).bind (·.dst)with
 |none=>rfl
 |some d=>
  simp only[Option.bind_some];have he:=congrFun (nG n ρ ds) (.tmp d);simp only[Act.eval]at he;rw[<- he]
  by_cases h:d<n
  .simp[act,h];cases ρ d<;>rfl
  .simp[act,h,undef]
section
variable {P:Program} {w:World}
theorem run_typeInfo(h:P.info? t=some i):(typeInfo t).run P w=.ok i w:=by simp[typeInfo,h]
theorem run_sizeOf(h:P.info? t=some i):(sizeOf t).run P w=.ok i.size w:=by simp[sizeOf,run_typeInfo h]
theorem iq(h:zeroOf P t=some v):(zeroValue t).run P w=.ok v w:=by
 unfold zeroOf at h;cases hi:P.info? t with
 |none=>simp[hi]at h
 |some i=>simp[hi]at h;simp[zeroValue,run_typeInfo hi,h]
theorem OY(h:zeroOf P t=some v):zv P t=v:=by simp[zv,h]
theorem Bl(a:Addr):∀(n i:Nat) (acc:Array Value) (l:List Value),eY w a i n=some l ->
  (loadCellsFrom a i n acc).run P w=.ok (acc++l.toArray) w:=by
 intro n;induction n with
 |zero=>intro i acc l h;simp[eY]at h;subst h;simp[loadCellsFrom]
 |succ n ih=>
  intro i acc l h;simp only[eY]at h;cases hc:w.cell? (a.add i)with
  |none=>simp[hc]at h
  |some x=>
   cases hr:eY w a (i+1) n with
   |none=>simp[hc,hr]at h
   |some r=>
    simp[hc,hr]at h;subst h;simp[loadCellsFrom,hc,ih (i+1) (acc.push x) r hr]
theorem oM(h:eY w a 0 n=some l):(loadCells a n).run P w=.ok l.toArray w:=by
 have:=Bl (P:=P) a n 0 #[] l h;simpa [loadCells] using this
theorem xW(a:Addr):∀(vs:List Value) (i:Nat) (w w':World),setCells w a i vs=some w' ->
  (storeCells a vs i).run P w=.ok () w':=by
 intro vs;induction vs with
 |nil=>intro i w w' h;simp[setCells]at h;subst h;simp[storeCells]
 |cons v r ih=>
  intro i w w' h;simp only[setCells]at h;cases hc:w.cell? (a.add i)with
  |none=>simp[hc]at h
  |some x=>
   simp only[hc]at h;split at h
   .rename_i hv;simp[storeCells,run_store P w (a.add i) v .plain hv.2,hc,hv.1,ih (i+1) _ w' h]
   .cases h
theorem KA(a:Addr):a.add 0=a:=by simp[Addr.add]
theorem FC(h:jm P t=.one):∃i d,P.info? t=some i/\i.size=1/\P.underlying t=some d/\(∀fs,d≠.struct fs)/\∀n e,d≠.array n e:=by
 unfold jm at h;cases hu:P.underlying t with
 |none=>simp[hu]at h
 |some d=>
  cases hi:P.info? t with
  |none=>cases d<;>simp[hu,hi]at h
  |some i=>
   refine⟨i,d,rfl,?_,rfl,?_,?_⟩
   .cases d<;>simp[hu,hi]at h<;>(cases hb:Nat.beq i.size 1<;>simp[hb]at h;exact Nat.eq_of_beq_eq_true hb)
   .rintro fs rfl;simp[hu,hi]at h
   .rintro n e rfl;simp[hu,hi]at h
theorem BV(h:jm P t=.many n):∃i d,P.info? t=some i/\i.size=n/\P.underlying t=some d/\((∃fs,d=.struct fs)\/∃n e,d=.array n e):=by
 unfold jm at h;cases hu:P.underlying t with
 |none=>simp[hu]at h
 |some d=>
  cases hi:P.info? t with
  |none=>cases d<;>simp[hu,hi]at h
  |some i=>
   refine⟨i,d,rfl,?_,rfl,?_⟩
   all_goals (cases d<;>simp[hu,hi]at h<;>first|exact h|exact .inl ⟨_,rfl⟩|exact .inr ⟨_,_,rfl⟩|(cases hb:Nat.beq i.size 1<;>simp[hb]at h))
theorem J5(h:P.underlying t=some d)(h1:∀fs,d≠.struct fs)(h2:∀n e,d≠.array n e):(isAgg t).run P w=.ok false w:=by
 simp only[isAgg,Sem.run_bind,run_underlying h,Result.andThen_ok];cases d<;>first|rfl|exact absurd rfl (h1 _)|exact absurd rfl (h2 _ _)
theorem yK(h:P.underlying t=some d)(h1:(∃fs,d=.struct fs)\/∃n e,d=.array n e):(isAgg t).run P w=.ok true w:=by
 simp only[isAgg,Sem.run_bind,run_underlying h,Result.andThen_ok];rcases h1 with⟨_,rfl⟩|⟨_,_,rfl⟩<;>rfl
end
section
variable {P:Program} {w:World}
theorem Zx(hk:jm P t=.one)(h:Ld v w K):∃x,(Instr.loadAt t v).run P w=.ok x w/\K x:=by
 obtain⟨i,d,_,_,hu,h1,h2⟩:=FC hk;replace h:=h.out;unfold LdD at h;split at h
 .rename_i a;split at h
  .rename_i x hx;exact⟨x,by simp[Instr.loadAt,Instr.sureAddr,loadVar,J5 hu h1 h2,hx],h⟩
  .exact h.elim
 .exact h.elim
theorem Vq(hk:jm P t=.many n)(h:LdN v n w K):∃x,(Instr.loadAt t v).run P w=.ok x w/\K x:=by
 obtain⟨i,d,hi,hn,hu,h1⟩:=BV hk;replace h:=h.out;unfold SL at h;split at h
 .rename_i a;split at h
  .rename_i l hl;exact⟨.agg l.toArray,by simp[Instr.loadAt,Instr.sureAddr,loadVar,yK hu h1,run_sizeOf hi,hn,oM hl],h⟩
  .exact h.elim
 .exact h.elim
theorem oneCell_cells{x:Value}(h:x.oneCell'=true):x.cells=#[x]:=by cases x<;>simp_all [Value.oneCell',Value.cells]
theorem st_run{t:TypeId}{v x:Value}{K:World->Prop}(hk:jm P t=.one)(h:St v x w K):∃w',(Instr.storeAt t v x).run P w=.ok () w'/\K w':=by
 obtain⟨i,d,hi,hs,hu,h1,h2⟩:=FC hk;replace h:=h.out;unfold StD at h;split at h
 .rename_i a;obtain⟨ho,⟨y,hy⟩,hf,hK⟩:=h;refine⟨_,?_,hK⟩;simp[Instr.storeAt,Instr.sureAddr,storeVar,run_sizeOf hi,hs,oneCell_cells ho,storeCells,KA,run_store P w a x .plain ho,hy,hf]
 .exact h.elim
theorem abk(hk:jm P t=.many n)(h:StN v x n w K):∃w',(Instr.storeAt t v x).run P w=.ok () w'/\K w':=by
 obtain⟨i,d,hi,hn,hu,h1⟩:=BV hk;replace h:=h.out;unfold StND at h;split at h
 .rename_i a cs;obtain⟨hs,hK⟩:=h;split at hK
  .rename_i w' hw';refine⟨w',?_,hK⟩;have:=xW (P:=P) a cs.toList 0 w w' hw';simp[Instr.storeAt,Instr.sureAddr,storeVar,run_sizeOf hi,hn,Value.cells,hs,this]
  .exact hK.elim
 .exact h.elim
theorem fa_run(hk:zh P s f=some off)(h:Fa v off K):∃x,(Instr.fieldAt s v f).run P w=.ok x w/\K x:=by
 unfold zh at hk;split at hk
 .rename_i fs hu;split at hk
  .rename_i fl hf;split at hk
   .rename_i i hi;cases hb:Nat.beq i.size 0 with
    |true=>simp[hb]at hk
    |false=>
     simp only[hb,cond_false,Option.some.injEq]at hk;have hz:i.size≠0:=by intro h0;rw[h0]at hb;cases hb
     replace h:=h.out;unfold FaD at h;split at h
     .rename_i a;refine⟨_,?_,h⟩;simp[Instr.fieldAt,run_underlying hu,hf,Instr.sureAddr,fieldPlace,run_sizeOf hi,hz,hk]
     .exact h.elim
   .cases hk
  .cases hk
 .cases hk
theorem aaG(hop:∀k,op≠.shl/\op≠.shr\/k)(h:Bi op x y K):
  ∃v,(do eqGuard op t xo yo x y;binOp op t x y:Sem Value).run P w=.ok v w/\K v:=by
 have hop':op≠.shl/\op≠.shr:=(hop False).resolve_right id;replace h:=h.out;unfold BiD at h;split at h
 .rename_i k a k' b;obtain⟨rfl,h⟩:=h;split at h
  .rename_i v hv;refine⟨v,?_,h⟩;have hg:eqGuard op t xo yo (.int k a) (.int k b)=pure ():=eqGuard_at_int ..;rw[hg];cases op<;>simp[binI]at hv<;>first
    |(subst hv;simp[binOp,Op.intArith,Op.intCmp,Op.intBits];done)
    |(obtain⟨hb,rfl⟩:=hv;simp[binOp,Op.intDiv,hb];done)
    |exact absurd rfl hop'.1
    |exact absurd rfl hop'.2
  .exact h.elim
 .exact h.elim
theorem sh_run(hop:op=.shl\/op=.shr)(h:Sh op x y K):
  ∃v,(do eqGuard op t xo yo x y;binOp op t x y:Sem Value).run P w=.ok v w/\K v:=by
 replace h:=h.out;unfold ShD at h;split at h
 .rename_i k a k' b;obtain⟨hb,h⟩:=h;have hb':¬ b<0:=omg;rcases hop with rfl|rfl
  .exact⟨_,by simp[eqGuard,binOp,Op.shift,hb'],h⟩
  .exact⟨_,by simp[eqGuard,binOp,Op.shift,hb'],h⟩
 .exact h.elim
theorem aaD(h:Bs op x y K):
  ∃v,(do eqGuard op t xo yo x y;binOp op t x y:Sem Value).run P w=.ok v w/\K v:=by
 replace h:=h.out;unfold BsD at h;split at h
 .rename_i a b;split at h
  .rename_i v hv;refine⟨v,?_,h⟩;have hg:eqGuard op t xo yo (.string a) (.string b)=pure ():=eqGuard_at_string ..;rw[hg];cases op<;>simp[binS]at hv
   .obtain⟨h1,rfl⟩:=hv;simp[binOp,Op.stringOp];omega
   .subst hv;simp[binOp,Op.stringOp]
   .subst hv;simp[binOp,Op.stringOp]
  .exact h.elim
 .exact h.elim
def TW:NK->TypeDesc->Bool
 |.ptr,.pointer _|.ifc,.interface _|.fn,.func ..|.map,.map _ _|.slc,.slice _=>true
 |_,_=>false
theorem Py(h:und P t=.nilable k):∃d,P.underlying t=some d/\TW k d=true:=by
 unfold und at h;cases hu:P.underlying t with
 |none=>simp[hu]at h
 |some d=>
  refine⟨d,rfl,?_⟩;cases d<;>simp only[hu]at h<;>first
   |(cases h;rfl)
   |(split at h<;>cases h)
   |cases h
theorem rP(h:und P t=.slice n):∃e i,P.underlying t=some (.slice e)/\P.info? e=some i/\i.size=n:=by
 unfold und at h;cases hu:P.underlying t with
 |none=>simp[hu]at h
 |some d=>
  cases d<;>simp only[hu]at h<;>first
   |(split at h<;>cases h;exact⟨_,_,rfl,by assumption,rfl⟩)
   |(split at h<;>cases h)
   |cases h
theorem aa9(h:und P t=.arr m n):∃e i,P.underlying t=some (.array m e)/\P.info? e=some i/\i.size=n:=by
 unfold und at h;cases hu:P.underlying t with
 |none=>simp[hu]at h
 |some d=>
  cases d<;>simp only[hu]at h<;>first
   |(split at h<;>cases h;exact⟨_,_,rfl,by assumption,rfl⟩)
   |(split at h<;>cases h)
   |cases h
theorem UM(h:und P t=.int k):P.underlying t=some (.int k):=by
 unfold und at h;cases hu:P.underlying t with
 |none=>simp[hu]at h
 |some d=>cases d<;>simp only[hu]at h<;>first|(cases h;rfl)|(split at h<;>cases h)|cases h
theorem um(h:und P t=.str):P.underlying t=some .string:=by
 unfold und at h;cases hu:P.underlying t with
 |none=>simp[hu]at h
 |some d=>cases d<;>simp only[hu]at h<;>first|(cases h;rfl)|(split at h<;>cases h)|cases h
theorem Yr(h:und P t=.bool):P.underlying t=some .bool:=by
 unfold und at h;cases hu:P.underlying t with
 |none=>simp[hu]at h
 |some d=>cases d<;>simp only[hu]at h<;>first|(cases h;rfl)|(split at h<;>cases h)|cases h
theorem aam(t:TypeId)(x y:Value):Op.equal t x y=Op.equalIn (9999+1) t x y:=rfl
theorem aan(hop:op=.eql\/op=.neq)
  (hg:eqGuard op t xo yo x y=pure ()) (hb:∀op',op'=.eql\/op'=.neq->binOp op' t x y=(do pure (.bool ((<- Op.equal t x y) != pK op'))))
  (he:(Op.equalIn (9999+1) t x y).run P w=.ok b w):
  (do eqGuard op t xo yo x y;binOp op t x y:Sem Value).run P w=.ok (.bool (b != pK op)) w:=by
 rw[hg,hb op hop,aam];simp[he]
theorem aap(hop:op=.eql\/op=.neq)
  (hu:und P t=.nilable k\/(k=.slc/\∃s,und P t=.slice s)) (hy:dV k yo=true) (hyv:∀v,yo=.const v->y=v) (h:En k (pK op) x K):
  ∃v,(do eqGuard op t xo yo x y;binOp op t x y:Sem Value).run P w=.ok v w/\K v:=by
 replace h:=h.out;unfold EnD at h;split at h
 .rename_i b hb;refine⟨_,?_,h⟩;have hd:∃d,P.underlying t=some d/\TW k d=true:=by
   rcases hu with hu|⟨rfl,s,hu⟩
   .exact Py hu
   .obtain⟨e,i,hd,_,_⟩:=rP hu;exact⟨_,hd,rfl⟩
  clear hu;obtain⟨d,hd,hkd⟩:=hd;cases yo with
  |const c=>
   obtain rfl:=hyv c rfl;clear hyv;refine aan hop ?_ ?_ ?_
   .cases k<;>cases x<;>simp[isNil]at hb<;>cases y<;>simp[dV]at hy<;>rcases hop with rfl|rfl<;>first|rfl|exact eqGuard_nil_constR ..
   .intro op' hop';cases k<;>cases x<;>simp[isNil]at hb<;>cases y<;>simp[dV]at hy<;>rcases hop' with rfl|rfl<;>simp[binOp,pK]
   .generalize 9999=n;cases k<;>cases d<;>simp[TW]at hkd<;>cases x<;>simp[isNil]at hb<;>subst hb<;>cases y<;>simp[dV]at hy
    .rename_i p q;cases q<;>simp at hy;cases p<;>simp[Op.equalIn,run_underlying hd]
    .simp[Op.equalIn,run_underlying hd]
    .simp[Op.equalIn,run_underlying hd]
    .simp[Op.equalIn,run_underlying hd]
    .simp[Op.equalIn,run_underlying hd]
    .rename_i p q;cases q<;>simp at hy;cases p<;>simp[Op.equalIn,run_underlying hd]
    .rename_i p _ _ q _ _;cases q<;>simp at hy;cases p<;>simp[Op.equalIn,run_underlying hd]
  |_=>simp[dV]at hy
 .exact h.elim
theorem eb_run(hop:op=.eql\/op=.neq)
  (hu:und P t=.bool) (h:Eb (pK op) x y K):
  ∃v,(do eqGuard op t xo yo x y;binOp op t x y:Sem Value).run P w=.ok v w/\K v:=by
 have hd:=Yr hu;replace h:=h.out;unfold EbD at h;split at h
 .refine⟨_,?_,h⟩;refine aan hop ?_ ?_ ?_
  .exact eqGuard_at_bool ..
  .intro op' hop';rcases hop' with rfl|rfl<;>simp[binOp,pK]
  .generalize 9999=n;simp[Op.equalIn,run_underlying hd]
 .exact h.elim
theorem cv_run(hs:und P src=.int k')(hd:und P dst=.int k)(h:Cv k x K):
  ∃v,(convert src dst x).run P w=.ok v w/\K v:=by
 replace h:=h.out;unfold CvD at h;split at h
 .exact⟨_,by simp[convert,run_underlying (UM hs),run_underlying (UM hd),Conv.intToInt],h⟩
 .exact h.elim
theorem acM(hs:und P src=.str)(hd:und P dst=.str)(h:CvS x K):
  ∃v,(convert src dst x).run P w=.ok v w/\K v:=by
 replace h:=h.out;unfold CvSD at h;split at h
 .exact⟨_,by simp[convert,run_underlying (um hs),run_underlying (um hd)],h⟩
 .exact h.elim
theorem XI(P:Program)(w:World)(f:Value->ByteArray->Sem (ForInStep ByteArray))
  (hf:∀n s,f (.int .u8 n) s=pure (ForInStep.yield (s.push (UInt8.ofNat n.toNat)))):∀(l:List Value) (bs:List UInt8) (acc:ByteArray),bytesOf l=some bs ->
  (forIn l acc f:Sem ByteArray).run P w=.ok ⟨acc.data++bs.toArray⟩ w:=by
 intro l;induction l with
 |nil=>intro bs acc h;simp[bytesOf]at h;subst h;simp
 |cons v r ih=>
  intro bs acc h;unfold bytesOf at h;split at h
  .cases ‹_::_=[]›
  .rename_i n r' he;injection he with h1 h2
   subst h1 h2;cases hr:bytesOf r with
   |none=>simp[hr]at h
   |some b=>
    simp[hr]at h;subst h;have:=ih b (acc.push (UInt8.ofNat n.toNat)) hr;simp only[List.forIn_cons,hf,Sem.run_bind,Sem.run_pure,Result.andThen_ok,this];simp[ByteArray.push]
  .cases h
theorem acN(hs:isBytes P src=true)(hd:und P dst=.str)(h:CvB x w K):
  ∃v,(convert src dst x).run P w=.ok v w/\K v:=by
 unfold isBytes at hs;split at hs
 .rename_i e hu;split at hs
  .rename_i hu2;replace h:=h.out;unfold XT at h;split at h
   .exact⟨_,by simp[convert,run_underlying hu,run_underlying hu2,run_underlying (um hd),Conv.bytesToString],h⟩
   .split at h
    .rename_i l hl;split at h
     .rename_i bs hbs;refine⟨_,?_,h⟩;simp only[convert,Sem.run_bind,run_underlying hu,run_underlying hu2,run_underlying (um hd),Conv.bytesToString,Result.andThen_ok,oM hl];simp only[List.forIn_toArray];rw[XI P w _ (λ_ _=>rfl) l bs ByteArray.empty hbs];simp
     .exact h.elim
    .exact h.elim
   .exact h.elim
  .cases hs
 .cases hs
theorem qA{v:Value}{top r:Nat}{code:BoundsCode}(h:∃k i,v=.int k i/\0<=i/\i<=(top:Int)/\r=i.toNat):(Instr.sliceBound v top code).run P w=.ok r w:=by
 obtain⟨k,i,rfl,h0,h1,rfl⟩:=h;simp[Instr.sliceBound,asIntOf,h0,h1]
theorem Sl(h:bnd v dflt top=some r):(v=none/\r=dflt)\/∃x k i,v=some x/\x=.int k i/\0<=i/\i<=(top:Int)/\r=i.toNat:=by
 unfold bnd at h;split at h
 .exact .inl ⟨rfl,by simpa using h.symm⟩
 .split at h
  .rename_i hc;exact .inr ⟨_,_,_,rfl,rfl,hc.1,hc.2,by simpa using h.symm⟩
  .cases h
 .cases h
theorem yH{isSlice:Bool}{len cap l h:Nat}{lo hi:Option Value}(h1:bnd hi len cap=some h)(h2:bnd lo 0 h=some l):
  (Instr.sliceBounds isSlice len cap lo hi none).run P w=.ok (l,h,cap) w:=by
 rcases Sl h1 with⟨rfl,rfl⟩|⟨x,k,i,rfl,hx⟩<;>rcases Sl h2 with⟨rfl,rfl⟩|⟨y,k',j,rfl,hy⟩
 .simp[Instr.sliceBounds]
 .simp[Instr.sliceBounds,qA ⟨k',j,hy⟩]
 .simp[Instr.sliceBounds,qA ⟨k,i,hx⟩]
 .simp[Instr.sliceBounds,qA ⟨k,i,hx⟩,qA ⟨k',j,hy⟩]
theorem abl(ht:und P t=.str)(h:SlS x lo hi K):
  ∃v,(Instr.sliceAt t x lo hi none).run P w=.ok v w/\K v:=by
 have hu:=um ht;replace h:=h.out;unfold UC at h;split at h
 .split at h
  .rename_i h' hh;split at h
   .rename_i l hl;exact⟨_,by simp[Instr.sliceAt,Instr.slice,run_underlying hu,yH hh hl],h⟩
   .exact h.elim
  .exact h.elim
 .exact h.elim
theorem abm(ht:und P t=.slice size)(h:SlL size x lo hi K):
  ∃v,(Instr.sliceAt t x lo hi none).run P w=.ok v w/\K v:=by
 obtain⟨e,i,hu,hi',rfl⟩:=rP ht;replace h:=h.out;unfold SlLD at h;split at h
 .split at h
  .rename_i h' hh;split at h
   .rename_i l hl;exact⟨_,by simp[Instr.sliceAt,Instr.slice,run_underlying hu,yH hh hl,run_sizeOf hi'],h⟩
   .exact h.elim
  .exact h.elim
 .exact h.elim
theorem abZ(ht:und P t=.str)(h:IxS x i K):
  ∃v,(Instr.index t x i).run P w=.ok v w/\K v:=by
 have hu:=um ht;replace h:=h.out;unfold IxSD at h;split at h
 .obtain⟨h0,h⟩:=h;split at h
  .rename_i b hb;exact⟨_,by simp[Instr.index,asIntOf,run_underlying hu,h0,hb],h⟩
  .exact h.elim
 .exact h.elim
theorem ab4(ht:und P t=.slice size)(h:IaS size x i K):
  ∃v,(Instr.indexAt t x i).run P w=.ok v w/\K v:=by
 obtain⟨e,inf,hu,hi',rfl⟩:=rP ht;replace h:=h.out;unfold IaSD at h;split at h
 .obtain⟨h0,h1,h⟩:=h;exact⟨_,by simp[Instr.indexAt,asIntOf,run_underlying hu,h0,h1,run_sizeOf hi'],h⟩
 .exact h.elim
theorem ab5(ht:und P t=.arr len size)(h:IaA len size x i K):
  ∃v,(Instr.indexAt t x i).run P w=.ok v w/\K v:=by
 obtain⟨e,inf,hu,hi',rfl⟩:=aa9 ht;replace h:=h.out;unfold IaAD at h;split at h
 .obtain⟨h0,h1,h⟩:=h;exact⟨_,by simp[Instr.indexAt,asIntOf,run_underlying hu,h0,h1,run_sizeOf hi',Instr.sureAddr],h⟩
 .exact h.elim
theorem ta_run(hi:isIface P t=false)(hz:zeroOf P t=some zero)(h:Ta t zero x K):
  ∃v,(Instr.typeAssert x xt t true).run P w=.ok v w/\K v:=by
 unfold isIface at hi;cases hu:P.underlying t with
 |none=>simp[hu]at hi
 |some d=>
  have hd:∀ms,d≠.interface ms:=by rintro ms rfl;simp[hu]at hi
  replace h:=h.out;unfold TaD at h;split at h
  .refine⟨_,?_,h⟩;cases d<;>first|exact absurd rfl (hd _)|simp[Instr.typeAssert,run_underlying hu,iq hz]
  .rename_i u v;refine⟨_,?_,h⟩
   by_cases hut:u=t
   .cases d<;>first|exact absurd rfl (hd _)|simp[Instr.typeAssert,run_underlying hu,hut]
   .cases d<;>first|exact absurd rfl (hd _)|simp[Instr.typeAssert,run_underlying hu,hut,iq hz]
  .exact h.elim
theorem abg(hi:isIface P t=false)(h:Ta1 t x K):
  ∃v,(Instr.typeAssert x xt t false).run P w=.ok v w/\K v:=by
 unfold isIface at hi;cases hu:P.underlying t with
 |none=>simp[hu]at hi
 |some d=>
  have hd:∀ms,d≠.interface ms:=by rintro ms rfl;simp[hu]at hi
  replace h:=h.out;unfold Ta1D at h;split at h
  .obtain⟨rfl,h⟩:=h;refine⟨_,?_,h⟩;cases d<;>first|exact absurd rfl (hd _)|simp[Instr.typeAssert,run_underlying hu]
  .exact h.elim
end
end Go.W
