/- Texts of mine, one behind the other; nothing is assumed. -/
import Derived.Test.YtbfcgbhhgnnglaaGreatDoorB02
import Derived.Lib.ItoaNum
import Derived.Lib.Join
import Derived.Lib.Strings
set_option linter.unusedSimpArgs false
set_option linter.unusedVariables false
namespace Go.M
end Go.M
namespace Go.M
def NameOk(s:By):Prop:=(∃c r,s=c::r/\(c != 95&&eP c)=true/\(c==45||digit c)=false)/\s.all eP=true/\s.length<=16/\contains keys (32::s++[32])=false
def WOk(p:PS):Prop:=p.w.kind=1->NameOk p.w.s
end Go.M
namespace Go.M
def Kw{α:Type}(m:Res α)(f:α->PS):Prop:=∀a,m=.ok a->WOk (f a)
theorem Kw.ok{α:Type}{a:α}{f:α->PS}(h:WOk (f a)):Kw (.ok a) f:=λb hb=>by cases hb;exact h
theorem Kw.no{α:Type}{e a:Nat}{f:α->PS}:Kw (.no e a) f:=λb hb=>by cases hb
theorem Kw.bind{α β:Type}{m:Res α}{k:α->Res β}{f:β->PS}(g:α->PS)(h1:Kw m g)(h2:∀a,WOk (g a)->Kw (k a) f):Kw (m.andThen k) f:=λb hb=>by
 obtain⟨a,ha,hk⟩:=Res.then_ok hb;exact h2 a (h1 a ha) b hk
variable {p:PS}
end Go.M
namespace Go.M
end Go.M
set_option autoImplicit true
set_option relaxedAutoImplicit true
namespace Go.M
theorem Tv(n:Nat)(l:By)(h:iF c=true):skip (n+1) (c::l)=skip (n+1) l+1:=by
 have hb:blanks (c::l)=blanks l+1:=by rw[blanks,if_pos h]
 rw[skip,skip];simp only[hb,List.drop_succ_cons];split
 .split<;>omega
 .omega
end Go.M
namespace Go.M
theorem JP:∀l:By,blanks l<=l.length
 |[]=>Nat.le_refl _
 |c::r=>by
  rw[blanks];split
  .have:=JP r;simp only[List.length_cons];omega
  .exact Nat.zero_le _
theorem KW:∀(n m:Nat) (l:By),l.length<n->l.length<m->skip n l=skip m l
 |0,_,_,h,_=>by omega
 |_,0,_,_,h=>by omega
 |n+1,m+1,l,h1,h2=>by
  simp only[skip];have hb:=JP l;split
  .rename_i hs;cases hf:find [42,47] ((l.drop (blanks l)).drop 2)with
   |none=>rfl
   |some e=>
    simp only;have:((l.drop (blanks l)).drop (e+4)).length<l.length:=by
     have h0:0<(l.drop (blanks l)).length:=by
      cases hd:l.drop (blanks l)with
      |nil=>rw[hd]at hs;simp[starts]at hs
      |cons a b=>simp
     rw[List.length_drop]at h0 ⊢;rw[List.length_drop];omega
    rw[KW n m _ omg omg]
  .rfl
def pJ(l:By):Nat:=skip (l.length+1) l
theorem Ci(n:Nat)(h:l.length<n):skip n l=pJ l:=KW _ _ _ h omg
theorem FM(h:iF c=true):pJ (c::l)=pJ l+1:=by
 show skip (l.length+1+1) (c::l)=_;rw[Tv _ _ h,Ci _ omg]
theorem wO(h:iF c=false)(hs:starts [47,42] (c::l)=false):pJ (c::l)=0:=by
 have hb:blanks (c::l)=0:=by rw[blanks,h];rfl
 show skip (l.length+1+1) (c::l)=0;simp only[skip,hb,List.drop_zero,hs,Bool.false_eq_true,if_false]
theorem Iu(h:iF c=false)(hs:starts [47,42] (c::l)=true)(hf:find [42,47] ((c::l).drop 2)=none):pJ (c::l)=0:=by
 have hb:blanks (c::l)=0:=by rw[blanks,h];rfl
 show skip (l.length+1+1) (c::l)=0;simp only[skip,hb,List.drop_zero,hs,if_true,hf]
theorem KX(h:iF c=false)(hs:starts [47,42] (c::l)=true)(hf:find [42,47] ((c::l).drop 2)=some e):pJ (c::l)=e+4+pJ ((c::l).drop (e+4)):=by
 have hb:blanks (c::l)=0:=by rw[blanks,h];rfl
 show skip (l.length+1+1) (c::l)=_;rw[skip];simp only[hb,List.drop_zero,hs,if_true,hf,Nat.zero_add];rw[Ci _ (by rw[List.length_drop,List.length_cons];omega)]
theorem JD:∀{x l:By} {n:Nat},find x l=some n->n+x.length<=l.length
 |x,[],n,h=>by
  rw[find]at h;split at h
  .rename_i hx;cases h;cases x with
   |nil=>simp
   |cons=>simp at hx
  .cases h
 |x,c::r,n,h=>by
  rw[find]at h;split at h
  .rename_i hs;cases h;have:∀(x l:By),starts x l=true->x.length<=l.length:=by
    intro x;induction x with
    |nil=>intro l _;simp
    |cons a x ih=>
     intro l h;cases l with
     |nil=>simp[starts]at h
     |cons b l=>
      rw[starts,Bool.and_eq_true]at h;have:=ih l h.2;simp only[List.length_cons];omega
   have:=this _ _ hs;omega
  .rw[Option.map_eq_some_iff]at h;obtain⟨m,hm,rfl⟩:=h;have:=JD hm;simp only[List.length_cons];omega
theorem Cj:∀(n:Nat) (l:By),l.length<=n->pJ l<=l.length
 |n,[],_=>Nat.le_refl _
 |0,c::l,h=>by simp at h
 |n+1,c::l,hn=>by
  have hn':l.length<=n:=by simpa using hn
  cases h:iF c with
  |true=>rw[FM h];have:=Cj n l hn';simp only[List.length_cons];omega
  |false=>
   cases hs:starts [47,42] (c::l)with
   |false=>rw[wO h hs];exact Nat.zero_le _
   |true=>
    cases hf:find [42,47] ((c::l).drop 2)with
    |none=>rw[Iu h hs hf];exact Nat.zero_le _
    |some e=>
     rw[KX h hs hf];have h1:=JD hf;have h2:=Cj n ((c::l).drop (e+4)) (by rw[List.length_drop,List.length_cons];omega);rw[List.length_drop]at h1 h2;simp only[List.length_cons,List.length_nil]at *;omega
theorem Xy(h:starts x (c::r)=false):find x (c::r)=(find x r).map (·+1):=by
 rw[find,h];rfl
def mr:List By:=[[99,111,110,115,116],[116,121,112,101,100,101,102],[101,110,117,109],[115,116,114,117,99,116],[117,110,105,111,110],[115,119,105,116,99,104],[99,97,115,101],[100,101,102,97,117,108,116],[118,111,105,100],[105,110,116],[117,110,115,105,103,110,101,100],[104,121,112,101,114],[98,111,111,108],[111,112,97,113,117,101],[115,116,114,105,110,103],[112,114,111,103,114,97,109],[118,101,114,115,105,111,110],[84,82,85,69],[70,65,76,83,69]]
theorem FK:∀{s l:By},(∀c∈s,c≠32)->starts (s++[32]) l=true->l.takeWhile (· != 32)=s/\s.length<l.length
 |[],l,_,h=>by
  cases l with
  |nil=>simp[starts]at h
  |cons b y=>
   simp only[List.nil_append,starts,Bool.and_eq_true,beq_iff_eq]at h;obtain⟨rfl,_⟩:=h;simp
 |a::s,l,hs,h=>by
  cases l with
  |nil=>simp[starts]at h
  |cons b y=>
   simp only[List.cons_append,starts,Bool.and_eq_true,beq_iff_eq]at h;obtain⟨rfl,h⟩:=h;obtain⟨h1,h2⟩:=FK (λc hc=>hs c (List.mem_cons_of_mem _ hc)) h;have ha:(a != 32)=true:=by simpa using hs a (List.mem_cons_self ..)
   rw[List.takeWhile_cons,ha];exact⟨by rw[if_pos rfl,h1],by simp only[List.length_cons];omega⟩
theorem DD:∀{x l:By} {n:Nat},find x l=some n->starts x (l.drop n)=true
 |x,[],n,h=>by
  rw[find]at h;split at h
  .cases h;rename_i hx;cases x with
   |nil=>rfl
   |cons=>simp at hx
  .cases h
 |x,c::r,n,h=>by
  rw[find]at h;split at h
  .cases h;assumption
  .rw[Option.map_eq_some_iff]at h;obtain⟨m,hm,rfl⟩:=h;have:=DD hm;rw[List.drop_succ_cons];exact this
def segs:List By:=((List.range keys.length).filter λi=>keys[i]?==some 32).map λi=>(keys.drop (i+1)).takeWhile (· != 32)
theorem YO:(segs.all λs=>s==[]||mr.contains s)=true:=by decide +kernel
theorem ZA:(mr.all λs=>contains keys (32::s++[32]))=true:=by decide +kernel
theorem abX(h0:s≠[])(hs:∀c∈s,c≠32):contains keys (32::s++[32])=mr.contains s:=by
 cases hk:mr.contains s with
 |true=>exact List.all_eq_true.mp ZA s (by simpa using hk)
 |false=>
  cases hc:contains keys (32::s++[32])with
  |false=>rfl
  |true=>
   rw[contains,Option.isSome_iff_exists]at hc;obtain⟨n,hn⟩:=hc;have hle:=JD hn;have hst:=DD hn;obtain⟨b,y,hd⟩:∃b y,keys.drop n=b::y:=by
    cases hd:keys.drop n with
    |nil=>rw[hd]at hst;simp[starts]at hst
    |cons b y=>exact⟨b,y,rfl⟩
   rw[hd,List.cons_append,starts,Bool.and_eq_true,beq_iff_eq]at hst;obtain⟨hb,hst⟩:=hst;have hlt:n<keys.length:=by
    have:=congrArg List.length hd;rw[List.length_drop,List.length_cons]at this;omega
   have hy:keys.drop (n+1)=y:=by rw[<- List.drop_drop,hd];rfl
   have hmem:s∈segs:=by
    unfold segs;refine List.mem_map.mpr ⟨n,List.mem_filter.mpr ⟨List.mem_range.mpr hlt,?_⟩,?_⟩
    .have:keys[n]?=some b:=by
      have:=congrArg (·[0]?) hd;simpa [List.getElem?_drop] using this
     rw[this,<- hb];rfl
    .rw[hy];exact(FK hs hst).1
   have:=List.all_eq_true.mp YO s hmem;rw[hk,Bool.or_false]at this;exact absurd (by simpa using this) h0
end Go.M
namespace Go.M
def qo(base:Nat):By->Nat->Option Nat
 |[],v=>some v
 |c::r,v=>if dig c<base then qo base r (base*v+dig c)else none
def BH(ds:By)(neg:Bool):Option Int:=
 if ds.length=0\/10<ds.length\/(1<ds.length/\ds.head?=some 48)then none
 else match qo 10 ds 0 with
  |none=>none
  |some v=>if neg then(if v<=2147483648 then some (-(v:Int))else none)else(if v<=4294967295 then some (v:Int)else none)
def lK(ds:By)(neg:Bool):Option Int:=
 if 2<ds.length/\starts [48,120] ds=true then(if neg=true\/10<ds.length then none else(qo 16 (ds.drop 2) 0).map Int.ofNat)
 else BH ds neg
theorem OB(hb:0<b):∀{l:By} {v u:Nat},qo b l v=some u->v*b ^ l.length<=u
 |[],v,u,h=>by cases h;simp
 |c::r,v,u,h=>by
  rw[qo]at h;split at h
  .have:=OB hb h;refine Nat.le_trans ?_ this;rw[List.length_cons,Nat.pow_succ,Nat.mul_comm (b ^ r.length) b,<- Nat.mul_assoc];exact Nat.mul_le_mul_right _ (by rw[Nat.mul_comm b v];omega)
  .cases h
theorem VE:∀{l:By} {v u k:Nat},qo b l v=some u->v<b ^ k->u<b ^ (k+l.length)
 |[],v,u,k,h,hv=>by cases h;simpa using hv
 |c::r,v,u,k,h,hv=>by
  rw[qo]at h;split at h
  .rename_i hd
   have:=VE (k:=k+1) h (by
    rw[Nat.pow_succ,Nat.mul_comm (b ^ k) b];have:b*(v+1)<=b*b ^ k:=Nat.mul_le_mul_left _ hv;rw[Nat.mul_add]at this
    omega)
   rw[List.length_cons];rw[show k+(r.length+1)=k+1+r.length by omega];exact this
  .cases h
theorem KN(hb:0<b):∀(l:By) (v:Nat),v<4294967296->uint b l v=(qo b l v).bind λu=>if u<4294967296 then some u else none
 |[],v,hv=>by simp[uint,qo,hv]
 |c::r,v,hv=>by
  rw[uint,qo]
  by_cases hd:dig c<b
  .rw[if_pos hd,if_pos hd]
   by_cases h:v*b+dig c<4294967296
   .rw[if_pos h,KN hb r _ h,Nat.mul_comm v b]
   .rw[if_neg h];cases hu:qo b r (b*v+dig c)with
    |none=>rfl
    |some u=>
     have:=OB hb hu;have h1:1<=b ^ r.length:=Nat.pow_pos hb;have h2:b*v+dig c<=(b*v+dig c)*b ^ r.length:=Nat.le_mul_of_pos_right _ h1;rw[Nat.mul_comm v b]at h;simp only[Option.bind_some];rw[if_neg omg]
  .rw[if_neg hd,if_neg hd];rfl
theorem XD:dig 95=99:=by decide
theorem BG(hb:b<=36):∀{l:By} {v:Nat},l.contains 95=true->qo b l v=none
 |[],v,h=>by simp at h
 |c::r,v,h=>by
  rw[qo]
  by_cases hc:c=95
  .subst hc;rw[XD,if_neg omg]
  .split
   .have h':r.contains 95=true:=by
     have:(95:UInt8)∈c::r:=by simpa using h
     rcases List.mem_cons.mp this with e|e
     .exact absurd e.symm hc
     .simpa using e
    exact BG hb h'
   .rfl
theorem FT(hb:0<b):lg b l=if l=[]then none else(qo b l 0).bind λu=>if u<4294967296 then some u else none:=by
 unfold lg;cases l with
 |nil=>rfl
 |cons c r=>rw[if_neg smp,if_neg smp,KN hb _ _ omg]
theorem XC:((List.range 256).all λn=>dig n.toUInt8 != 0||n==48)=true:=by decide +kernel
theorem aar(h:dig c=0):c=48:=by
 have h1:=List.all_eq_true.mp XC c.toNat (List.mem_range.mpr (UInt8.toNat_lt c));have hc:c.toNat.toUInt8=c:=UInt8.ofNat_toNat;rw[hc,h]at h1;have h2:c.toNat=48:=by simpa using h1
 rw[<- hc,h2];rfl
theorem aas(h:qo 10 l 0=some u)(hl:10<l.length)(h0:l.head?≠some 48):4294967296<=u:=by
 cases l with
 |nil=>simp at hl
 |cons c r=>
  rw[qo]at h;split at h
  .rename_i hd;have hc:1<=dig c:=by
    rcases Nat.eq_zero_or_pos (dig c)with e|e
    .exfalso;exact h0 (by rw[aar e];rfl)
    .exact e
   have h1:=OB omg h;have h2:10 ^ 10<=10 ^ r.length:=Nat.pow_le_pow_right omg (by simp only[List.length_cons]at hl;omega);have h3:1*10 ^ r.length<=(10*0+dig c)*10 ^ r.length:=Nat.mul_le_mul_right _ omg;omega
  .cases h
theorem RH (neg : Bool) : (if (decide (1 < ds.length) && ds.head? == some 48) = true then none else if ds.contains 95 = true then none else match lg 10 ds with
      | none => (none : Option Int)
      | some v => if neg = true then (if v <= 2147483648 then some (-(v : Int)) else none) else some (v : Int)) =
  BH ds neg:=by
 unfold BH
 by_cases h1:1<ds.length/\ds.head?=some 48
 .rw[if_pos (by simpa using h1),if_pos (Or.inr (Or.inr h1))]
 .rw[if_neg (by simpa using h1)]
  by_cases h2:ds.contains 95=true
  .rw[if_pos h2,BG omg h2];split<;>rfl
  .rw[if_neg h2,FT omg]
   by_cases h3:ds=[]
   .subst h3;rfl
   .have hl:0<ds.length:=List.length_pos_iff.mpr h3;rw[if_neg h3];cases hu:qo 10 ds 0 with
    |none=>
     simp only[Option.bind_none];split<;>rfl
    |some u=>
     simp only[Option.bind_some]
     by_cases h4:10<ds.length
     .have h5:ds.head?≠some 48:=λe=>h1 ⟨omg,e⟩;have:=aas hu h4 h5;rw[if_neg (show ¬ u<4294967296 by omega),if_pos (Or.inr (Or.inl h4))]
     .have hn:¬ (ds.length=0\/10<ds.length\/(1<ds.length/\ds.head?=some 48)):=by
       rintro(h|h|h)
       .omega
       .omega
       .exact h1 h
      rw[if_neg hn]
      by_cases h6:u<4294967296
      .rw[if_pos h6];simp only;rw[if_pos (show u<=4294967295 by omega)]
      .rw[if_neg h6];simp only;rw[if_neg (show ¬ u<=2147483648 by omega),if_neg (show ¬ u<=4294967295 by omega)];split<;>rfl
theorem TF(h:(c==45||digit c)=true):lK (if c==45 then r else c::r) (c==45)=number (c::r):=by
 cases hc:c==45 with
 |true=>
  have hc':c=45:=by simpa using hc
  subst hc';have hh:starts [48,120] ((45:UInt8)::r)=false:=by simp[starts]
  have e:number ((45:UInt8)::r)=(if(decide (1<r.length)&&r.head?==some 48)=true then none else if r.contains 95=true then none else match lg 10 r with
   |none=>(none:Option Int)
   |some v=>if v<=2147483648 then some (-(v:Int))else none):=by
   unfold number;simp only[hh,Bool.false_eq_true,if_false,eX,List.head?_cons];rfl
  rw[e];have:=RH (ds:=r) true;simp only[if_true]at this;rw[this];unfold lK;simp only[if_true,true_or]
  by_cases hx:2<r.length/\starts [48,120] r=true
  .rw[if_pos hx];unfold BH;rw[if_pos];refine Or.inr (Or.inr ⟨omg,?_⟩);cases r with
   |nil=>simp at hx
   |cons a r=>
    have h2:=hx.2;rw[starts,Bool.and_eq_true,beq_iff_eq]at h2;rw[<- h2.1];rfl
  .rw[if_neg hx]
 |false=>
  have hd:digit c=true:=by rw[hc]at h;simpa using h
  have hne:c≠45:=by simpa using hc
  have ht:eX (c::r)=c::r:=by
   unfold eX;split
   .rename_i h;cases h;exact absurd rfl hne
   .rfl
  have hhead:((c::r).head?==some 45)=false:=by simpa using hne
  simp only[Bool.false_eq_true,if_false];cases hx:starts [48,120] (c::r)with
  |false=>
   have e:number (c::r)=(if(decide (1<(c::r).length)&&(c::r).head?==some 48)=true then none else if(c::r).contains 95=true then none else match lg 10 (c::r)with
    |none=>(none:Option Int)
    |some v=>some (v:Int)):=by
    unfold number;simp only[hx,Bool.false_eq_true,if_false,ht,hhead];rfl
   rw[e];have:=RH (ds:=c::r) false;simp only[Bool.false_eq_true,if_false]at this;rw[this];unfold lK;rw[if_neg (by rw[hx];simp)]
  |true=>
   obtain⟨t,rfl,rfl⟩:∃t,c=48/\r=120::t:=by
    rw[starts,Bool.and_eq_true,beq_iff_eq]at hx;cases r with
    |nil=>simp[starts]at hx
    |cons b t=>
     have h2:=hx.2;rw[starts,Bool.and_eq_true,beq_iff_eq]at h2;exact⟨t,hx.1.symm,by rw[<- h2.1]⟩
   have e:number ((48:UInt8)::120::t)=(if 8<t.length then none else if t.contains 95=true then none else match lg 16 t with
    |none=>(none:Option Int)
    |some v=>some (v:Int)):=by
    unfold number;simp only[hx,if_true,hhead,Bool.false_eq_true,if_false,List.drop_succ_cons,List.drop_zero,decide_eq_true_eq];rfl
   rw[e,FT omg];unfold lK
   by_cases h0:t=[]
   .subst h0;rfl
   .have hl:0<t.length:=List.length_pos_iff.mpr h0;rw[if_pos ⟨by simp only[List.length_cons];omega,hx⟩,if_neg h0];simp only[Bool.false_eq_true,false_or,List.drop_succ_cons,List.drop_zero,List.length_cons]
    by_cases h8:8<t.length
    .rw[if_pos omg,if_pos h8]
    .rw[if_neg omg,if_neg h8]
     by_cases h95:t.contains 95=true
     .rw[if_pos h95,BG omg h95];rfl
     .rw[if_neg h95];cases hu:qo 16 t 0 with
      |none=>rfl
      |some u=>
       have h1:=VE (k:=0) hu omg;have h2:16 ^ (0+t.length)<=16 ^ 8:=Nat.pow_le_pow_right omg omg;simp only[Option.bind_some];rw[if_pos omg];rfl
end Go.M
namespace Go.M
structure WR where
 kind:Int
 s:By
 at_:Int
 en:Int
 n:Int
 e:Int deriving DecidableEq
def w00:WR:=⟨0,[],0,0,0,0⟩
def wr:Res (Wd×Nat)->WR
 |.ok (x,q)=>⟨(x.kind:Nat),x.s,(x.at_:Nat),(q:Nat),x.n,0⟩
 |.no e a=>⟨5,[],(a:Nat),0,0,(e:Nat)⟩
structure eU where
 kind:Int
 n:Int
 of:Int
 nums:List Int
 parts:List Int
 els:Int
 name:By
 at_:Int deriving DecidableEq
def row0:eU:=⟨0,0,0,[],[],0,[],0⟩
structure NmR where
 s:By
 what:Int
 n:Int
 at_:Int deriving DecidableEq
structure PcR where
 prog:Int
 fA:Int
 proc:Int
 arg:Int
 res:Int deriving DecidableEq
structure RS where
 txt:By
 w:WR
 rows:List eU
 names:List NmR
 procs:List PcR
 out:By
 e:Int
 at_:Int
 consts:Int
 types:Int
 aj:List Int
def aK(p:RS)(e a:Int):RS:=if p.e==0 then { p with e:=e,at_:=a }else p
def iQ(p:RS):RS:=if p.w.kind==5 then aK p p.w.e p.w.at_ else aK p 3 p.w.at_
def aB(p:RS):RS:={ p with w:=wr (next p.txt p.w.en.toNat) }
def is_(p:RS)(k:Int)(s:By):Bool:=p.e==0&&p.w.kind==k&&p.w.s==s
def aG(p:RS)(n most:Int):RS:=
 let p:=if p.e==0&&p.w.kind==5 then iQ p else p
 if p.e==0&&decide (n>=most)then aK p 5 p.w.at_ else p
def af(p:RS)(k:Int)(s:By):RS:=if is_ p k s then aB p else iQ p
def fD(p:RS):WR×RS:=if p.e != 0 then(w00,p)else if p.w.kind != 1 then(w00,iQ p)else(p.w,aB p)
def nix(s:By):List NmR->Option Nat
 |[]=>none
 |x::r=>if x.s==s then some 0 else(nix s r).map (·+1)
def oD(s:By)(l:List NmR):Int:=match nix s l with|some k=>(k:Nat)|none => -1
def cO(l:List NmR)(k:Nat):NmR:=l.getD k ⟨[],0,0,0⟩
def az(p:RS)(what:Int):WR×RS:=
 let x:=fD p
 if x.2.e != 0 then x else
 match nix x.1.s x.2.names with
 |some _=>(x.1,aK x.2 6 x.1.at_)
 |none=>(x.1,{ x.2 with names:=x.2.names++[⟨x.1.s,what,-1,x.1.at_⟩] })
def He(p:RS):Option Int:=match nix p.w.s p.names with
 |some k=>if(cO p.names k).what==0 then some (cO p.names k).n else none
 |none=>none
def IM(p:RS):Option Int ⊕ Unit:=
 if p.w.kind==3 then .inl (some p.w.n)
 else if is_ p 2 [84,82,85,69]then .inl (some 1)
 else if is_ p 2 [70,65,76,83,69]then .inl (some 0)
 else if p.w.kind==1 then .inl (He p)
 else .inr ()
def ak(p:RS)(lo hi:Int):Int×Int×RS:=
 if p.e != 0 then(0,0,p)else
 match IM p with
 |.inr _=>(0,0,iQ p)
 |.inl none=>(0,0,aK p 7 p.w.at_)
 |.inl (some n)=>if n<lo\/n>hi then(0,0,aK p 8 p.w.at_)else(n,p.w.at_,aB p)
def dh(p:RS)(r:eU):Int×RS:=((p.rows.length:Nat),{ p with rows:=p.rows++[r] })
def fO(p:RS):Int×By×RS:=
 if p.e != 0 then(0,[],p)
 else if p.w.kind==1 then
  let w:=p.w
  let x:=dh (aB p) { row0 with kind:=14,name:=w.s,at_:=w.at_,of := -1 }
  (x.1,w.s,x.2)
 else if p.w.kind==2&&p.w.s==[105,110,116]then(0,[105,110,116],aB p)
 else if p.w.kind==2&&p.w.s==[104,121,112,101,114]then(2,[104,121,112,101,114],aB p)
 else if p.w.kind==2&&p.w.s==[98,111,111,108]then(4,[98,111,111,108],aB p)
 else if p.w.kind==2&&p.w.s==[117,110,115,105,103,110,101,100]then
  let p:=aB p
  if is_ p 2 [104,121,112,101,114]then(3,[117,110,115,105,103,110,101,100,32,104,121,112,101,114],aB p)
  else(1,[117,110,115,105,103,110,101,100],if is_ p 2 [105,110,116]then aB p else p)
 else(0,[],iQ p)
def bC(p:RS)(fixed:Bool):Int×RS:=
 if fixed then
  let x:=ak (af p 4 [91]) 1 1000
  (x.1,af x.2.2 4 [93])
 else
  let p:=af p 4 [60]
  let x:Int×RS:=if is_ p 4 [62]then(4294967295,p)else(let v:=ak p 0 4294967295;(v.1,v.2.2))
  (x.1,af x.2 4 [62])
def dS(p:RS)(names:List By)(all:Bool):WR×RS:=
 let x:=fD p
 let twice:=if all then(nix x.1.s x.2.names).isSome else names.contains x.1.s
 (x.1,if x.2.e==0&&twice then aK x.2 6 x.1.at_ else x.2)
def nI_(n:Int):By:=Go.Lib.itoa n
def dD(p:RS)(names:List By)(all:Bool):Int×By×By×WR×RS:=
 let o:=is_ p 2 [111,112,97,113,117,101]
 let s:=is_ p 2 [115,116,114,105,110,103]
 if o||s then
  let front:=p.w.s++[32]
  let x:=dS (aB p) names all
  if is_ x.2 4 [91]&&o then
   let n:=bC x.2 true
   let r:=dh n.2 { row0 with kind:=6,n:=n.1 }
   (r.1,front,[91]++nI_ n.1++[93],x.1,r.2)
  else
   let n:=bC x.2 false
   let r:=dh n.2 { row0 with kind:=if s then 8 else 7,n:=n.1 }
   (r.1,front,[60]++nI_ n.1++[62],x.1,r.2)
 else
  let k:=fO p
  if is_ k.2.2 4 [42]then
   let x:=dS (aB k.2.2) names all
   let r:=dh x.2 { row0 with kind:=11,of:=k.1 }
   (r.1,k.2.1++[32,42],[],x.1,r.2)
  else
   let x:=dS k.2.2 names all
   let fixed:=is_ x.2 4 [91]
   if fixed||is_ x.2 4 [60]then
    let n:=bC x.2 fixed
    if fixed then
     let r:=dh n.2 { row0 with kind:=9,of:=k.1,n:=n.1 }
     (r.1,k.2.1++[32],[91]++nI_ n.1++[93],x.1,r.2)
    else
     let r:=dh n.2 { row0 with kind:=10,of:=k.1,n:=n.1 }
     (r.1,k.2.1++[32],[60]++nI_ n.1++[62],x.1,r.2)
   else(k.1,k.2.1++[32],[],x.1,x.2)
def kn_(p:RS)(s:By)(n:Int):RS:=match nix s p.names with
 |some k=>{ p with names:=p.names.modify k λx=>{ x with what:=0,n:=n } }
 |none=>p
def bG(p:RS)(s:By)(n:Int):RS:={ kn_ p s n with consts:=(kn_ p s n).consts+1 }
def dI(p:RS)(s:By)(r:Int):RS:=match nix s p.names with
 |some k=>{ p with names:=p.names.modify k λx=>{ x with what:=1,n:=r } }
 |none=>p
def fZ(p:RS):RS:=
 let p:=aG p p.consts 40
 let p:=af p 2 [99,111,110,115,116]
 let d:=az p 2
 let p:=af d.2 4 [61]
 let v:=ak p (-2147483648) 4294967295
 let p:=af v.2.2 4 [59]
 if p.e != 0 then p else
 let p:=bG p d.1.s v.1
 {p with out:=p.out++[99,111,110,115,116,32]++d.1.s++[32,61,32]++nI_ v.1++[59,10] }
def iK(p:RS):RS:=
 let p:=af p 2 [116,121,112,101,100,101,102]
 let d:=dD p [] true
 let p:=d.2.2.2.2
 if p.e != 0 then p else
 let p:={ p with names:=p.names++[⟨d.2.2.2.1.s,1,d.1,d.2.2.2.1.at_⟩] }
 let p:=af p 4 [59]
 {p with out:=p.out++[116,121,112,101,100,101,102,32]++d.2.1++d.2.2.2.1.s++d.2.2.1++[59,10] }
def cu:Nat->RS->By->List Int->RS ⊕ (RS×By×List Int)
 |0,p,out,nums=>.inr (p,out,nums)
 |k+1,p,out,nums=>
  if p.e==0 then
   let p:=aG p (nums.length:Nat) 12
   let p:=aG p p.consts 40
   let m:=az p 2
   let p:=af m.2 4 [61]
   let v:=ak p (-2147483648) 2147483647
   let p:=if v.2.2.e==0&&nums.contains v.1 then aK v.2.2 6 v.2.1 else v.2.2
   if p.e != 0 then .inl p else
   let p:=bG p m.1.s v.1
   let nums:=nums++[v.1]
   let out:=out++(m.1.s++[32,61,32]++nI_ v.1)
   if is_ p 4 [44]then cu k (aB p) (out++[44,32]) nums else .inr (p,out,nums)
  else .inr (p,out,nums)
def bZ(p:RS):RS:=
 let p:=af p 2 [101,110,117,109]
 let w:=az p 2
 let p:=af w.2 4 [123]
 match cu 14 p ([101,110,117,109,32]++w.1.s++[32,123,32]) []with
 |.inl p=>p
 |.inr (p,out,nums)=>
  let p:=af p 4 [125]
  let p:=af p 4 [59]
  let r:=dh p { row0 with kind:=5,nums:=nums }
  let p:=dI r.2 w.1.s r.1
  {p with out:=p.out++out++[32,125,59,10] }
def aO:Nat->RS->By->List Int->List By->RS×By×List Int
 |0,p,out,parts,_=>(p,out,parts)
 |k+1,p,out,parts,names=>
  if p.e==0 then
   let p:=aG p (parts.length:Nat) 12
   let d:=dD p names false
   let p:=af d.2.2.2.2 4 [59]
   let parts:=parts++[d.1]
   let names:=names++[d.2.2.2.1.s]
   let out:=out++d.2.1++d.2.2.2.1.s++d.2.2.1++[59,32]
   if is_ p 4 [125]then(p,out,parts)else aO k p out parts names
  else(p,out,parts)
def fC(p:RS):RS:=
 let p:=af p 2 [115,116,114,117,99,116]
 let w:=az p 2
 let p:=af w.2 4 [123]
 let x:=aO 14 p ([115,116,114,117,99,116,32]++w.1.s++[32,123,32]) [] []
 let p:=af x.1 4 [125]
 let p:=af p 4 [59]
 let r:=dh p { row0 with kind:=12,parts:=x.2.2 }
 let p:=dI r.2 w.1.s r.1
 {p with out:=p.out++x.2.1++[125,59,10] }
def rowAt(l:List eU)(r:Int):eU:=l.getD r.toNat row0
def dP(p:RS):Int×By×RS:=
 let w:=p.w
 if p.e==0&&w.kind==1 then
  match nix w.s p.names with
  |some k=>if(cO p.names k).what != 1||(rowAt p.rows (cO p.names k).n).kind != 5 then(0,[],aK p 7 w.at_)else((cO p.names k).n,w.s,aB p)
  |none=>(0,[],aK p 7 w.at_)
 else if !(p.e==0&&w.kind==2&&(w.s==[105,110,116]||w.s==[117,110,115,105,103,110,101,100]||w.s==[98,111,111,108]))then(0,[],iQ p)
 else
  let p:=aB p
  if w.s==[105,110,116]then(0,[105,110,116],p)
  else if w.s==[98,111,111,108]then(4,[98,111,111,108],p)
  else(1,[117,110,115,105,103,110,101,100],if is_ p 2 [105,110,116]then aB p else p)
def jc(p:RS)(names:List By):Int×By×List By×RS:=
 if is_ p 2 [118,111,105,100]then(-1,[118,111,105,100,59,32],names,af (aB p) 4 [59])
 else
  let d:=dD p names false
  let p:=af d.2.2.2.2 4 [59]
  (d.1,d.2.1++d.2.2.2.1.s++d.2.2.1++[59,32],names++[d.2.2.2.1.s],p)
def bz(of:Int):Nat->RS->List Int->By->List Int×By×RS
 |0,p,nums,out=>(nums,out,p)
 |k+1,p,nums,out=>
  if p.e==0 then
   let p:=aG p (nums.length:Nat) 12
   let p:=af p 2 [99,97,115,101]
   let v:=ak p (if of==1||of==4 then 0 else -2147483648) (if of==1 then 4294967295 else if of==4 then 1 else 2147483647)
   let p:=v.2.2
   let p:=if p.e==0&&decide (of>4)&&!((rowAt p.rows of).nums.contains v.1)then aK p 8 v.2.1 else p
   let p:=if p.e==0&&nums.contains v.1 then aK p 6 v.2.1 else p
   let p:=af p 4 [58]
   let nums:=nums++[v.1]
   let out:=out++[99,97,115,101,32]++nI_ v.1++[58,32]
   if is_ p 2 [99,97,115,101]then bz of k p nums out else(nums,out,p)
  else(nums,out,p)
def gG(p:RS)(of:Int)(nums:List Int):List Int×By×RS:=bz of 14 p nums []
def aQ(of:Int):Nat->RS->List Int->List Int->List By->By->List Int×List Int×List By×By×RS
 |0,p,nums,parts,names,out=>(nums,parts,names,out,p)
 |k+1,p,nums,parts,names,out=>
  if p.e==0 then
   let c:=gG p of nums
   let a:=jc c.2.2 names
   let parts:=parts++List.replicate (c.1.length - parts.length) a.1
   let out:=out++c.2.1++a.2.1
   if is_ a.2.2.2 2 [99,97,115,101]then aQ of k a.2.2.2 c.1 parts a.2.2.1 out else(c.1,parts,a.2.2.1,out,a.2.2.2)
  else(nums,parts,names,out,p)
def mQ(p:RS):RS:=
 let p:=af p 2 [117,110,105,111,110]
 let w:=az p 2
 let p:=af w.2 2 [115,119,105,116,99,104]
 let p:=af p 4 [40]
 let d:=dP p
 let m:=fD d.2.2
 let p:=af m.2 4 [41]
 let p:=af p 4 [123]
 let out:=[117,110,105,111,110,32]++w.1.s++[32,115,119,105,116,99,104,32,40]++d.2.1++[32]++m.1.s++[41,32,123,32]
 let x:=aQ d.1 14 p [] [] [m.1.s] out
 let p:=x.2.2.2.2
 let y:Int×By×RS:=if is_ p 2 [100,101,102,97,117,108,116]then(let a:=jc (af (aB p) 4 [58]) x.2.2.1;(a.1,x.2.2.2.1++([100,101,102,97,117,108,116,58,32]++a.2.1),a.2.2.2))else(-2,x.2.2.2.1,p)
 let p:=af y.2.2 4 [125]
 let p:=af p 4 [59]
 let r:=dh p { row0 with kind:=13,of:=d.1,nums:=x.1,parts:=x.2.1,els:=y.1 }
 let p:=dI r.2 w.1.s r.1
 {p with out:=p.out++y.2.1++[125,59,10] }
def fV(p:RS):Int×By×RS:=if is_ p 2 [118,111,105,100]then(-1,[118,111,105,100],aB p)else fO p
def dO(p:RS)(names:List By):List By×WR×RS:=
 let x:=dS p names false
 (names++[x.1.s],x.1,x.2)
def aI(p:RS)(nums:List Int):List Int×Int×RS:=
 let p:=af p 4 [61]
 let v:=ak p 0 4294967295
 let p:=if v.2.2.e==0&&nums.contains v.1 then aK v.2.2 6 v.2.1 else v.2.2
 (nums++[v.1],v.1,af p 4 [59])
def dw:Nat->RS->By->List PcR->List By->List Int->RS×By×List PcR
 |0,p,out,l,_,_=>(p,out,l)
 |k+1,p,out,l,words,ns=>
  if p.e==0 then
   let p:=aG p (l.length:Nat) 8
   let r:=fV p
   let m:=dO r.2.2 words
   let p:=af m.2.2 4 [40]
   let a:=fV p
   let p:=af a.2.2 4 [41]
   let n:=aI p ns
   let l:=l++[⟨0,0,n.2.1,a.1,r.1⟩]
   let out:=out++r.2.1++[32]++m.2.1.s++[40]++a.2.1++[41,32,61,32]++nI_ n.2.1++[59,32]
   if is_ n.2.2 4 [125]then(n.2.2,out,l)else dw k n.2.2 out l m.1 n.1
  else(p,out,l)
def aZ(p:RS)(names:List By)(nums:List Int):List By×List Int×List PcR×By×RS:=
 let p:=af p 2 [118,101,114,115,105,111,110]
 let w:=dO p names
 let p:=af w.2.2 4 [123]
 let x:=dw 10 p ([118,101,114,115,105,111,110,32]++w.2.1.s++[32,123,32]) [] [] []
 let p:=af x.1 4 [125]
 let n:=aI p nums
 (w.1,n.1,x.2.2.map (λq:PcR=>({ q with fA:=n.2.1 }:PcR)),x.2.1++[125,32,61,32]++nI_ n.2.1++[59,32],n.2.2)
def dK:Nat->RS->By->List PcR->List By->List Int->RS×By×List PcR
 |0,p,out,all,_,_=>(p,out,all)
 |k+1,p,out,all,names,nums=>
  if p.e==0 then
   let p:=aG p (nums.length:Nat) 4
   let v:=aZ p names nums
   let all:=all++v.2.2.1
   let out:=out++v.2.2.2.1
   if is_ v.2.2.2.2 4 [125]then(v.2.2.2.2,out,all)else dK k v.2.2.2.2 out all v.1 v.2.1
  else(p,out,all)
def iy(p:RS):RS:=
 let p:=aG p (p.aj.length:Nat) 4
 let p:=af p 2 [112,114,111,103,114,97,109]
 let w:=az p 2
 let p:=af w.2 4 [123]
 let x:=dK 6 p ([112,114,111,103,114,97,109,32]++w.1.s++[32,123,32]) [] [] []
 let p:=af x.1 4 [125]
 let n:=aI p p.aj
 let p:={ n.2.2 with aj:=n.1 }
 let p:={ p with procs:=p.procs++x.2.2.map (λq:PcR=>({ q with prog:=n.2.1 }:PcR)) }
 {p with out:=p.out++x.2.1++[125,32,61,32]++nI_ n.2.1++[59,10] }
def bQ(p:RS):RS:=
 if is_ p 2 [99,111,110,115,116]then fZ p
 else if is_ p 2 [112,114,111,103,114,97,109]then iy p
 else
  let k:=p.w.s
  if p.w.kind != 2||(k != [116,121,112,101,100,101,102]&&k != [101,110,117,109]&&k != [115,116,114,117,99,116]&&k != [117,110,105,111,110])then iQ p
  else
   let p:=aG p p.types 24
   let p:={ p with types:=p.types+1 }
   if k==[116,121,112,101,100,101,102]then iK p
   else if k==[101,110,117,109]then bZ p
   else if k==[115,116,114,117,99,116]then fC p
   else mQ p
def dH:Nat->RS->RS
 |0,p=>p
 |k+1,p=>if p.e==0&&p.w.kind != 0 then dH k (bQ p)else p
def bI:Nat->Nat->RS->RS
 |0,_,p=>p
 |k+1,i,p=>
  if(rowAt p.rows i).kind==14 then
   match nix (rowAt p.rows i).name p.names with
   |some j=>if(cO p.names j).what != 1 then aK p 7 (rowAt p.rows i).at_ else bI k (i+1) { p with rows:=p.rows.modify i λr=>{ r with of:=(cO p.names j).n } }
   |none=>aK p 7 (rowAt p.rows i).at_
  else bI k (i+1) p
def iL(p:RS):RS:=bI p.rows.length 0 p
def eu(rows:List eU)(r:Int):List Int:=
 let w:=rowAt rows r
 if w.kind==14||w.kind==9 then[w.of]
 else if w.kind==12 then w.parts
 else if w.kind==13 then w.parts++[w.els]
 else[]
def kX(seen:List Bool):List Int->List Bool
 |[]=>seen
 |x::r=>kX (if 0<=x then seen.set x.toNat true else seen) r
def jS(rows:List eU):Nat->Nat->List Bool->List Bool
 |0,_,seen=>seen
 |n+1,k,seen=>jS rows n (k+1) (if seen.getD k false then kX seen (eu rows (k:Nat))else seen)
def jK(rows:List eU):Nat->List Bool->List Bool
 |0,seen=>seen
 |n+1,seen=>jK rows n (jS rows rows.length 0 seen)
def gV(rows:List eU)(r:Int):Bool:=
 (jK rows rows.length (kX (List.replicate rows.length false) (eu rows r))).getD r.toNat false
def iM:Nat->Nat->RS->RS
 |0,_,p=>p
 |k+1,i,p=>
  if p.e==0 then
   let x:=cO p.names i
   iM k (i+1) (if x.what==1&&gV p.rows x.n then aK p 9 x.at_ else p)
  else p
def vJ(k:Int):eU:={ row0 with kind:=k }
def Lh:List eU:=[vJ 0,vJ 1,vJ 2,vJ 3,vJ 4]
def jT(t:By):RS:=⟨t,w00,Lh,[],[],[],0,0,0,0,[]⟩
def jq(t:By):RS:=
 let p:=dH 80 (aB (jT t))
 let p:=if p.e==0 then iL p else p
 iM p.names.length 0 p
end Go.M
namespace Go.M
structure Sb (p q:RS):Prop where
 txt:q.txt=p.txt
 rows:q.rows=p.rows
 names:q.names=p.names
 procs:q.procs=p.procs
 out:q.out=p.out
 consts:q.consts=p.consts
 types:q.types=p.types
 aj:q.aj=p.aj
theorem Sb.refl(p:RS):Sb p p:=⟨rfl,rfl,rfl,rfl,rfl,rfl,rfl,rfl⟩
theorem Sb.trans(h:Sb p q)(k:Sb q r):Sb p r:=⟨k.txt.trans h.txt,k.rows.trans h.rows,k.names.trans h.names,k.procs.trans h.procs,k.out.trans h.out,k.consts.trans h.consts,k.types.trans h.types,k.aj.trans h.aj⟩
theorem gm(p:RS)(e a:Int):Sb p (aK p e a):=by unfold aK;split<;>exact⟨rfl,rfl,rfl,rfl,rfl,rfl,rfl,rfl⟩
theorem sF(p:RS):Sb p (iQ p):=by unfold iQ;split<;>exact gm ..
theorem iC(p:RS):Sb p (aB p):=⟨rfl,rfl,rfl,rfl,rfl,rfl,rfl,rfl⟩
theorem CV(p:RS)(n m:Int):Sb p (aG p n m):=by
 unfold aG;have h1:Sb p (if(p.e==0&&p.w.kind==5)=true then iQ p else p):=by
  split
  .exact sF p
  .exact Sb.refl p
 generalize (if(p.e==0&&p.w.kind==5)=true then iQ p else p)=q at *;simp only;split
 .exact h1.trans (gm ..)
 .exact h1
theorem aT(p:RS)(k:Int)(s:By):Sb p (af p k s):=by unfold af;split;exact iC p;exact sF p
theorem uy(p:RS):Sb p (fD p).2:=by
 unfold fD;split
 .exact Sb.refl p
 .split
  .exact sF p
  .exact iC p
theorem lI(p:RS)(lo hi:Int):Sb p (ak p lo hi).2.2:=by
 unfold ak;split
 .exact Sb.refl p
 .split
  .exact sF p
  .exact gm ..
  .split
   .exact gm ..
   .exact iC p
theorem mX(p:RS)(f:Bool):Sb p (bC p f).2:=by
 unfold bC;split
 .exact((aT _ _ _).trans (lI _ _ _)).trans (aT _ _ _)
 .simp only;refine Sb.trans ?_ (aT _ _ _);split
  .exact aT _ _ _
  .exact(aT _ _ _).trans (lI _ _ _)
theorem oJ(p:RS)(l:List By)(a:Bool):Sb p (dS p l a).2:=by
 unfold dS;have h1:=uy p;generalize fD p=x at *;show Sb p (if x.2.e==0&&(if a then(nix x.1.s x.2.names).isSome else l.contains x.1.s)then aK x.2 6 x.1.at_ else x.2);generalize (x.2.e==0&&(if a then(nix x.1.s x.2.names).isSome else l.contains x.1.s))=b;split
 .exact h1.trans (gm ..)
 .exact h1
theorem ND:∀l:By,aY l<=l.length
 |[]=>Nat.le_refl _
 |c::r=>by
  have:=ND r;rw[aY];split<;>simp only[List.length_cons]<;>omega
theorem wr_len(t:By)(a:Nat):(wr (next t a)).s.length<=t.length:=by
 unfold next
 simp only;generalize a+skip (t.length+1) (t.drop a)=q;have hd:(t.drop q).length=t.length - q:=List.length_drop;cases hq:t.drop q with
 |nil=>exact Nat.zero_le _
 |cons c r=>
  rw[hq]at hd;simp only[List.length_cons]at hd;simp only[];split
  .split
   .exact Nat.zero_le _
   .simp only[wr,List.length_take,List.length_cons];omega
  .split
   .split
    .simp only[wr,List.length_take,List.length_cons];omega
    .split
     .exact Nat.zero_le _
     .simp only[wr,List.length_take,List.length_cons];omega
   .split
    .simp only[wr,List.length_cons,List.length_nil];omega
    .exact Nat.zero_le _
theorem X9(t:By)(a:Nat)(ha:a<=t.length):0<=(wr (next t a)).en/\(wr (next t a)).en<=(t.length:Int):=by
 have hs:=Cj _ (t.drop a) (Nat.le_refl _);have hs2:=Ci (t.length+1) (l:=t.drop a) (by rw[List.length_drop];omega);rw[List.length_drop]at hs;unfold next
 simp only;rw[hs2];have hq1:a+pJ (t.drop a)<=t.length:=omg;generalize a+pJ (t.drop a)=q at *;have hd:(t.drop q).length=t.length - q:=List.length_drop;cases hq:t.drop q with
 |nil=>simp only[wr];omega
 |cons c r=>
  rw[hq]at hd;have h1:=ND r;have h2:=ND (c::r);simp only[List.length_cons]at hd h2;simp only[];split
  .split
   .simp only[wr];omega
   .simp only[wr];omega
  .split
   .split
    .simp only[wr,List.length_take,List.length_cons];omega
    .split
     .simp only[wr];omega
     .simp only[wr,List.length_take,List.length_cons];omega
   .split
    .simp only[wr];omega
    .simp only[wr];omega
theorem wr_we(t:By)(a:Nat):(wr (next t a)).kind=5->(wr (next t a)).e≠0:=by
 unfold next
 simp only;split
 .intro h;cases h
 .split
  .split
   .intro _ h;cases h
   .intro h;cases h
  .split
   .split
    .intro h;cases h
    .split
     .intro _ h;cases h
     .intro h;cases h
   .split
    .intro h;cases h
    .intro _ h;cases h
structure Ok (p:RS):Prop where
 len:p.w.s.length<=p.txt.length
 en0:0<=p.w.en
 en1:p.w.en<=(p.txt.length:Int)
 we:p.w.kind=5->p.w.e≠0
theorem Di(h:Ok p):Ok (aB p):=⟨wr_len _ _,(X9 _ _ (by have:=h.en1;have:=h.en0;omega)).1,(X9 _ _ (by have:=h.en1;have:=h.en0;omega)).2,wr_we _ _⟩
theorem zU(h:Ok p)(e a:Int):Ok (aK p e a):=by
 unfold aK;split
 .exact⟨h.len,h.en0,h.en1,h.we⟩
 .exact h
theorem I7(h:Ok p):Ok (iQ p):=by unfold iQ;split<;>exact zU h ..
theorem abK(h:Ok p)(n m:Int):Ok (aG p n m):=by
 unfold aG;have h1:Ok (if(p.e==0&&p.w.kind==5)=true then iQ p else p):=by
  split
  .exact I7 h
  .exact h
 generalize (if(p.e==0&&p.w.kind==5)=true then iQ p else p)=q at *;simp only;split
 .exact zU h1 ..
 .exact h1
theorem zT(h:Ok p)(k:Int)(s:By):Ok (af p k s):=by unfold af;split;exact Di h;exact I7 h
theorem Vb(h:Ok p):Ok (fD p).2:=by
 unfold fD;split
 .exact h
 .split
  .exact I7 h
  .exact Di h
theorem I5(h:Ok p)(lo hi:Int):Ok (ak p lo hi).2.2:=by
 unfold ak;split
 .exact h
 .split
  .exact I7 h
  .exact zU h ..
  .split
   .exact zU h ..
   .exact Di h
theorem Zj(h:Ok p)(f:Bool):Ok (bC p f).2:=by
 unfold bC;split
 .exact zT (I5 (zT h ..) ..) ..
 .simp only;refine zT ?_ ..;split
  .exact zT h ..
  .exact I5 (zT h ..) ..
theorem abJ(h:Ok p)(l:List By)(a:Bool):Ok (dS p l a).2:=by
 unfold dS;have h1:=Vb h;generalize fD p=x at *;show Ok (if x.2.e==0&&(if a then(nix x.1.s x.2.names).isSome else l.contains x.1.s)then aK x.2 6 x.1.at_ else x.2);generalize (x.2.e==0&&(if a then(nix x.1.s x.2.names).isSome else l.contains x.1.s))=b;split
 .exact zU h1 ..
 .exact h1
theorem Hy(h:Ok p):(fD p).1.s.length<=p.txt.length:=by
 unfold fD;split
 .exact Nat.zero_le _
 .split
  .exact Nat.zero_le _
  .exact h.len
end Go.M
namespace Go.M
structure Sz (p:RS) (n:Nat):Prop where
 rows:p.rows.length<=n
 names:p.names.length<=n
 consts:0<=p.consts/\p.consts<=(n:Int)
 types:0<=p.types/\p.types<=(n:Int)
 aj:p.aj.length<=n
 procs:p.procs.length<=n
 out:p.out.length<=10000*n
 ok:Ok p
 tl:p.txt.length<=1200
theorem Sz.mono(h:Sz p n)(hm:n<=m):Sz p m:=by
 obtain⟨a,b,c,d,e,f,g,h,i⟩:=h;exact⟨omg,omg,omg,omg,omg,omg,omg,h,i⟩
theorem Sz.sb(h:Sz p n)(s:Sb p q)(ok:Ok q):Sz q n:=by
 obtain⟨a,b,c,d,e,f,g,_,i⟩:=h;exact⟨by rw[s.rows];exact a,by rw[s.names];exact b,by rw[s.consts];exact c,by rw[s.types];exact d,by rw[s.aj];exact e,by rw[s.procs];exact f,by rw[s.out];exact g,ok,by rw[s.txt];exact i⟩
theorem UW(h:Sz p n)(e a:Int):Sz (aK p e a) n:=h.sb (gm ..) (zU h.ok ..)
theorem YD(h:Sz p n):Sz (iQ p) n:=h.sb (sF _) (I7 h.ok)
theorem jJ(h:Sz p n):Sz (aB p) n:=h.sb (iC _) (Di h.ok)
theorem uw(h:Sz p n)(a b:Int):Sz (aG p a b) n:=h.sb (CV ..) (abK h.ok ..)
theorem dJ(h:Sz p n)(k:Int)(s:By):Sz (af p k s) n:=h.sb (aT ..) (zT h.ok ..)
theorem UR(h:Sz p n):Sz (fD p).2 n:=h.sb (uy _) (Vb h.ok)
theorem PH(h:Sz p n)(lo hi:Int):Sz (ak p lo hi).2.2 n:=h.sb (lI ..) (I5 h.ok ..)
theorem Il(h:Sz p n)(f:Bool):Sz (bC p f).2 n:=h.sb (mX ..) (Zj h.ok ..)
theorem Cc(h:Sz p n)(l:List By)(a:Bool):Sz (dS p l a).2 n:=h.sb (oJ ..) (abJ h.ok ..)
theorem yP(h:Ok p)(l:List By)(a:Bool):(dS p l a).1.s.length<=p.txt.length:=Hy h
theorem wJ(h:Sz p n)(r:eU):Sz (dh p r).2 (n+1):=by
 obtain⟨a,b,c,d,e,f,g,h,i⟩:=h;exact⟨by simp only[dh,List.length_append,List.length_cons,List.length_nil];omega,by show p.names.length<=_;omega,by show 0<=p.consts/\p.consts<=_;omega,by show 0<=p.types/\p.types<=_;omega,by show p.aj.length<=_;omega,by show p.procs.length<=_;omega,by show p.out.length<=_;omega,⟨h.len,h.en0,h.en1,h.we⟩,i⟩
theorem Io(h:Sz p n)(x:NmR):Sz { p with names:=p.names++[x] } (n+1):=by
 obtain⟨a,b,c,d,e,f,g,h,i⟩:=h;exact⟨by show p.rows.length<=_;omega,lng,by show 0<=p.consts/\p.consts<=_;omega,by show 0<=p.types/\p.types<=_;omega,by show p.aj.length<=_;omega,by show p.procs.length<=_;omega,by show p.out.length<=_;omega,⟨h.len,h.en0,h.en1,h.we⟩,i⟩
theorem pW(h:Sz p n)(what:Int):Sz (az p what).2 (n+1)/\(az p what).1.s.length<=p.txt.length:=by
 unfold az;have h1:=UR h;have h2:=Hy h.ok;generalize fD p=y at *;simp only;split
 .exact⟨h1.mono omg,h2⟩
 .split
  .exact⟨(UW h1 ..).mono omg,h2⟩
  .exact⟨Io h1 _,h2⟩
theorem UU(h:Sz p n):Sz (fO p).2.2 (n+1)/\(fO p).2.1.length<=p.txt.length+14:=by
 have hl:=h.ok.len;unfold fO;split
 .exact⟨h.mono omg,Nat.zero_le _⟩
 split
 .exact⟨wJ (jJ h) _,by simp only;omega⟩
 split
 .exact⟨(jJ h).mono omg,lng⟩
 split
 .exact⟨(jJ h).mono omg,lng⟩
 split
 .exact⟨(jJ h).mono omg,lng⟩
 split
 .simp only;split
  .exact⟨(jJ (jJ h)).mono omg,lng⟩
  .split
   .exact⟨(jJ (jJ h)).mono omg,lng⟩
   .exact⟨(jJ h).mono omg,lng⟩
 .exact⟨(YD h).mono omg,Nat.zero_le _⟩
theorem abh(h:Sz p n)(l:List By)(a:Bool)(hd:∀m:Int,-10000000000<m/\m<10000000000->(nI_ m).length<=11)(hb:∀q f,-10000000000<(bC q f).1/\(bC q f).1<10000000000):
  Sz (dD p l a).2.2.2.2 (n+2)/\(dD p l a).2.1.length<=p.txt.length+16/\(dD p l a).2.2.1.length<=13/\(dD p l a).2.2.2.1.s.length<=p.txt.length:=by
 have hl:=h.ok.len;unfold dD;simp only;split
 .have h1:=jJ h;have e1:(aB p).txt=p.txt:=rfl;generalize aB p=p1 at *;have h2:=Cc h1 l a;have h3:=yP h1.ok l a;rw[e1]at h3;generalize dS p1 l a=y at *;split
  .have h4:=Il h2 true;have h5:=hd _ (hb y.2 true);generalize bC y.2 true=m at *;exact⟨(wJ h4 _).mono omg,lng,lng,h3⟩
  .have h4:=Il h2 false;have h5:=hd _ (hb y.2 false);generalize bC y.2 false=m at *;exact⟨(wJ h4 _).mono omg,lng,lng,h3⟩
 .obtain⟨h1,h1l⟩:=UU h;have e1:(fO p).2.2.txt=p.txt:=by
   unfold fO;split
   .rfl
   split
   .rfl
   split
   .rfl
   split
   .rfl
   split
   .rfl
   split
   .simp only;split
    .rfl
    .split<;>rfl
   .exact(sF p).txt
  generalize fO p=k at *;split
  .have h2:=jJ h1;have e2:(aB k.2.2).txt=p.txt:=e1;generalize aB k.2.2=p2 at *;have h3:=Cc h2 l a;have h4:=yP h2.ok l a;rw[e2]at h4;generalize dS p2 l a=y at *;exact⟨wJ h3 _,lng,Nat.zero_le _,h4⟩
  .have h3:=Cc h1 l a;have h4:=yP h1.ok l a;rw[e1]at h4;generalize dS k.2.2 l a=y at *;generalize is_ y.2 4 [91]=fx at *;split
   .have h5:=Il h3 fx;have h6:=hd _ (hb y.2 fx);generalize bC y.2 fx=m at *;split
    .exact⟨wJ h5 _,lng,lng,h4⟩
    .exact⟨wJ h5 _,lng,lng,h4⟩
   .exact⟨h3.mono omg,lng,Nat.zero_le _,h4⟩
theorem Ik(h:Sz p n)(s:By)(r:Int):Sz (dI p s r) n:=by
 unfold dI;split
 .obtain⟨a,b,c,d,e,f,g,h,i⟩:=h;exact⟨a,by rw[List.length_modify];exact b,c,d,e,f,g,⟨h.len,h.en0,h.en1,h.we⟩,i⟩
 .exact h
theorem sz_kn(h:Sz p n)(s:By)(r:Int):Sz (kn_ p s r) n:=by
 unfold kn_;split
 .obtain⟨a,b,c,d,e,f,g,h,i⟩:=h;exact⟨a,by rw[List.length_modify];exact b,c,d,e,f,g,⟨h.len,h.en0,h.en1,h.we⟩,i⟩
 .exact h
theorem PK(h:Sz p n)(s:By)(r:Int):Sz (bG p s r) (n+1):=by
 unfold bG;have h:=sz_kn h s r;generalize kn_ p s r=q at *;obtain⟨a,b,c,d,e,f,g,h,i⟩:=h;exact⟨by show q.rows.length<=_;omega,by show q.names.length<=_;omega,by show 0<=q.consts+1/\q.consts+1<=_;omega,by show 0<=q.types/\q.types<=_;omega,by show q.aj.length<=_;omega,by show q.procs.length<=_;omega,by show q.out.length<=_;omega,⟨h.len,h.en0,h.en1,h.we⟩,i⟩
theorem ED(h:Sz p n)(hs:s.length<=p.out.length+10000*m):Sz { p with out:=s } (n+m):=by
 obtain⟨a,b,c,d,e,f,g,h,i⟩:=h;exact⟨by show p.rows.length<=_;omega,by show p.names.length<=_;omega,by show 0<=p.consts/\p.consts<=_;omega,by show 0<=p.types/\p.types<=_;omega,by show p.aj.length<=_;omega,by show p.procs.length<=_;omega,by show s.length<=_;omega,⟨h.len,h.en0,h.en1,h.we⟩,i⟩
end Go.M
namespace Go.M
structure Fs (p q:RS):Prop where
 h:p.e≠0->q.e=p.e/\q.at_=p.at_
theorem Fs.refl(p:RS):Fs p p:=⟨λ_=>⟨rfl,rfl⟩⟩
theorem Fs.trans(h:Fs p q)(k:Fs q r):Fs p r:=⟨λhe=>by
 obtain⟨a,b⟩:=h.h he;obtain⟨c,d⟩:=k.h (by rw[a];exact he)
 exact⟨c.trans a,d.trans b⟩⟩
theorem Fs.ne(h:Fs p q)(he:p.e≠0):q.e≠0:=by rw[(h.h he).1];exact he
theorem Fs.same(h:p.e=q.e)(k:p.at_=q.at_):Fs p q:=⟨λ_=>⟨h.symm,k.symm⟩⟩
theorem jf(p:RS)(e a:Int):Fs p (aK p e a):=by
 unfold aK;split
 .rename_i h;exact⟨λhe=>absurd (by simpa using h) he⟩
 .exact Fs.refl p
theorem BF(p:RS):Fs p (iQ p):=by unfold iQ;split<;>exact jf ..
theorem gu(p:RS):Fs p (aB p):=⟨λ_=>⟨rfl,rfl⟩⟩
theorem mG(p:RS)(n m:Int):Fs p (aG p n m):=by
 unfold aG;have h:Fs p (if p.e==0&&p.w.kind==5 then iQ p else p):=by split;exact BF p;exact Fs.refl p
 generalize (if p.e==0&&p.w.kind==5 then iQ p else p)=q at *;simp only;split
 .exact h.trans (jf ..)
 .exact h
theorem ay(p:RS)(k:Int)(s:By):Fs p (af p k s):=by unfold af;split;exact gu p;exact BF p
theorem uM(p:RS):Fs p (fD p).2:=by
 unfold fD;split
 .exact Fs.refl p
 .split
  .exact BF p
  .exact gu p
theorem fB(p:RS)(lo hi:Int):Fs p (ak p lo hi).2.2:=by
 unfold ak;split
 .exact Fs.refl p
 .split
  .exact BF p
  .exact jf ..
  .split
   .exact jf ..
   .exact gu p
theorem vV(p:RS)(f:Bool):Fs p (bC p f).2:=by
 unfold bC;split
 .exact((ay p _ _).trans (fB _ _ _)).trans (ay _ _ _)
 .have h:=ay p 4 [60];generalize af p 4 [60]=q at *;simp only;refine h.trans (Fs.trans ?_ (ay _ _ _));split
  .exact Fs.refl q
  .exact fB ..
theorem DC(p:RS)(l:List By)(a:Bool):Fs p (dS p l a).2:=by
 unfold dS;have h:=uM p;generalize fD p=x at *;simp only;generalize (if a=true then(nix x.1.s x.2.names).isSome else l.contains x.1.s)=t;split
 .exact h.trans (jf ..)
 .exact h
theorem tJ(p:RS)(r:eU):Fs p (dh p r).2:=Fs.same rfl rfl
theorem ig(p:RS)(what:Int):Fs p (az p what).2:=by
 unfold az;have h:=uM p;generalize fD p=x at *;simp only;split
 .exact h
 .split
  .exact h.trans (jf ..)
  .exact h.trans (Fs.same rfl rfl)
theorem Oq(p:RS):Fs p (fO p).2.2:=by
 unfold fO;split
 .exact Fs.refl p
 split
 .exact(gu p).trans (tJ _ _)
 split
 .exact gu p
 split
 .exact gu p
 split
 .exact gu p
 split
 .simp only;split
  .exact(gu p).trans (gu _)
  .simp only;split
   .exact(gu p).trans (gu _)
   .exact gu p
 .exact BF p
theorem xF(p:RS)(l:List By)(a:Bool):Fs p (dD p l a).2.2.2.2:=by
 unfold dD;simp only;split
 .have h:=(gu p).trans (DC (aB p) l a);generalize dS (aB p) l a=x at *;split
  .exact(h.trans (vV ..)).trans (tJ ..)
  .exact(h.trans (vV ..)).trans (tJ ..)
 .have hk:=Oq p;generalize fO p=k at *;split
  .exact((hk.trans (gu _)).trans (DC ..)).trans (tJ ..)
  .have h:=hk.trans (DC k.2.2 l a);generalize dS k.2.2 l a=x at *;split
   .split
    .exact(h.trans (vV ..)).trans (tJ ..)
    .exact(h.trans (vV ..)).trans (tJ ..)
   .exact h
theorem fs_kn(p:RS)(s:By)(n:Int):Fs p (kn_ p s n):=by unfold kn_;split;exact Fs.same rfl rfl;exact Fs.refl p
theorem Rh(p:RS)(s:By)(n:Int):Fs p (bG p s n):=(fs_kn p s n).trans (Fs.same rfl rfl)
theorem Jz(p:RS)(s:By)(n:Int):Fs p (dI p s n):=by unfold dI;split;exact Fs.same rfl rfl;exact Fs.refl p
theorem Ri(p:RS):Fs p (fZ p):=by
 unfold fZ;have h:=(mG p p.consts 40).trans (ay (aG p p.consts 40) 2 [99,111,110,115,116]);simp only;generalize af (aG p p.consts 40) 2 [99,111,110,115,116]=q at *;have h:=h.trans (ig q 2);generalize az q 2=d at *;have h:=(h.trans (ay d.2 4 [61])).trans (fB _ (-2147483648) 4294967295);generalize ak (af d.2 4 [61]) (-2147483648) 4294967295=v at *;have h:=h.trans (ay v.2.2 4 [59]);generalize af v.2.2 4 [59]=q at *;split
 .exact h
 .exact h.trans ((Rh ..).trans (Fs.same rfl rfl))
theorem BD(p:RS):Fs p (iK p):=by
 unfold iK;simp only;have h:=(ay p 2 [116,121,112,101,100,101,102]).trans (xF _ [] true);generalize dD (af p 2 [116,121,112,101,100,101,102]) [] true=d at *;split
 .exact h
 .have h:Fs p { d.2.2.2.2 with names:=d.2.2.2.2.names++[⟨d.2.2.2.1.s,1,d.1,d.2.2.2.1.at_⟩] }:=h.trans (Fs.same rfl rfl);exact(h.trans (ay _ 4 [59])).trans (Fs.same rfl rfl)
def Ru:RS ⊕ (RS×By×List Int)->RS
 |.inl p=>p
 |.inr (p,_,_)=>p
theorem zf:∀(k:Nat) (p:RS) (out:By) (nums:List Int),Fs p (Ru (cu k p out nums))
 |0,p,out,nums=>Fs.refl p
 |k+1,p,out,nums=>by
  unfold cu;split
  .have h:=(mG p (nums.length:Nat) 12).trans (mG _ (aG p (nums.length:Nat) 12).consts 40);simp only;generalize aG (aG p (nums.length:Nat) 12) (aG p (nums.length:Nat) 12).consts 40=q at *;have h:=h.trans (ig q 2);generalize az q 2=d at *;have h:=(h.trans (ay d.2 4 [61])).trans (fB _ (-2147483648) 2147483647);generalize ak (af d.2 4 [61]) (-2147483648) 2147483647=v at *;have h:Fs p (if v.2.2.e==0&&nums.contains v.1 then aK v.2.2 6 v.2.1 else v.2.2):=by
    split
    .exact h.trans (jf ..)
    .exact h
   generalize (if v.2.2.e==0&&nums.contains v.1 then aK v.2.2 6 v.2.1 else v.2.2)=q at *;split
   .exact h
   .have h:=h.trans (Rh q d.1.s v.1);split
    .exact(h.trans (gu _)).trans (zf k _ _ _)
    .exact h
  .exact Fs.refl p
theorem tK(p:RS):Fs p (bZ p):=by
 unfold bZ;simp only;have h:=((ay p 2 [101,110,117,109]).trans (ig _ 2)).trans (ay _ 4 [123]);generalize az (af p 2 [101,110,117,109]) 2=d at *;generalize af d.2 4 [123]=q at *;have h:=h.trans (zf 14 q ([101,110,117,109,32]++d.1.s++[32,123,32]) []);generalize cu 14 q ([101,110,117,109,32]++d.1.s++[32,123,32]) []=x at *;cases x with
 |inl q=>exact h
 |inr q=>
  obtain⟨q,out,nums⟩:=q;exact(h.trans (((ay ..).trans (ay ..)).trans (tJ ..))).trans ((Jz ..).trans (Fs.same rfl rfl))
theorem qG:∀(k:Nat) (p:RS) (out:By) (parts:List Int) (names:List By),Fs p (aO k p out parts names).1
 |0,p,out,parts,names=>Fs.refl p
 |k+1,p,out,parts,names=>by
  unfold aO;split
  .have h:=(mG p (parts.length:Nat) 12).trans (xF _ names false);simp only;generalize dD (aG p (parts.length:Nat) 12) names false=d at *;have h:=h.trans (ay d.2.2.2.2 4 [59]);generalize af d.2.2.2.2 4 [59]=q at *;split
   .exact h
   .exact h.trans (qG k _ _ _ _)
  .exact Fs.refl p
theorem xE(p:RS):Fs p (fC p):=by
 unfold fC;simp only;have h:=((ay p 2 [115,116,114,117,99,116]).trans (ig _ 2)).trans (ay _ 4 [123]);generalize az (af p 2 [115,116,114,117,99,116]) 2=d at *;generalize af d.2 4 [123]=q at *;have h:=h.trans (qG 14 q ([115,116,114,117,99,116,32]++d.1.s++[32,123,32]) [] []);generalize aO 14 q ([115,116,114,117,99,116,32]++d.1.s++[32,123,32]) [] []=x at *;exact(h.trans (((ay ..).trans (ay ..)).trans (tJ ..))).trans ((Jz ..).trans (Fs.same rfl rfl))
theorem vU(p:RS):Fs p (dP p).2.2:=by
 unfold dP;simp only;split
 .split
  .split
   .exact jf ..
   .exact gu p
  .exact jf ..
 split
 .exact BF p
 split
 .exact gu p
 split
 .exact gu p
 .simp only;split
  .exact(gu p).trans (gu _)
  .exact gu p
theorem Ot(p:RS)(names:List By):Fs p (jc p names).2.2.2:=by
 unfold jc;split
 .exact(gu p).trans (ay ..)
 .exact(xF ..).trans (ay ..)
theorem xG(of:Int):∀(k:Nat) (p:RS) (nums:List Int) (out:By),Fs p (bz of k p nums out).2.2
 |0,p,nums,out=>Fs.refl p
 |k+1,p,nums,out=>by
  unfold bz;split
  .have h:=(mG p (nums.length:Nat) 12).trans (ay _ 2 [99,97,115,101]);simp only;generalize af (aG p (nums.length:Nat) 12) 2 [99,97,115,101]=q at *;have h:=h.trans (fB q (if of==1||of==4 then 0 else -2147483648) (if of==1 then 4294967295 else if of==4 then 1 else 2147483647));generalize ak q (if of==1||of==4 then 0 else -2147483648) (if of==1 then 4294967295 else if of==4 then 1 else 2147483647)=v at *;have h:Fs p (if v.2.2.e==0&&decide (of>4)&&!((rowAt v.2.2.rows of).nums.contains v.1)then aK v.2.2 8 v.2.1 else v.2.2):=by
    split
    .exact h.trans (jf ..)
    .exact h
   generalize (if v.2.2.e==0&&decide (of>4)&&!((rowAt v.2.2.rows of).nums.contains v.1)then aK v.2.2 8 v.2.1 else v.2.2)=q at *;have h:Fs p (if q.e==0&&nums.contains v.1 then aK q 6 v.2.1 else q):=by
    split
    .exact h.trans (jf ..)
    .exact h
   generalize (if q.e==0&&nums.contains v.1 then aK q 6 v.2.1 else q)=q at *;have h:=h.trans (ay q 4 [58]);split
   .exact h.trans (xG of k _ _ _)
   .exact h
  .exact Fs.refl p
theorem aah(p:RS)(of:Int)(nums:List Int):Fs p (gG p of nums).2.2:=xG ..
theorem xC(of:Int):∀(k:Nat) (p:RS) (nums parts:List Int) (names:List By) (out:By),Fs p (aQ of k p nums parts names out).2.2.2.2
 |0,p,nums,parts,names,out=>Fs.refl p
 |k+1,p,nums,parts,names,out=>by
  unfold aQ;split
  .have h:=(aah p of nums).trans (Ot _ names);simp only;generalize gG p of nums=c at *;generalize jc c.2.2 names=a at *;split
   .exact h.trans (xC of k _ _ _ _ _)
   .exact h
  .exact Fs.refl p
theorem Jy(p:RS):Fs p (mQ p):=by
 unfold mQ;simp only;have h:=(((ay p 2 [117,110,105,111,110]).trans (ig _ 2)).trans (ay _ 2 [115,119,105,116,99,104])).trans (ay _ 4 [40]);generalize az (af p 2 [117,110,105,111,110]) 2=w at *;generalize af (af w.2 2 [115,119,105,116,99,104]) 4 [40]=q at *;have h:=((h.trans (vU q)).trans (uM _)).trans ((ay _ 4 [41]).trans (ay _ 4 [123]));generalize dP q=d at *;generalize fD d.2.2=m at *;generalize af (af m.2 4 [41]) 4 [123]=q at *;have h:=h.trans (xC d.1 14 q [] [] [m.1.s] ([117,110,105,111,110,32]++w.1.s++[32,115,119,105,116,99,104,32,40]++d.2.1++[32]++m.1.s++[41,32,123,32]));generalize aQ d.1 14 q [] [] [m.1.s] ([117,110,105,111,110,32]++w.1.s++[32,115,119,105,116,99,104,32,40]++d.2.1++[32]++m.1.s++[41,32,123,32])=x at *;have h:Fs p (if is_ x.2.2.2.2 2 [100,101,102,97,117,108,116]then(let a:=jc (af (aB x.2.2.2.2) 4 [58]) x.2.2.1;(a.1,x.2.2.2.1++([100,101,102,97,117,108,116,58,32]++a.2.1),a.2.2.2))else(-2,x.2.2.2.1,x.2.2.2.2):Int×By×RS).2.2:=by
  split
  .exact h.trans (((gu _).trans (ay ..)).trans (Ot ..))
  .exact h
 simp only at h;generalize (if is_ x.2.2.2.2 2 [100,101,102,97,117,108,116]then(let a:=jc (af (aB x.2.2.2.2) 4 [58]) x.2.2.1;(a.1,x.2.2.2.1++([100,101,102,97,117,108,116,58,32]++a.2.1),a.2.2.2))else(-2,x.2.2.2.1,x.2.2.2.2):Int×By×RS)=y at *;exact(h.trans (((ay ..).trans (ay ..)).trans (tJ ..))).trans ((Jz ..).trans (Fs.same rfl rfl))
theorem oZ(p:RS):Fs p (fV p).2.2:=by unfold fV;split;exact gu p;exact Oq p
theorem zg(p:RS)(l:List By):Fs p (dO p l).2.2:=DC ..
theorem gQ(p:RS)(nums:List Int):Fs p (aI p nums).2.2:=by
 unfold aI;simp only;have h:=(ay p 4 [61]).trans (fB _ 0 4294967295);generalize ak (af p 4 [61]) 0 4294967295=v at *;refine Fs.trans ?_ (ay ..);split
 .exact h.trans (jf ..)
 .exact h
theorem uN:∀(k:Nat) (p:RS) (out:By) (l:List PcR) (words:List By) (ns:List Int),Fs p (dw k p out l words ns).1
 |0,p,out,l,words,ns=>Fs.refl p
 |k+1,p,out,l,words,ns=>by
  unfold dw;split
  .have h:=(mG p (l.length:Nat) 8).trans (oZ _);simp only;generalize fV (aG p (l.length:Nat) 8)=r at *;have h:=(h.trans (zg r.2.2 words)).trans (ay _ 4 [40]);generalize dO r.2.2 words=m at *;have h:=(h.trans (oZ _)).trans (ay _ 4 [41]);generalize fV (af m.2.2 4 [40])=a at *;have h:=h.trans (gQ _ ns);generalize aI (af a.2.2 4 [41]) ns=n at *;split
   .exact h
   .exact h.trans (uN k _ _ _ _ _)
  .exact Fs.refl p
theorem xB(p:RS)(names:List By)(nums:List Int):Fs p (aZ p names nums).2.2.2.2:=by
 unfold aZ;simp only;have h:=((ay p 2 [118,101,114,115,105,111,110]).trans (zg _ names)).trans (ay _ 4 [123]);generalize dO (af p 2 [118,101,114,115,105,111,110]) names=w at *;have h:=h.trans (uN 10 _ ([118,101,114,115,105,111,110,32]++w.2.1.s++[32,123,32]) [] [] []);generalize dw 10 (af w.2.2 4 [123]) ([118,101,114,115,105,111,110,32]++w.2.1.s++[32,123,32]) [] [] []=x at *;exact(h.trans (ay ..)).trans (gQ ..)
theorem qP:∀(k:Nat) (p:RS) (out:By) (all:List PcR) (names:List By) (nums:List Int),Fs p (dK k p out all names nums).1
 |0,p,out,all,names,nums=>Fs.refl p
 |k+1,p,out,all,names,nums=>by
  unfold dK;split
  .have h:=(mG p (nums.length:Nat) 4).trans (xB _ names nums);simp only;generalize aZ (aG p (nums.length:Nat) 4) names nums=v at *;split
   .exact h
   .exact h.trans (qP k _ _ _ _ _)
  .exact Fs.refl p
theorem Ui(p:RS):Fs p (iy p):=by
 unfold iy;simp only;have h:=((mG p (p.aj.length:Nat) 4).trans (ay _ 2 [112,114,111,103,114,97,109])).trans ((ig _ 2).trans (ay _ 4 [123]));generalize az (af (aG p (p.aj.length:Nat) 4) 2 [112,114,111,103,114,97,109]) 2=w at *;have h:=h.trans (qP 6 _ ([112,114,111,103,114,97,109,32]++w.1.s++[32,123,32]) [] [] []);generalize dK 6 (af w.2 4 [123]) ([112,114,111,103,114,97,109,32]++w.1.s++[32,123,32]) [] [] []=x at *;exact((h.trans (ay _ 4 [125])).trans (gQ _ (af x.1 4 [125]).aj)).trans (Fs.same rfl rfl)
theorem Ku(p:RS):Fs p (bQ p):=by
 unfold bQ;split
 .exact Ri p
 split
 .exact Ui p
 simp only;split
 .exact BF p
 .have h:Fs p { aG p p.types 24 with types:=(aG p p.types 24).types+1 }:=(mG p p.types 24).trans (Fs.same rfl rfl);generalize ({ aG p p.types 24 with types:=(aG p p.types 24).types+1 }:RS)=q at *;split
  .exact h.trans (BD q)
  split
  .exact h.trans (tK q)
  split
  .exact h.trans (xE q)
  .exact h.trans (Jy q)
theorem tH(p:RS)(h:m<=n):(aG p n m).e≠0:=by
 unfold aG;generalize (if p.e==0&&p.w.kind==5 then iQ p else p)=q;simp only
 by_cases hq:q.e=0
 .rw[if_pos (by simp[hq,h])];unfold aK;rw[if_pos (by simp[hq])];simp
 .rw[if_neg (by simp[hq])];exact hq
end Go.M
namespace Go.M
theorem mem_modify:∀{l:List α} {k:Nat},y∈l.modify k f->y∈l\/∃x∈l,y=f x
 |[],k,h=>by simp at h
 |a::l,0,h=>by
  rw[List.modify_zero_cons]at h;rcases List.mem_cons.mp h with rfl|h
  .exact Or.inr ⟨a,List.mem_cons_self ..,rfl⟩
  .exact Or.inl (List.mem_cons_of_mem _ h)
 |a::l,k+1,h=>by
  rw[List.modify_succ_cons]at h;rcases List.mem_cons.mp h with rfl|h
  .exact Or.inl (List.mem_cons_self ..)
  .rcases mem_modify h with h|⟨x,hx,rfl⟩
   .exact Or.inl (List.mem_cons_of_mem _ h)
   .exact Or.inr ⟨x,List.mem_cons_of_mem _ hx,rfl⟩
def Rg(p:RS)(n:Int):Prop:=0<=n/\n<(p.rows.length:Int)
structure x9 (m:Int) (r:eU):Prop where
 of:r.of<m
 els:r.els<m
 parts:∀x∈r.parts,x<m
 few:r.nums.length<=1000/\r.parts.length<=1000
structure Nv (p:RS):Prop where
 five:5<=p.rows.length
 names:∀x∈p.names,x.what=1->Rg p x.n
 rows:∀r∈p.rows,x9 (p.rows.length:Int) r
structure NvG (p q:RS):Prop where
 nv:Nv q
 le:p.rows.length<=q.rows.length
theorem NvG.refl(h:Nv p):NvG p p:=⟨h,Nat.le_refl _⟩
theorem NvG.trans(h:NvG p q)(k:NvG q r):NvG p r:=⟨k.nv,Nat.le_trans h.le k.le⟩
theorem Nv.sb(h:Nv p)(s:Sb p q):NvG p q:=by
 refine⟨⟨by rw[s.rows];exact h.five,λx hx hw=>?_,λr hr=>?_⟩,by rw[s.rows];exact Nat.le_refl _⟩
 .rw[s.names]at hx;unfold Rg;rw[s.rows];exact h.names x hx hw
 .rw[s.rows]at hr ⊢;exact h.rows r hr
theorem Nv.same(h:Nv p)(hr:q.rows=p.rows)(hn:q.names=p.names):NvG p q:=by
 refine⟨⟨by rw[hr];exact h.five,λx hx hw=>?_,λr hx=>?_⟩,by rw[hr];exact Nat.le_refl _⟩
 .rw[hn]at hx;unfold Rg;rw[hr];exact h.names x hx hw
 .rw[hr]at hx ⊢;exact h.rows r hx
theorem Rg.nw(h:Rg p n)(k:NvG p q):Rg q n:=⟨h.1,by have:=h.2;have:=k.le;omega⟩
theorem Nv.zero(h:Nv p):Rg p 0:=⟨omg,by have:=h.five;omega⟩
theorem x9.le(h:x9 m r)(k:m<=n):x9 n r:=⟨by have:=h.of;omega,by have:=h.els;omega,λx hx=>by have:=h.parts x hx;omega,h.few⟩
theorem jr(h:Nv p):NvG p (aB p):=h.sb (iC p)
theorem Je(h:Nv p):NvG p (iQ p):=h.sb (sF p)
theorem uF(h:Nv p)(e a:Int):NvG p (aK p e a):=h.sb (gm p e a)
theorem rG(h:Nv p)(a b:Int):NvG p (aG p a b):=h.sb (CV p a b)
theorem aU(h:Nv p)(k:Int)(s:By):NvG p (af p k s):=h.sb (aT p k s)
theorem GY(h:Nv p):NvG p (fD p).2:=h.sb (uy p)
theorem Qm(h:Nv p)(a b:Int):NvG p (ak p a b).2.2:=h.sb (lI p a b)
theorem sK(h:Nv p)(f:Bool):NvG p (bC p f).2:=h.sb (mX p f)
theorem xh(h:Nv p)(l:List By)(f:Bool):NvG p (dS p l f).2:=h.sb (oJ p l f)
theorem Jc(h:Nv p)(hr:x9 ((p.rows.length:Int)+1) r):NvG p (dh p r).2/\Rg (dh p r).2 (dh p r).1:=by
 have e:((dh p r).2.rows.length:Int)=(p.rows.length:Int)+1:=by simp[dh]
 refine⟨⟨⟨by have:=h.five;simp only[dh,List.length_append];omega,λx hx hw=>⟨(h.names x hx hw).1,by have:=(h.names x hx hw).2;omega⟩,λx hx=>?_⟩,omg⟩,⟨by simp only[dh];omega,by rw[e];simp only[dh];omega⟩⟩;rw[e];rcases List.mem_append.mp (show x∈p.rows++[r]from hx)with hx|hx
 .exact(h.rows x hx).le omg
 .obtain rfl:=List.mem_singleton.mp hx;exact hr
theorem NI(h:Nv p)(k n:Int)(l:List Int)(s:By)(a:Int)(ho:of<(p.rows.length:Int)+1)(hl:l.length<=1000:=by exact Nat.zero_le _):x9 ((p.rows.length:Int)+1) ⟨k,n,of,l,[],0,s,a⟩:=
 ⟨ho,by have:=h.five;show (0:Int)<_;omega,(λx hx=>by cases hx),hl,Nat.zero_le _⟩
theorem Jg(h:Nv p)(hx:x.what=1->Rg p x.n):NvG p { p with names:=p.names++[x] }:=by
 refine⟨⟨h.five,λy hy hw=>?_,h.rows⟩,Nat.le_refl _⟩;rcases List.mem_append.mp (show y∈p.names++[x]from hy)with hy|hy
 .exact h.names y hy hw
 .obtain rfl:=List.mem_singleton.mp hy;exact hx hw
theorem jF(h:Nv p):NvG p (az p 2).2:=by
 unfold az;have h1:=GY h;generalize fD p=y at *;simp only;split
 .exact h1
 .split
  .exact h1.trans (uF h1.nv ..)
  .exact h1.trans (Jg h1.nv (λe=>by cases e))
theorem GZ(h:Nv p):NvG p (fO p).2.2/\Rg (fO p).2.2 (fO p).1:=by
 have h5:=h.five;unfold fO;split
 .exact⟨NvG.refl h,h.zero⟩
 have hn:=jr h;have hn5:=hn.nv.five;split
 .have:=Jc hn.nv (r:={ row0 with kind:=14,name:=p.w.s,at_:=p.w.at_,of := -1 }) (NI hn.nv _ _ _ _ _ omg);exact⟨hn.trans this.1,this.2⟩
 split
 .exact⟨hn,hn.nv.zero⟩
 split
 .exact⟨hn,by simp only;omega,by simp only;omega⟩
 split
 .exact⟨hn,by simp only;omega,by simp only;omega⟩
 split
 .simp only;have hnn:=jr hn.nv;have hnn5:=hnn.nv.five;split
  .exact⟨hn.trans hnn,by simp only;omega,by simp only;omega⟩
  .simp only;split
   .exact⟨hn.trans hnn,omg,omg⟩
   .exact⟨hn,omg,omg⟩
 .exact⟨Je h,(Je h).nv.zero⟩
theorem G6(h:Nv p)(l:List By)(a:Bool):NvG p (dD p l a).2.2.2.2/\Rg (dD p l a).2.2.2.2 (dD p l a).1:=by
 unfold dD;simp only;have rw':∀{q:RS} (k n:Int) {of:Int},NvG p q->of<(q.rows.length:Int)->NvG p (dh q { row0 with kind:=k,n:=n,of:=of }).2/\Rg (dh q { row0 with kind:=k,n:=n,of:=of }).2 (dh q { row0 with kind:=k,n:=n,of:=of }).1:=λk n of hq ho=>by
  have:=Jc hq.nv (NI hq.nv k n [] [] 0 omg (of:=of));exact⟨hq.trans this.1,this.2⟩
 split
 .have h1:=jr h;have h1:=h1.trans (xh h1.nv l a);generalize dS (aB p) l a=x at *;split
  .have h2:=h1.trans (sK h1.nv true);exact rw' _ _ h2 (by have:=h2.nv.five;show (0:Int)<_;omega)
  .have h2:=h1.trans (sK h1.nv false);exact rw' _ _ h2 (by have:=h2.nv.five;show (0:Int)<_;omega)
 .obtain⟨hk,rk⟩:=GZ h;generalize fO p=k at *;split
  .have h1:=hk.trans (jr hk.nv);have r1:=rk.nw (jr hk.nv);have h2:=xh h1.nv l a;exact rw' _ _ (h1.trans h2) (r1.nw h2).2
  .have h2:=xh hk.nv l a;have r2:=rk.nw h2;have h2:=hk.trans h2;generalize dS k.2.2 l a=x at *;split
   .have h3:=λf=>sK h2.nv f;have r3:=λf=>r2.nw (h3 f);split
    .exact rw' _ _ (h2.trans (h3 _)) (r3 _).2
    .exact rw' _ _ (h2.trans (h3 _)) (r3 _).2
   .exact⟨h2,r2⟩
theorem nw_kn(h:Nv p)(s:By)(n:Int):NvG p (kn_ p s n):=by
 unfold kn_;split
 .refine⟨⟨h.five,λy hy hw=>?_,h.rows⟩,Nat.le_refl _⟩;rcases mem_modify hy with hy|⟨x,_,rfl⟩
  .exact h.names y hy hw
  .cases hw
 .exact NvG.refl h
theorem Qn(h:Nv p)(s:By)(n:Int):NvG p (bG p s n):=(nw_kn h s n).trans ((nw_kn h s n).nv.same rfl rfl)
theorem Jb(h:Nv p)(s:By)(hn:Rg p n):NvG p (dI p s n):=by
 unfold dI;split
 .refine⟨⟨h.five,λy hy hw=>?_,h.rows⟩,Nat.le_refl _⟩;rcases mem_modify hy with hy|⟨x,_,rfl⟩
  .exact h.names y hy hw
  .exact hn
 .exact NvG.refl h
theorem Qo(h:Nv p):NvG p (fZ p):=by
 unfold fZ;have h:=rG h p.consts 40;have h:=h.trans (aU h.nv 2 [99,111,110,115,116]);simp only;generalize af (aG p p.consts 40) 2 [99,111,110,115,116]=q at *;have h:=h.trans (jF h.nv);generalize az q 2=d at *;have h:=h.trans (aU h.nv 4 [61]);have h:=h.trans (Qm h.nv (-2147483648) 4294967295);generalize ak (af d.2 4 [61]) (-2147483648) 4294967295=v at *;have h:=h.trans (aU h.nv 4 [59]);generalize af v.2.2 4 [59]=q at *;split
 .exact h
 .have h:=h.trans (Qn h.nv d.1.s v.1);exact h.trans (h.nv.same rfl rfl)
theorem TT(h:Nv p):NvG p (iK p):=by
 unfold iK;simp only;have h:=aU h 2 [116,121,112,101,100,101,102];obtain⟨h1,r1⟩:=G6 h.nv [] true;have h:=h.trans h1;generalize dD (af p 2 [116,121,112,101,100,101,102]) [] true=d at *;split
 .exact h
 .have h:=h.trans (Jg h.nv (x:=⟨d.2.2.2.1.s,1,d.1,d.2.2.2.1.at_⟩) λ_=>r1);have h:=h.trans (aU h.nv 4 [59]);exact h.trans (h.nv.same rfl rfl)
theorem FW:∀(k:Nat) {p:RS} (h:Nv p) (out:By) (nums:List Int),NvG p (Ru (cu k p out nums))
 |0,p,h,out,nums=>NvG.refl h
 |k+1,p,h0,out,nums=>by
  unfold cu;split
  .have h:=rG h0 (nums.length:Nat) 12;have h:=h.trans (rG h.nv (aG p (nums.length:Nat) 12).consts 40);simp only;generalize aG (aG p (nums.length:Nat) 12) (aG p (nums.length:Nat) 12).consts 40=q at *;have h:=h.trans (jF h.nv);generalize az q 2=d at *;have h:=h.trans (aU h.nv 4 [61]);have h:=h.trans (Qm h.nv (-2147483648) 2147483647);generalize ak (af d.2 4 [61]) (-2147483648) 2147483647=v at *;have h:NvG p (if v.2.2.e==0&&nums.contains v.1 then aK v.2.2 6 v.2.1 else v.2.2):=by
    split
    .exact h.trans (uF h.nv _ _)
    .exact h
   generalize (if v.2.2.e==0&&nums.contains v.1 then aK v.2.2 6 v.2.1 else v.2.2)=q at *;split
   .exact h
   .have h:=h.trans (Qn h.nv d.1.s v.1);split
    .have h:=h.trans (jr h.nv);exact h.trans (FW k h.nv _ _)
    .exact h
  .exact NvG.refl h0
theorem DR:∀(k:Nat) (p:RS) (out:By) (nums:List Int) {q:RS} {o:By} {l:List Int},cu k p out nums=.inr (q,o,l)->l.length<=nums.length+k
 |0,p,out,nums,q,o,l,h=>by
  unfold cu at h;cases h;omega
 |k+1,p,out,nums,q,o,l,h=>by
  unfold cu at h;split at h
  .simp only at h;generalize aG (aG p (nums.length:Nat) 12) (aG p (nums.length:Nat) 12).consts 40=q1 at *;generalize az q1 2=d at *;generalize ak (af d.2 4 [61]) (-2147483648) 2147483647=v at *;generalize (if v.2.2.e==0&&nums.contains v.1 then aK v.2.2 6 v.2.1 else v.2.2)=q2 at *;split at h
   .cases h
   .split at h
    .have:=DR k _ _ _ h;simp only[List.length_append,List.length_cons,List.length_nil]at this;omega
    .cases h;exact lng
  .cases h;omega
theorem yF:∀(k:Nat) (p:RS) (out:By) (parts:List Int) (names:List By),(aO k p out parts names).2.2.length<=parts.length+k
 |0,p,out,parts,names=>Nat.le_refl _
 |k+1,p,out,parts,names=>by
  unfold aO;split
  .simp only;split
   .exact lng
   .refine Nat.le_trans (yF k _ _ _ _) ?_;exact lng
  .simp only;omega
theorem vz(of:Int):∀(k:Nat) (p:RS) (nums:List Int) (out:By),(bz of k p nums out).1.length<=nums.length+k
 |0,p,nums,out=>Nat.le_refl _
 |k+1,p,nums,out=>by
  unfold bz;split
  .simp only;generalize ak (af (aG p (nums.length:Nat) 12) 2 [99,97,115,101]) (if of==1||of==4 then 0 else -2147483648) (if of==1 then 4294967295 else if of==4 then 1 else 2147483647)=v;generalize (if v.2.2.e==0&&decide (of>4)&&!((rowAt v.2.2.rows of).nums.contains v.1)then aK v.2.2 8 v.2.1 else v.2.2)=q;generalize (if q.e==0&&nums.contains v.1 then aK q 6 v.2.1 else q)=q;split
   .refine Nat.le_trans (vz of k _ _ _) ?_;exact lng
   .exact lng
  .simp only;omega
theorem Ai(of:Int):∀(k:Nat) (p:RS) (nums parts:List Int) (names:List By) (out:By) {m:Nat},nums.length<=m->parts.length<=m->(aQ of k p nums parts names out).1.length<=m+14*k/\(aQ of k p nums parts names out).2.1.length<=m+14*k
 |0,p,nums,parts,names,out,m,h1,h2=>⟨h1,h2⟩
 |k+1,p,nums,parts,names,out,m,h1,h2=>by
  unfold aQ;split
  .have hc:(gG p of nums).1.length<=nums.length+14:=vz of 14 p nums [];simp only;generalize gG p of nums=c at *;generalize jc c.2.2 names=a at *;have hp:(parts++List.replicate (c.1.length - parts.length) a.1).length<=m+14:=by simp only[List.length_append,List.length_replicate];omega
   split
   .have:=Ai of k a.2.2.2 c.1 (parts++List.replicate (c.1.length - parts.length) a.1) a.2.2.1 (out++c.2.1++a.2.1) (m:=m+14) omg hp;omega
   .exact⟨by simp only;omega,by simp only;omega⟩
  .exact⟨by simp only;omega,by simp only;omega⟩
theorem Jd(h:Nv p):NvG p (bZ p):=by
 unfold bZ;simp only;have h:=aU h 2 [101,110,117,109];have h:=h.trans (jF h.nv);have h:=h.trans (aU h.nv 4 [123]);generalize az (af p 2 [101,110,117,109]) 2=d at *;generalize af d.2 4 [123]=q at *;have h:=h.trans (FW 14 h.nv ([101,110,117,109,32]++d.1.s++[32,123,32]) []);have hlen:=λq' o l=>DR 14 q ([101,110,117,109,32]++d.1.s++[32,123,32]) [] (q:=q') (o:=o) (l:=l);generalize cu 14 q ([101,110,117,109,32]++d.1.s++[32,123,32]) []=x at *;cases x with
 |inl q=>exact h
 |inr q=>
  obtain⟨q,out,nums⟩:=q;have h:NvG p q:=h;have h:=h.trans (aU h.nv 4 [125]);have h:=h.trans (aU h.nv 4 [59]);simp only;have hl:=hlen _ _ _ rfl;obtain⟨h1,r1⟩:=Jc h.nv (r:={ row0 with kind:=5,nums:=nums }) (NI h.nv _ _ _ _ _ (by have:=h.nv.five;show (0:Int)<_;omega) (by simp only[List.length_nil]at hl;omega));have h:=h.trans h1;have h:=h.trans (Jb h.nv d.1.s r1);exact h.trans (h.nv.same rfl rfl)
def Ps(p:RS)(l:List Int):Prop:=∀x∈l,x<(p.rows.length:Int)
theorem Ps.nil(p:RS):Ps p []:=λx h=>by cases h
theorem Ps.nw(h:Ps p l)(k:NvG p q):Ps q l:=λx hx=>by have:=h x hx;have:=k.le;omega
theorem Ps.app(h:Ps p l)(k:Ps p m):Ps p (l++m):=λx hx=>(List.mem_append.mp hx).elim (h x) (k x)
theorem Ps.rep(h:n<(p.rows.length:Int))(k:Nat):Ps p (List.replicate k n):=λx hx=>by rw[List.eq_of_mem_replicate hx];exact h
theorem vg:∀(k:Nat) {p:RS} (h:Nv p) (out:By) (parts:List Int) (names:List By),Ps p parts->NvG p (aO k p out parts names).1/\Ps (aO k p out parts names).1 (aO k p out parts names).2.2
 |0,p,h,out,parts,names,hp=>⟨NvG.refl h,hp⟩
 |k+1,p,h0,out,parts,names,hp=>by
  unfold aO;split
  .have h:=rG h0 (parts.length:Nat) 12;obtain⟨h1,r1⟩:=G6 h.nv names false;have h:=h.trans h1;simp only;generalize dD (aG p (parts.length:Nat) 12) names false=d at *;have h2:=aU h.nv 4 [59];have r1:=r1.nw h2;have h:=h.trans h2;generalize af d.2.2.2.2 4 [59]=q at *;have hp:Ps q (parts++[d.1]):=(hp.nw h).app (Ps.rep r1.2 1);split
   .exact⟨h,hp⟩
   .have:=vg k h.nv (out++d.2.1++d.2.2.2.1.s++d.2.2.1++[59,32]) (parts++[d.1]) (names++[d.2.2.2.1.s]) hp;exact⟨h.trans this.1,this.2⟩
  .exact⟨NvG.refl h0,hp⟩
theorem NY(h:Nv p):NvG p (fC p):=by
 unfold fC;simp only;have h:=aU h 2 [115,116,114,117,99,116];have h:=h.trans (jF h.nv);have h:=h.trans (aU h.nv 4 [123]);generalize az (af p 2 [115,116,114,117,99,116]) 2=d at *;generalize af d.2 4 [123]=q at *;obtain⟨h1,r1⟩:=vg 14 h.nv ([115,116,114,117,99,116,32]++d.1.s++[32,123,32]) [] [] (Ps.nil _);have hlen:=yF 14 q ([115,116,114,117,99,116,32]++d.1.s++[32,123,32]) [] [];have h:=h.trans h1;generalize aO 14 q ([115,116,114,117,99,116,32]++d.1.s++[32,123,32]) [] []=x at *;have h2:=aU h.nv 4 [125];have h3:=aU h2.nv 4 [59];have r3:=(r1.nw h2).nw h3;have h:=(h.trans h2).trans h3;obtain⟨h1,r1⟩:=Jc h.nv (r:={ row0 with kind:=12,parts:=x.2.2 }) ⟨by have:=h.nv.five;show (0:Int)<_;omega,by have:=h.nv.five;show (0:Int)<_;omega,λy hy=>by have:=r3 y hy;omega,Nat.zero_le _,by simp only[List.length_nil]at hlen;show x.2.2.length<=_;omega⟩;have h:=h.trans h1;have h:=h.trans (Jb h.nv d.1.s r1);exact h.trans (h.nv.same rfl rfl)
theorem yU(h:k<l.length):cO l k∈l:=by
 unfold cO;rw[List.getD_eq_getElem?_getD,List.getElem?_eq_getElem h];exact List.getElem_mem h
theorem mg:∀{l:List NmR} {k:Nat},nix s l=some k->k<l.length
 |[],k,h=>by cases h
 |x::l,k,h=>by
  rw[nix]at h;split at h
  .cases h;simp
  .rw[Option.map_eq_some_iff]at h;obtain⟨m,hm,rfl⟩:=h;have:=mg hm;simp only[List.length_cons];omega
theorem EO(h:Nv p):NvG p (dP p).2.2/\Rg (dP p).2.2 (dP p).1:=by
 unfold dP;simp only;have hn:=jr h;have h5:=hn.nv.five;split
 .split
  .rename_i k hk;split
   .exact⟨uF h ..,(uF h ..).nv.zero⟩
   .rename_i hc;simp only[Bool.or_eq_true,not_or,bne_iff_ne,ne_eq,Decidable.not_not]at hc;exact⟨hn,(h.names _ (yU (mg hk)) hc.1).nw hn⟩
  .exact⟨uF h ..,(uF h ..).nv.zero⟩
 split
 .exact⟨Je h,(Je h).nv.zero⟩
 split
 .exact⟨hn,hn.nv.zero⟩
 split
 .exact⟨hn,by simp only;omega,by simp only;omega⟩
 .simp only;have hnn:=jr hn.nv;have hnn5:=hnn.nv.five;split
  .exact⟨hn.trans hnn,omg,omg⟩
  .exact⟨hn,omg,omg⟩
theorem Jf(h:Nv p)(names:List By):NvG p (jc p names).2.2.2/\(jc p names).1<((jc p names).2.2.2.rows.length:Int):=by
 unfold jc;split
 .have h:=jr h;have h:=h.trans (aU h.nv 4 [59]);exact⟨h,by show (-1:Int)<_;omega⟩
 .obtain⟨h1,r1⟩:=G6 h names false;have h2:=aU h1.nv 4 [59];exact⟨h1.trans h2,(r1.nw h2).2⟩
theorem oK(of:Int):∀(k:Nat) (p:RS) (nums:List Int) (out:By),Sb p (bz of k p nums out).2.2
 |0,p,nums,out=>Sb.refl p
 |k+1,p,nums,out=>by
  unfold bz;split
  .have h:=(CV p (nums.length:Nat) 12).trans (aT _ 2 [99,97,115,101]);simp only;generalize af (aG p (nums.length:Nat) 12) 2 [99,97,115,101]=q at *;have h:=h.trans (lI q (if of==1||of==4 then 0 else -2147483648) (if of==1 then 4294967295 else if of==4 then 1 else 2147483647));generalize ak q (if of==1||of==4 then 0 else -2147483648) (if of==1 then 4294967295 else if of==4 then 1 else 2147483647)=v at *;have h:Sb p (if v.2.2.e==0&&decide (of>4)&&!((rowAt v.2.2.rows of).nums.contains v.1)then aK v.2.2 8 v.2.1 else v.2.2):=by
    split
    .exact h.trans (gm ..)
    .exact h
   generalize (if v.2.2.e==0&&decide (of>4)&&!((rowAt v.2.2.rows of).nums.contains v.1)then aK v.2.2 8 v.2.1 else v.2.2)=q at *;have h:Sb p (if q.e==0&&nums.contains v.1 then aK q 6 v.2.1 else q):=by
    split
    .exact h.trans (gm ..)
    .exact h
   generalize (if q.e==0&&nums.contains v.1 then aK q 6 v.2.1 else q)=q at *;have h:=h.trans (aT q 4 [58]);split
   .exact h.trans (oK of k _ _ _)
   .exact h
  .exact Sb.refl p
theorem Qp(h:Nv p)(of:Int)(nums:List Int):NvG p (gG p of nums).2.2:=h.sb (oK of 14 p nums [])
theorem xf(of:Int):∀(k:Nat) {p:RS} (h:Nv p) (nums parts:List Int) (names:List By) (out:By),Ps p parts->NvG p (aQ of k p nums parts names out).2.2.2.2/\Ps (aQ of k p nums parts names out).2.2.2.2 (aQ of k p nums parts names out).2.1
 |0,p,h,nums,parts,names,out,hp=>⟨NvG.refl h,hp⟩
 |k+1,p,h0,nums,parts,names,out,hp=>by
  unfold aQ;split
  .have h:=Qp h0 of nums;simp only;generalize gG p of nums=c at *;obtain⟨h1,r1⟩:=Jf h.nv names;have h:=h.trans h1;generalize jc c.2.2 names=a at *;have hp:Ps a.2.2.2 (parts++List.replicate (c.1.length - parts.length) a.1):=(hp.nw h).app (Ps.rep r1 _);split
   .have:=xf of k h.nv c.1 (parts++List.replicate (c.1.length - parts.length) a.1) a.2.2.1 (out++c.2.1++a.2.1) hp;exact⟨h.trans this.1,this.2⟩
   .exact⟨h,hp⟩
  .exact⟨NvG.refl h0,hp⟩
theorem Zl(h:Nv p):NvG p (mQ p):=by
 unfold mQ;simp only;have h:=aU h 2 [117,110,105,111,110];have h:=h.trans (jF h.nv);have h:=h.trans (aU h.nv 2 [115,119,105,116,99,104]);have h:=h.trans (aU h.nv 4 [40]);generalize az (af p 2 [117,110,105,111,110]) 2=w at *;generalize af (af w.2 2 [115,119,105,116,99,104]) 4 [40]=q at *;obtain⟨h1,rd⟩:=EO h.nv;have h:=h.trans h1;generalize dP q=d at *;have hw:=GY h.nv;generalize fD d.2.2=m at *;have hw:=hw.trans (aU hw.nv 4 [41]);have hw:=hw.trans (aU hw.nv 4 [123]);have rd:=rd.nw hw;have h:=h.trans hw;generalize af (af m.2 4 [41]) 4 [123]=q at *;obtain⟨h1,r1⟩:=xf d.1 14 h.nv [] [] [m.1.s] ([117,110,105,111,110,32]++w.1.s++[32,115,119,105,116,99,104,32,40]++d.2.1++[32]++m.1.s++[41,32,123,32]) (Ps.nil _);have h:=h.trans h1;have rd:=rd.nw h1;have hlen:=Ai d.1 14 q [] [] [m.1.s] ([117,110,105,111,110,32]++w.1.s++[32,115,119,105,116,99,104,32,40]++d.2.1++[32]++m.1.s++[41,32,123,32]) (m:=0) (Nat.le_refl _) (Nat.le_refl _);generalize aQ d.1 14 q [] [] [m.1.s] ([117,110,105,111,110,32]++w.1.s++[32,115,119,105,116,99,104,32,40]++d.2.1++[32]++m.1.s++[41,32,123,32])=x at *;have hy:NvG x.2.2.2.2 (if is_ x.2.2.2.2 2 [100,101,102,97,117,108,116]then(let a:=jc (af (aB x.2.2.2.2) 4 [58]) x.2.2.1;(a.1,x.2.2.2.1++([100,101,102,97,117,108,116,58,32]++a.2.1),a.2.2.2))else(-2,x.2.2.2.1,x.2.2.2.2):Int×By×RS).2.2/\(if is_ x.2.2.2.2 2 [100,101,102,97,117,108,116]then(let a:=jc (af (aB x.2.2.2.2) 4 [58]) x.2.2.1;(a.1,x.2.2.2.1++([100,101,102,97,117,108,116,58,32]++a.2.1),a.2.2.2))else(-2,x.2.2.2.1,x.2.2.2.2):Int×By×RS).1<((if is_ x.2.2.2.2 2 [100,101,102,97,117,108,116]then(let a:=jc (af (aB x.2.2.2.2) 4 [58]) x.2.2.1;(a.1,x.2.2.2.1++([100,101,102,97,117,108,116,58,32]++a.2.1),a.2.2.2))else(-2,x.2.2.2.1,x.2.2.2.2):Int×By×RS).2.2.rows.length:Int):=by
  split
  .have h1:=jr h.nv;have h1:=h1.trans (aU h1.nv 4 [58]);obtain⟨h2,r2⟩:=Jf h1.nv x.2.2.1;exact⟨h1.trans h2,r2⟩
  .exact⟨NvG.refl h.nv,by show (-2:Int)<_;omega⟩
 simp only at hy;generalize (if is_ x.2.2.2.2 2 [100,101,102,97,117,108,116]then(let a:=jc (af (aB x.2.2.2.2) 4 [58]) x.2.2.1;(a.1,x.2.2.2.1++([100,101,102,97,117,108,116,58,32]++a.2.1),a.2.2.2))else(-2,x.2.2.2.1,x.2.2.2.2):Int×By×RS)=y at *;obtain⟨hy,ry⟩:=hy;have h2:=aU hy.nv 4 [125];have h3:=h2.trans (aU h2.nv 4 [59]);have r1:=r1.nw (hy.trans h3);have rd:=rd.nw (hy.trans h3);have h:=h.trans (hy.trans h3);obtain⟨h1,r1⟩:=Jc h.nv (r:={ row0 with kind:=13,of:=d.1,nums:=x.1,parts:=x.2.1,els:=y.1 }) ⟨by have:=rd.2;show d.1<_;omega,by have:=h3.le;show y.1<_;omega,λz hz=>by have:=r1 z hz;omega,by show x.1.length<=_;omega,by show x.2.1.length<=_;omega⟩;have h:=h.trans h1;have h:=h.trans (Jb h.nv w.1.s r1);exact h.trans (h.nv.same rfl rfl)
theorem Vd(h:Nv p):NvG p (fV p).2.2:=by unfold fV;split;exact jr h;exact(GZ h).1
theorem Qq(h:Nv p)(l:List By):NvG p (dO p l).2.2:=xh h ..
theorem lJ(p:RS)(nums:List Int):Sb p (aI p nums).2.2:=by
 unfold aI;simp only;have h:=(aT p 4 [61]).trans (lI _ 0 4294967295);generalize ak (af p 4 [61]) 0 4294967295=v at *;refine Sb.trans ?_ (aT _ _ _);split
 .exact h.trans (gm ..)
 .exact h
theorem yT(h:Nv p)(nums:List Int):NvG p (aI p nums).2.2:=h.sb (lJ p nums)
theorem FV:∀(k:Nat) {p:RS} (h:Nv p) (out:By) (l:List PcR) (words:List By) (ns:List Int),NvG p (dw k p out l words ns).1
 |0,p,h,out,l,words,ns=>NvG.refl h
 |k+1,p,h0,out,l,words,ns=>by
  unfold dw;split
  .have h:=rG h0 (l.length:Nat) 8;have h:=h.trans (Vd h.nv);simp only;generalize fV (aG p (l.length:Nat) 8)=r at *;have h:=h.trans (Qq h.nv words);have h:=h.trans (aU h.nv 4 [40]);generalize dO r.2.2 words=m at *;have h:=h.trans (Vd h.nv);have h:=h.trans (aU h.nv 4 [41]);generalize fV (af m.2.2 4 [40])=a at *;have h:=h.trans (yT h.nv ns);generalize aI (af a.2.2 4 [41]) ns=n at *;split
   .exact h
   .exact h.trans (FV k h.nv _ _ _ _)
  .exact NvG.refl h0
theorem TS(h:Nv p)(names:List By)(nums:List Int):NvG p (aZ p names nums).2.2.2.2:=by
 unfold aZ;simp only;have h:=aU h 2 [118,101,114,115,105,111,110];have h:=h.trans (Qq h.nv names);have h:=h.trans (aU h.nv 4 [123]);generalize dO (af p 2 [118,101,114,115,105,111,110]) names=w at *;have h:=h.trans (FV 10 h.nv ([118,101,114,115,105,111,110,32]++w.2.1.s++[32,123,32]) [] [] []);generalize dw 10 (af w.2.2 4 [123]) ([118,101,114,115,105,111,110,32]++w.2.1.s++[32,123,32]) [] [] []=x at *;have h:=h.trans (aU h.nv 4 [125]);exact h.trans (yT h.nv nums)
theorem FU:∀(k:Nat) {p:RS} (h:Nv p) (out:By) (all:List PcR) (names:List By) (nums:List Int),NvG p (dK k p out all names nums).1
 |0,p,h,out,all,names,nums=>NvG.refl h
 |k+1,p,h0,out,all,names,nums=>by
  unfold dK;split
  .have h:=rG h0 (nums.length:Nat) 4;have h:=h.trans (TS h.nv names nums);simp only;generalize aZ (aG p (nums.length:Nat) 4) names nums=v at *;split
   .exact h
   .exact h.trans (FU k h.nv _ _ _ _)
  .exact NvG.refl h0
theorem TU(h:Nv p):NvG p (iy p):=by
 unfold iy;simp only;have h:=rG h (p.aj.length:Nat) 4;have h:=h.trans (aU h.nv 2 [112,114,111,103,114,97,109]);have h:=h.trans (jF h.nv);have h:=h.trans (aU h.nv 4 [123]);generalize az (af (aG p (p.aj.length:Nat) 4) 2 [112,114,111,103,114,97,109]) 2=w at *;have h:=h.trans (FU 6 h.nv ([112,114,111,103,114,97,109,32]++w.1.s++[32,123,32]) [] [] []);generalize dK 6 (af w.2 4 [123]) ([112,114,111,103,114,97,109,32]++w.1.s++[32,123,32]) [] [] []=x at *;have h:=h.trans (aU h.nv 4 [125]);have h:=h.trans (yT h.nv (af x.1 4 [125]).aj);exact h.trans (h.nv.same rfl rfl)
theorem Aw(h:Nv p):NvG p (bQ p):=by
 unfold bQ;split
 .exact Qo h
 split
 .exact TU h
 simp only;split
 .exact Je h
 .have h1:=rG h p.types 24;have h1:NvG p { aG p p.types 24 with types:=(aG p p.types 24).types+1 }:=h1.trans (h1.nv.same rfl rfl);generalize ({ aG p p.types 24 with types:=(aG p p.types 24).types+1 }:RS)=q at *;split
  .exact h1.trans (TT h1.nv)
  split
  .exact h1.trans (Jd h1.nv)
  split
  .exact h1.trans (NY h1.nv)
  .exact h1.trans (Zl h1.nv)
end Go.M
namespace Go.M
theorem EI(p:RS):Sb p (dP p).2.2:=by
 unfold dP;simp only;split
 .split
  .split
   .exact gm ..
   .exact iC p
  .exact gm ..
 split
 .exact sF p
 split
 .exact iC p
 split
 .exact iC p
 .simp only;split
  .exact(iC p).trans (iC _)
  .exact iC p
theorem TV(p:RS):(dP p).2.1.length<=p.w.s.length+8:=by
 unfold dP;simp only;split
 .split
  .split
   .exact Nat.zero_le _
   .exact Nat.le_add_right _ _
  .exact Nat.zero_le _
 split
 .exact Nat.zero_le _
 split
 .exact lng
 split
 .exact lng
 .simp only;exact lng
theorem is_e(h:is_ p k s=true):p.e=0:=by
 unfold is_ at h;rw[Bool.and_eq_true,Bool.and_eq_true]at h;simpa using h.1.1
theorem tX(of:Int)(k:Nat)(p:RS)(nums:List Int)(out:By)(he:p.e=0):
  ∃(n:Int) (o:By) (q:RS),(12<=nums.length->q.e≠0)/\bz of (k+1) p nums out=if is_ q 2 [99,97,115,101]then bz of k q (nums++[n]) o else(nums++[n],o,q):=by
 rw[bz,if_pos (by simp[he])];simp only;have hit:12<=nums.length->(aG p (nums.length:Nat) 12).e≠0:=λhh=>tH p omg;generalize aG p (nums.length:Nat) 12=q at *;have h:=ay q 2 [99,97,115,101];generalize af q 2 [99,97,115,101]=q1 at *;have h:=h.trans (fB q1 (if of==1||of==4 then 0 else -2147483648) (if of==1 then 4294967295 else if of==4 then 1 else 2147483647));generalize ak q1 (if of==1||of==4 then 0 else -2147483648) (if of==1 then 4294967295 else if of==4 then 1 else 2147483647)=v at *;have h:Fs q (if v.2.2.e==0&&decide (of>4)&&!((rowAt v.2.2.rows of).nums.contains v.1)then aK v.2.2 8 v.2.1 else v.2.2):=by
  split
  .exact h.trans (jf ..)
  .exact h
 generalize (if v.2.2.e==0&&decide (of>4)&&!((rowAt v.2.2.rows of).nums.contains v.1)then aK v.2.2 8 v.2.1 else v.2.2)=q2 at *;have h:Fs q (if q2.e==0&&nums.contains v.1 then aK q2 6 v.2.1 else q2):=by
  split
  .exact h.trans (jf ..)
  .exact h
 generalize (if q2.e==0&&nums.contains v.1 then aK q2 6 v.2.1 else q2)=q3 at *;have h:=h.trans (ay q3 4 [58]);exact⟨v.1,_,af q3 4 [58],λhh=>h.ne (hit hh),rfl⟩
theorem Eg(of:Int):∀(k:Nat) (p:RS) (nums:List Int) (out:By),nums.length<=(bz of k p nums out).1.length
 |0,p,nums,out=>Nat.le_refl _
 |k+1,p,nums,out=>by
  by_cases he:p.e=0
  .obtain⟨n,o,q,_,h⟩:=tX of k p nums out he;rw[h];split
   .have:=Eg of k q (nums++[n]) o;simp only[List.length_append,List.length_cons,List.length_nil]at this;omega
   .exact lng
  .rw[bz,if_neg (by simpa using he)];exact Nat.le_refl _
theorem Uu(p:RS)(of:Int)(nums:List Int)(he:p.e=0):nums.length<(gG p of nums).1.length:=by
 unfold gG;obtain⟨n,o,q,_,h⟩:=tX of 13 p nums [] he;rw[h];split
 .have:=Eg of 13 q (nums++[n]) o;simp only[List.length_append,List.length_cons,List.length_nil]at this;omega
 .exact lng
theorem A7(of:Int):∀(k:Nat) (p:RS) (nums:List Int) (out:By),nums.length<=12->(bz of k p nums out).2.2.e=0->(bz of k p nums out).1.length<=12
 |0,p,nums,out,hn,_=>hn
 |k+1,p,nums,out,hn,h0=>by
  by_cases he:p.e=0
  .obtain⟨n,o,q,hq,h⟩:=tX of k p nums out he;rw[h]at h0 ⊢;split at h0
   .rename_i hi;rw[if_pos hi];refine A7 of k q (nums++[n]) o ?_ h0;simp only[List.length_append,List.length_cons,List.length_nil];rcases Nat.lt_or_ge nums.length 12 with hh|hh
    .omega
    .exact absurd (is_e hi) (hq hh)
   .rename_i hi;rw[if_neg hi];simp only[List.length_append,List.length_cons,List.length_nil];rcases Nat.lt_or_ge nums.length 12 with hh|hh
    .omega
    .exact absurd h0 (hq hh)
  .rw[bz,if_neg (by simpa using he)];exact hn
theorem XH(p:RS)(of:Int)(nums:List Int)(hn:nums.length<=12)(h:(gG p of nums).2.2.e=0):(gG p of nums).1.length<=12:=A7 of 14 p nums [] hn h
end Go.M
