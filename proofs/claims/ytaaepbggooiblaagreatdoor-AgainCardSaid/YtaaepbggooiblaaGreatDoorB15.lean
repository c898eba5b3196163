/- Texts of mine, one behind the other; nothing is assumed. -/
import Derived.Test.YtaaepbggooiblaaGreatDoorB14
set_option linter.unusedSimpArgs false
set_option linter.unusedVariables false
namespace Go.M
def bz(q:PS):List Tk→Prop
 |[]=>q.w.kind=0
 |t::r=>q.w.tk=t∧Lx q.txt q.pos r
def tIs(t:Tk)(s:By):Bool:=(t.kind==2||t.kind==4)&&t.s==s
def BO(l:List Tk)(s:By):Bool:=match l with|[]=>false|t::_=>tIs t s
def hdK(l:List Tk):Nat:=match l with|[]=>0|t::_=>t.kind
theorem Af{q:PS}{l:List Tk}(h:bz q l)(s:By):q.w.is s=BO l s:=by
 cases l with
 |nil=>have h:q.w.kind=0:=h;simp[Wd.is,h,BO]
 |cons t r=>obtain⟨rfl,_⟩:=h;rfl
theorem sQ{q:PS}{l:List Tk}(h:bz q l):q.w.kind=hdK l:=by
 cases l with
 |nil=>exact h
 |cons t r=>obtain⟨rfl,_⟩:=h;rfl
theorem Ht{q:PS}{t:Tk}{r:List Tk}(h:bz q (t::r)):∃q',advance q=.ok q'∧bz q' r∧cq q'=cq q:=by
 obtain⟨_,h⟩:=h
 cases r with
 |nil=>
  obtain⟨w,e,h1,h2⟩:=h
  exact⟨{ q with w:=w,pos:=e },by unfold advance;rw[h1];rfl,h2,rfl⟩
 |cons x r=>
  obtain⟨w,e,h1,h2,h3⟩:=h
  exact⟨{ q with w:=w,pos:=e },by unfold advance;rw[h1];rfl,⟨h2,h3⟩,rfl⟩
def wk:List By→List Tk→Prop
 |[],[]=>True
 |s::l,t::r=>tIs t s=true∧wk l r
 |_,_=>False
theorem DY:∀{l:List By} {ts:List Tk} {q:PS} {r:List Tk},wk l ts→bz q (ts++r)→∃q',want q l=.ok q'∧bz q' r∧cq q'=cq q
 |[],[],q,r,_,h=>⟨q,rfl,h,rfl⟩
 |s::l,t::ts,q,r,hw,h=>by
  obtain⟨q1,h1,h2,h3⟩:=Ht (r:=ts++r) h
  obtain⟨q2,h4,h5,h6⟩:=DY (l:=l) hw.2 h2
  refine⟨q2,?_,h5,h6.trans h3⟩
  rw[want,Af h,show BO (t::ts++r) s=true from hw.1,if_pos rfl,h1]
  exact h4
 |[],_::_,_,_,hw,_=>hw.elim
 |_::_,[],_,_,hw,_=>hw.elim
theorem dF{s:By}{t:Tk}{q:PS}{r:List Tk}(hw:tIs t s=true)(h:bz q (t::r)):∃q',want q [s]=.ok q'∧bz q' r∧cq q'=cq q:=DY (ts:=[t]) ⟨hw,trivial⟩ h
theorem o8{s:By}{t:Tk}{q:PS}{r:List Tk}(hw:tIs t s=true)(h:bz q (t::r)):∃q',take q s=.ok (true,q')∧bz q' r∧cq q'=cq q:=by
 obtain⟨q1,h1,h2,h3⟩:=Ht h
 refine⟨q1,?_,h2,h3⟩
 unfold take
 rw[Af h,show BO (t::r) s=true from hw,if_pos rfl,h1];rfl
theorem jo{s:By}{l:List Tk}{q:PS}(hw:BO l s=false)(h:bz q l):take q s=.ok (false,q):=by
 unfold take
 rw[Af h,hw];rfl
theorem VO{s:By}{q:PS}{r:List Tk}(h:bz q (tN s::r)):∃w,name q=.ok w∧w.s=s:=by
 obtain⟨h,_⟩:=h
 have hk:q.w.kind=1:=congrArg Tk.kind h
 refine⟨q.w,?_,congrArg Tk.s h⟩
 unfold name
 rw[hk];rfl
theorem Ff{α:Type}[BEq α]{l l':List α}{x:α}{a:Nat}(b:Nat)(h:once l x a=.ok l'):once l x b=.ok l':=by
 unfold once at h ⊢
 split at h
 ·cases h
 ·rename_i hh;rw[if_neg hh];exact h
theorem E5{p:PS}{l:List By}{x:Wd×List By×PS}(h:called p l=.ok x){q:PS}{r:List Tk}(hs:bz q (tN x.1.s::r)):∃w q',called q l=.ok (w,x.2.1,q')∧w.s=x.1.s∧bz q' r∧cq q'=cq q:=by
 obtain⟨w,h1,h⟩:=Res.then_ok h
 obtain⟨l',h2,h⟩:=Res.then_ok h
 obtain⟨p1,h3,h⟩:=Res.then_ok h
 cases h
 obtain⟨w',e,ew⟩:=VO hs
 have ew:w'.s=w.s:=ew
 obtain⟨q1,e1,e2,e3⟩:=Ht hs
 refine⟨w',q1,?_,ew,e2,e3⟩
 unfold called
 rw[e,Res.ak,ew,show once l w.s w'.at_=.ok l' from Ff _ h2,Res.ak,e1];rfl
theorem Jq{p:PS}{x:Wd×PS}(h:own p=.ok x){q:PS}{r:List Tk}(hc:cq q=cq p)(hs:bz q (tN x.1.s::r)):∃w q',own q=.ok (w,q')∧w.s=x.1.s∧bz q' r∧cq q'=cq x.2:=by
 obtain⟨w,h1,h⟩:=Res.then_ok h
 obtain⟨l',h2,h⟩:=Res.then_ok h
 obtain⟨p1,h3,h⟩:=Res.then_ok h
 cases h
 obtain⟨w',e,ew⟩:=VO hs
 have ew:w'.s=w.s:=ew
 have hs':bz { q with names:=l' } (tN w.s::r):=hs
 obtain⟨q1,e1,e2,e3⟩:=Ht hs'
 have hn:q.names=p.names:=congrArg Prod.fst hc
 refine⟨w',q1,?_,ew,e2,?_⟩
 ·unfold own
  rw[e,Res.ak,hn,ew,show once p.names w.s w'.at_=.ok l' from Ff _ h2,Res.ak,e1];rfl
 ·rw[e3]
  have:=qE h3
  rw[show cq p1=_ from this]
  simp only[cq,Prod.mk.injEq]at hc ⊢
  exact⟨trivial,hc.2⟩
theorem Cj{σ:Type}{q:PS}{lo hi n:Int}{keep:Int→Nat→Res σ}{v:σ}{r:List Tk}(h1:lo≤n)(h2:n≤hi)(hk:∀a,keep n a=.ok v)(hs:bz q (tI n::r)):∃q',value q lo hi keep=.ok (n,v,q')∧bz q' r∧cq q'=cq q:=by
 obtain⟨q1,e1,e2,e3⟩:=Ht hs
 obtain⟨h,_⟩:=hs
 refine⟨q1,?_,e2,e3⟩
 have hr:uQ q=.ok n:=by
  unfold uQ
  have a1:q.w.kind=3:=congrArg Tk.kind h
  have a2:q.w.n=n:=congrArg Tk.n h
  simp only[a1,a2];rfl
 unfold value
 rw[hr,Res.ak,if_neg (by omega),hk,Res.ak,e1];rfl
theorem Tn{q:PS}{f:Bool}{n:Int}{r:List Tk}(ho:okN f n=true)(hs:bz q (Rn f n++r)):∃q',bound q=.ok (f,n,q')∧bz q' r∧cq q'=cq q:=by
 have hr:=JG ho
 cases f with
 |true=>
  have hs:bz q (tS 91::tI n::tS 93::r):=hs
  obtain⟨q1,a1,a2,a3⟩:=o8 (s:=[91]) rfl hs
  obtain⟨q2,b1,b2,b3⟩:=Cj (lo:=1) (hi:=1000) (keep:=kH) (v:=()) (hr.2.2 rfl).1 (hr.2.2 rfl).2 (fun _=>rfl) a2
  obtain⟨q3,c1,c2,c3⟩:=dF (s:=[93]) rfl b2
  refine⟨q3,?_,c2,c3.trans (b3.trans a3)⟩
  unfold bound
  rw[a1,Res.ak]
  show ((value q1 1 1000 kH).andThen _)=_
  rw[b1,Res.ak,c1];rfl
 |false=>
  have hs:bz q (tS 60::tI n::tS 62::r):=hs
  have a1:=jo (s:=[91]) rfl hs
  obtain⟨q1,d1,d2,d3⟩:=dF (s:=[60]) rfl hs
  have a4:=jo (s:=[62]) rfl d2
  obtain⟨q2,b1,b2,b3⟩:=Cj (lo:=0) (hi:=4294967295) (keep:=kH) (v:=()) hr.1 hr.2.1 (fun _=>rfl) d2
  obtain⟨q3,c1,c2,c3⟩:=dF (s:=[62]) rfl b2
  refine⟨q3,?_,c2,c3.trans (b3.trans d3)⟩
  unfold bound
  rw[a1,Res.ak]
  show ((want q [[60]]).andThen _)=_
  rw[d1,Res.ak,a4,Res.ak]
  show ((value q1 0 4294967295 kH).andThen _)=_
  rw[b1,Res.ak,c1];rfl
def eT:Ty→Ty
 |.named s _=>.named s 0
 |.array t f n=>.array (eT t) f n
 |.opt t=>.opt (eT t)
 |t=>t
def eD(d:Decl):Decl:=⟨d.name,eT d.ty⟩
def eA(a:Arm):Arm:=⟨a.nums,eD a.decl⟩
def eQ(q:gq):gq:=⟨q.name,q.n,eT q.arg,eT q.res⟩
def eV(v:gI):gI:=⟨v.name,v.n,v.procs.map eQ⟩
def eK:Dk→Dk
 |.alias t=>.alias (eT t)
 |.struct ds=>.struct (ds.map eD)
 |.union of nm ar els=>.union (eT of) nm (ar.map eA) (els.map eD)
 |.prog n vs=>.prog n (vs.map eV)
 |k=>k
def eF(d:Def):Def:=⟨d.name,0,eK d.k⟩
theorem Oa{s:By}{l:List By}(h:l.contains s=false):s ∉ l:=by simpa using h
theorem KL{ty:Ty}(h:NB ty)(r:List Tk){s:By}(hs:[[105,110,116],[104,121,112,101,114],[98,111,111,108],[117,110,115,105,103,110,101,100]].contains s=false):BO (bU ty++r) s=false:=by
 have hs:=Oa hs
 simp only[List.mem_cons,List.not_mem_nil,or_false,not_or]at hs
 obtain⟨h1,h2,h3,h4⟩:=hs
 cases ty with
 |basic t=>
  simp only[NB,List.mem_cons,List.not_mem_nil,or_false]at h
  rcases h with rfl|rfl|rfl|rfl|rfl
  ·exact beq_eq_false_iff_ne.mpr (Ne.symm h1)
  ·exact beq_eq_false_iff_ne.mpr (Ne.symm h2)
  ·exact beq_eq_false_iff_ne.mpr (Ne.symm h3)
  ·exact beq_eq_false_iff_ne.mpr (Ne.symm h4)
  ·exact beq_eq_false_iff_ne.mpr (Ne.symm h4)
 |named t a=>rfl
 |_=>exact h.elim
theorem EY{q:PS}{ty:Ty}{r:List Tk}(hn:NB ty)(hr:BO r [104,121,112,101,114]=false∧BO r [105,110,116]=false)(hs:bz q (bU ty++r)):∃ty' q',kindOf q=.ok (ty',q')∧eT ty'=eT ty∧bz q' r∧cq q'=cq q:=by
 cases ty with
 |basic s=>
  simp only[NB,List.mem_cons,List.not_mem_nil,or_false]at hn
  rcases hn with rfl|rfl|rfl|rfl|rfl
  ·have hs:bz q (tK [105,110,116]::r):=hs
   have hk:(q.w.kind==1)=false:=by rw[sQ hs];rfl
   obtain⟨q1,a1,a2,a3⟩:=o8 (s:=[105,110,116]) rfl hs
   refine⟨_,q1,?_,rfl,a2,a3⟩
   unfold kindOf
   simp only[hk,a1,Res.ak,if_true,if_false,Bool.false_eq_true]
  ·have hs:bz q (tK [104,121,112,101,114]::r):=hs
   have hk:(q.w.kind==1)=false:=by rw[sQ hs];rfl
   have n1:=jo (s:=[105,110,116]) rfl hs
   obtain⟨q1,a1,a2,a3⟩:=o8 (s:=[104,121,112,101,114]) rfl hs
   refine⟨_,q1,?_,rfl,a2,a3⟩
   unfold kindOf
   simp only[hk,n1,a1,Res.ak,if_true,if_false,Bool.false_eq_true]
  ·have hs:bz q (tK [98,111,111,108]::r):=hs
   have hk:(q.w.kind==1)=false:=by rw[sQ hs];rfl
   have n1:=jo (s:=[105,110,116]) rfl hs
   have n2:=jo (s:=[104,121,112,101,114]) rfl hs
   obtain⟨q1,a1,a2,a3⟩:=o8 (s:=[98,111,111,108]) rfl hs
   refine⟨_,q1,?_,rfl,a2,a3⟩
   unfold kindOf
   simp only[hk,n1,n2,a1,Res.ak,if_true,if_false,Bool.false_eq_true]
  ·have hs:bz q (tK [117,110,115,105,103,110,101,100]::tK [104,121,112,101,114]::r):=hs
   have hk:(q.w.kind==1)=false:=by rw[sQ hs];rfl
   have n1:=jo (s:=[105,110,116]) rfl hs
   have n2:=jo (s:=[104,121,112,101,114]) rfl hs
   have n3:=jo (s:=[98,111,111,108]) rfl hs
   obtain⟨q1,a1,a2,a3⟩:=o8 (s:=[117,110,115,105,103,110,101,100]) rfl hs
   obtain⟨q2,b1,b2,b3⟩:=o8 (s:=[104,121,112,101,114]) rfl a2
   refine⟨_,q2,?_,rfl,b2,b3.trans a3⟩
   unfold kindOf
   simp only[hk,n1,n2,n3,a1,b1,Res.ak,if_true,if_false,Bool.false_eq_true]
  ·have hs:bz q (tK [117,110,115,105,103,110,101,100]::r):=hs
   have hk:(q.w.kind==1)=false:=by rw[sQ hs];rfl
   have n1:=jo (s:=[105,110,116]) rfl hs
   have n2:=jo (s:=[104,121,112,101,114]) rfl hs
   have n3:=jo (s:=[98,111,111,108]) rfl hs
   obtain⟨q1,a1,a2,a3⟩:=o8 (s:=[117,110,115,105,103,110,101,100]) rfl hs
   have n4:=jo (s:=[104,121,112,101,114]) hr.1 a2
   have n5:=jo (s:=[105,110,116]) hr.2 a2
   refine⟨_,q1,?_,rfl,a2,a3⟩
   unfold kindOf
   simp only[hk,n1,n2,n3,a1,n4,n5,Res.ak,if_true,if_false,Bool.false_eq_true]
 |named s a=>
  have hs:bz q (tN s::r):=hs
  have hk:(q.w.kind==1)=true:=by rw[sQ hs];rfl
  have hw:q.w.s=s:=congrArg Tk.s hs.1
  obtain⟨q1,a1,a2,a3⟩:=Ht hs
  refine⟨.named q.w.s q.w.at_,q1,?_,?_,a2,a3⟩
  ·unfold kindOf
   simp only[hk,a1,Res.ak,if_true]
  ·show Ty.named q.w.s 0=Ty.named s 0;rw[hw]
 |_=>exact hn.elim
theorem XE{p:PS}(h:WOk p){x:Ty×PS}(hx:kindOf p=.ok x):NB x.1∧WOk x.2∧cq x.2=cq p:=⟨(BA h x hx).1,(BA h x hx).2,MM rfl x hx⟩
def Nm{σ:Type}(nm:PS→Res (Wd×σ×PS)):Prop:=∀(p:PS) (x:Wd×σ×PS),nm p=.ok x→WOk p→(dV x.1.s∧WOk x.2.2)∧∀(q:PS) (r:List Tk),cq q=cq p→bz q (tN x.1.s::r)→∃w q',nm q=.ok (w,x.2.1,q')∧w.s=x.1.s∧bz q' r∧cq q'=cq x.2.2
theorem nm_set(l:List By):Nm (V7 l):=fun p x hx hw=>by
 have hx:called p l=.ok x:=hx
 refine⟨sD l hw x hx,fun q r hc hs=>?_⟩
 obtain⟨w,q1,e1,e2,e3,e4⟩:=E5 hx hs
 exact⟨w,q1,e1,e2,e3,e4.trans (hc.trans (jK rfl x hx).symm)⟩
theorem V6:Nm zi:=fun p x hx hw=>by
 unfold zi at hx
 obtain⟨y,h1,h2⟩:=Res.then_ok hx
 cases h2
 refine⟨xU hw y h1,fun q r hc hs=>?_⟩
 obtain⟨w,q1,e1,e2,e3,e4⟩:=Jq h1 hc hs
 refine⟨w,q1,?_,e2,e3,e4⟩
 unfold zi
 rw[e1];rfl
theorem VP{σ:Type}{nm:PS→Res (Wd×σ×PS)}(hnm:Nm nm){p:PS}{x:Decl×Wd×σ×PS}(h:decl nm p=.ok x)(hw:WOk p){q:PS}{r:List Tk}(hc:cq q=cq p)(hs:bz q (iZ x.1++(tS 59::r))):
  ∃d w q',decl nm q=.ok (d,w,x.2.2.1,q')∧eD d=eD x.1∧w.s=x.2.1.s∧bz q' (tS 59::r)∧cq q'=cq x.2.2.2:=by
 have hnd:=Oc (fun q hq x hx=>(hnm q x hx hq).1) hw x h
 have hok:=QU nm p x h
 unfold iZ at hs
 rw[hnd.1.1.ne]at hs
 simp only[Bool.false_eq_true,if_false,List.append_assoc,List.cons_append,List.nil_append]at hs
 unfold decl at h
 simp only at h
 split at h
 ·obtain⟨p1,h1,h⟩:=Res.then_ok h
  obtain⟨m,h2,h⟩:=Res.then_ok h
  split at h
  ·cases h
  obtain⟨y,h3,h⟩:=Res.then_ok h
  cases h
  have hm:=hnm p1 m h2 (jU h1)
  have ho:okN y.1 y.2.1=true:=hok.1
  have hs:bz q ((if p.w.is [115,116,114,105,110,103]then tK [115,116,114,105,110,103]else tK [111,112,97,113,117,101])::tN m.1.s::(Rn y.1 y.2.1++(tS 59::r))):=hs
  obtain⟨q1,a1,a2,a3⟩:=Ht hs
  obtain⟨w,q2,b1,b2,b3,b4⟩:=hm.2 q1 _ (a3.trans (hc.trans (qE h1).symm)) a2
  obtain⟨q3,c1,c2,c3⟩:=Tn ho b3
  refine⟨⟨w.s,.bytes (p.w.is [115,116,114,105,110,103]) y.1 y.2.1⟩,w,q3,?_,?_,b2,c2,c3.trans (b4.trans (Qo rfl y h3).symm)⟩
  ·have t1:q.w.is [115,116,114,105,110,103]=p.w.is [115,116,114,105,110,103]:=by
    rw[Af hs];cases p.w.is [115,116,114,105,110,103]<;>rfl
   have t2:(p.w.is [115,116,114,105,110,103]||q.w.is [111,112,97,113,117,101])=true:=by
    rw[Af hs];cases p.w.is [115,116,114,105,110,103]<;>rfl
   have t3:(p.w.is [115,116,114,105,110,103]&&!q2.w.is [60])=false:=by
    cases hps:p.w.is [115,116,114,105,110,103]with
    |false=>rfl
    |true=>
     have hf:y.1=false:=hnd.1.2 hps
     rw[hf]at b3
     rw[Af b3];rfl
   unfold decl
   simp only[t1,t2,if_true,a1,Res.ak,b1,t3,Bool.false_eq_true,if_false,c1]
  ·show Decl.mk w.s _=Decl.mk m.1.s _;rw[b2]
 ·obtain⟨t,h1,h⟩:=Res.then_ok h
  obtain⟨y,h2,h⟩:=Res.then_ok h
  have hk:=XE hw h1
  have notx:∀{l:List Tk},bz q (bU t.1++l)→(q.w.is [115,116,114,105,110,103]||q.w.is [111,112,97,113,117,101])=false:=fun hs=>by
   rw[Af hs,Af hs,KL hk.1 _ rfl,KL hk.1 _ rfl];rfl
  split at h
  ·obtain⟨m,h3,h⟩:=Res.then_ok h
   cases h
   have hy:=fC hk.2.1 y h2
   have hm:=hnm y.2 m h3 hy
   have hs:bz q (bU t.1++(tS 42::tN m.1.s::tS 59::r)):=by
    have hs:bz q (bU (.opt t.1)++(tN m.1.s::tS 59::r)):=hs
    rw[bU,List.append_assoc]at hs;exact hs
   obtain⟨t',q1,a1,a2,a3,a4⟩:=EY hk.1 ⟨rfl,rfl⟩ hs
   obtain⟨q2,b1,b2,b3⟩:=o8 (s:=[42]) rfl a3
   have hcy:cq y.2=cq p:=jS hk.2.2 y h2
   obtain⟨w,q3,c1,c2,c3,c4⟩:=hm.2 q2 _ (b3.trans (a4.trans (hc.trans hcy.symm))) b2
   refine⟨⟨w.s,.opt t'⟩,w,q3,?_,?_,c2,c3,c4⟩
   ·unfold decl
    simp only[notx hs,Bool.false_eq_true,if_false,a1,Res.ak,b1,if_true,c1]
   ·show Decl.mk w.s (.opt (eT t'))=Decl.mk m.1.s (.opt (eT t.1));rw[c2,a2]
  ·obtain⟨m,h3,h⟩:=Res.then_ok h
   have hy:=fC hk.2.1 y h2
   have hm:=hnm y.2 m h3 hy
   have hcy:cq y.2=cq p:=jS hk.2.2 y h2
   split at h
   ·obtain⟨z,h4,h⟩:=Res.then_ok h
    cases h
    have ho:okN z.1 z.2.1=true:=by
     have:=hok.1
     simp only[okT,Bool.and_eq_true]at this
     exact this.2
    have hs:bz q (bU t.1++(tN m.1.s::(Rn z.1 z.2.1++(tS 59::r)))):=hs
    obtain⟨t',q1,a1,a2,a3,a4⟩:=EY hk.1 ⟨rfl,rfl⟩ hs
    have b1:=jo (s:=[42]) rfl a3
    obtain⟨w,q3,c1,c2,c3,c4⟩:=hm.2 q1 _ (a4.trans (hc.trans hcy.symm)) a3
    obtain⟨q4,d1,d2,d3⟩:=Tn ho c3
    have e1:(q3.w.is [91]||q3.w.is [60])=true:=by
     rw[Af c3,Af c3];cases z.1<;>rfl
    refine⟨⟨w.s,.array t' z.1 z.2.1⟩,w,q4,?_,?_,c2,d2,d3.trans (c4.trans (Qo rfl z h4).symm)⟩
    ·unfold decl
     simp only[notx hs,Bool.false_eq_true,if_false,a1,Res.ak,b1,if_true,c1,e1,d1]
    ·show Decl.mk w.s (.array (eT t') z.1 z.2.1)=Decl.mk m.1.s (.array (eT t.1) z.1 z.2.1);rw[c2,a2]
   ·cases h
    have hs:bz q (bU t.1++(tN m.1.s::(tS 59::r))):=by
     have e:Jj t.1=[]:=by
      cases ht:t.1 with
      |basic s=>rfl
      |named s a=>rfl
      |bytes _ _ _=>rw[ht]at hk;exact hk.1.elim
      |array _ _ _=>rw[ht]at hk;exact hk.1.elim
      |opt _=>rw[ht]at hk;exact hk.1.elim
      |void=>rfl
     rw[e]at hs;exact hs
    obtain⟨t',q1,a1,a2,a3,a4⟩:=EY hk.1 ⟨rfl,rfl⟩ hs
    have b1:=jo (s:=[42]) rfl a3
    obtain⟨w,q3,c1,c2,c3,c4⟩:=hm.2 q1 _ (a4.trans (hc.trans hcy.symm)) a3
    have e1:(q3.w.is [91]||q3.w.is [60])=false:=by
     rw[Af c3,Af c3];rfl
    refine⟨⟨w.s,t'⟩,w,q3,?_,?_,c2,c3,c4⟩
    ·unfold decl
     simp only[notx hs,Bool.false_eq_true,if_false,a1,Res.ak,b1,if_true,c1,e1]
    ·show Decl.mk w.s (eT t')=Decl.mk m.1.s (eT t.1);rw[c2,a2]
end Go.M
namespace Go.M
theorem Jr{p:PS}{l:List By}{x:Decl×List By×PS}(h:member p l=.ok x)(hw:WOk p){q:PS}{r:List Tk}(hc:cq q=cq p)(hs:bz q (iZ x.1++(tS 59::r))):
  ∃d q',member q l=.ok (d,x.2.1,q')∧eD d=eD x.1∧bz q' r∧cq q'=cq x.2.2:=by
 unfold member at h
 obtain⟨y,h1,h⟩:=Res.then_ok h
 obtain⟨p1,h2,h⟩:=Res.then_ok h
 cases h
 obtain⟨d,w,q1,a1,a2,a3,a4,a5⟩:=VP (nm_set l) h1 hw hc hs
 obtain⟨q2,b1,b2,b3⟩:=dF (s:=[59]) rfl a4
 refine⟨d,q2,?_,a2,b2,b3.trans (a5.trans (dO h2).symm)⟩
 unfold member
 rw[a1,Res.ak,b1];rfl
theorem Om{d:Decl}(h:ND d)(r:List Tk){s:By}(hs:[[105,110,116],[104,121,112,101,114],[98,111,111,108],[117,110,115,105,103,110,101,100],[115,116,114,105,110,103],[111,112,97,113,117,101]].contains s=false):BO (iZ d++r) s=false:=by
 have hs:=Oa hs
 simp only[List.mem_cons,List.not_mem_nil,or_false,not_or]at hs
 obtain⟨h1,h2,h3,h4,h5,h6⟩:=hs
 have hb:[[105,110,116],[104,121,112,101,114],[98,111,111,108],[117,110,115,105,103,110,101,100]].contains s=false:=by simp[h1,h2,h3,h4]
 unfold iZ
 obtain⟨hn,ht⟩:=h
 rw[List.append_assoc,List.append_assoc]
 cases hty:d.ty with
 |basic t=>rw[hty]at ht;exact KL (ty:=.basic t) ht _ hb
 |named t a=>rfl
 |bytes x f n=>
  cases x
  ·exact beq_eq_false_iff_ne.mpr (Ne.symm h6)
  ·exact beq_eq_false_iff_ne.mpr (Ne.symm h5)
 |array t f n=>rw[hty]at ht;exact KL (ty:=t) ht _ hb
 |opt t=>rw[hty]at ht;rw[bU,List.append_assoc];exact KL ht _ hb
 |void=>rw[hty]at ht;exact ht.elim
theorem EU:∀(k:Nat) {p:PS} {ds:List Decl} {l:List By} {x:List Decl×PS},dB k p ds l=.ok x→WOk p →
  ∃new,x.1=ds++new∧new≠[]∧(∀d∈new,ND d)∧∀(q:PS) (es:List Decl) (r:List Tk),cq q=cq p→bz q (qF new++(tS 125::r))→∃n2 q',dB k q es l=.ok (es++n2,q')∧n2.map eD=new.map eD∧bz q' r∧cq q'=cq x.2
 |0,_,_,_,_,h,_=>by cases h
 |k+1,p,ds,l,x,h,hw=>by
  rw[dB]at h
  obtain⟨d,h1,h⟩:=Res.then_ok h
  obtain⟨y,h2,h⟩:=Res.then_ok h
  have hd:=FD hw d h1
  have hcy:cq y.2=cq d.2.2:=jS rfl y h2
  have hwy:=fC hd.2 y h2
  split at h
  ·cases h
   refine⟨[d.1],rfl,by simp,fun a ha=>by rw[List.mem_singleton.mp ha];exact hd.1,fun q es r hc hs=>?_⟩
   have hs:bz q (iZ d.1++(tS 59::tS 125::r)):=by
    simp only[qF,List.append_assoc,List.cons_append,List.nil_append]at hs;exact hs
   obtain⟨d',q1,a1,a2,a3,a4⟩:=Jr h1 hw hc hs
   obtain⟨q2,b1,b2,b3⟩:=o8 (s:=[125]) rfl a3
   refine⟨[d'],q2,?_,by simp[a2],b2,b3.trans (a4.trans hcy.symm)⟩
   rw[dB,a1,Res.ak,b1];rfl
  ·obtain⟨new,e1,e2,e3,e4⟩:=EU k h hwy
   refine⟨d.1::new,by rw[e1];simp,by simp,fun a ha=>?_,fun q es r hc hs=>?_⟩
   ·rcases List.mem_cons.mp ha with rfl|ha
    ·exact hd.1
    ·exact e3 a ha
   have hs:bz q (iZ d.1++(tS 59::(qF new++(tS 125::r)))):=by
    simp only[qF,List.append_assoc,List.cons_append,List.nil_append]at hs;exact hs
   obtain⟨d',q1,a1,a2,a3,a4⟩:=Jr h1 hw hc hs
   have b1:take q1 [125]=.ok (false,q1):=by
    refine jo ?_ a3
    cases new with
    |nil=>exact absurd rfl e2
    |cons a t=>rw[qF,List.append_assoc];exact Om (e3 a (List.mem_cons_self ..)) _ rfl
   obtain⟨n2,q2,c1,c2,c3,c4⟩:=e4 q1 (es++[d']) r (a4.trans hcy.symm) a3
   refine⟨d'::n2,q2,?_,by simp[a2,c2],c3,c4⟩
   rw[dB,a1,Res.ak,b1,Res.ak]
   simp only[Bool.false_eq_true,if_false,c1,List.append_assoc,List.singleton_append]
theorem yB{σ:Type}{p:PS}{lo hi:Int}{keep:Int→Nat→Res σ}{x:Int×σ×PS}(h:value p lo hi keep=.ok x):(lo≤x.1∧x.1≤hi)∧(∃a,keep x.1 a=.ok x.2.1)∧cq x.2.2=cq p:=by
 refine⟨vT h,?_,QE h⟩
 obtain⟨n,h1,h⟩:=Res.then_ok h
 split at h
 ·cases h
 obtain⟨s,h2,h⟩:=Res.then_ok h
 obtain⟨q,h3,h⟩:=Res.then_ok h
 cases h
 exact⟨_,h2⟩
theorem Xh{p q:PS}(h:cq q=cq p):q.n1=p.n1:=by simp only[cq,Prod.mk.injEq]at h;exact h.2.2.2.2.1
theorem cq_n0{p q:PS}(h:cq q=cq p):q.n0=p.n0:=by simp only[cq,Prod.mk.injEq]at h;exact h.2.2.2.1
theorem ZN{p q:PS}(h:cq q=cq p):q.n2=p.n2:=by simp only[cq,Prod.mk.injEq]at h;exact h.2.2.2.2.2
theorem Xi{p q:PS}(h:cq q=cq p):q.enums=p.enums:=by simp only[cq,Prod.mk.injEq]at h;exact h.2.1
theorem Xg{p q:PS}(h:cq q=cq p):q.ik=p.ik:=by simp only[cq,Prod.mk.injEq]at h;exact h.2.2.1
theorem wo{p q:PS}{a b:Nat}{u:Unit}(h:count p a b=.ok u):count q a b=.ok ():=by
 have:=gV h
 unfold count
 rw[if_neg (by omega)]
theorem Js:∀(k:Nat) {p:PS} {ns:List By} {is:List Int} {x:List By×List Int×PS},fG k p ns is=.ok x→WOk p →
  ∃n2 i2,x.1=ns++n2∧x.2.1=is++i2∧n2≠[]∧i2≠[]∧∀(q:PS) (r:List Tk),cq q=cq p→bz q (kK n2 i2++(tS 125::r))→∃q',fG k q ns is=.ok (x.1,x.2.1,q')∧bz q' (tS 125::r)∧cq q'=cq x.2.2
 |0,_,_,_,_,h,_=>by cases h
 |k+1,p,ns,is,x,h,hw=>by
  rw[fG]at h
  obtain⟨u,h0,h⟩:=Res.then_ok h
  obtain⟨m,h1,h⟩:=Res.then_ok h
  obtain⟨p1,h2,h⟩:=Res.then_ok h
  obtain⟨v,h3,h⟩:=Res.then_ok h
  obtain⟨y,h4,h⟩:=Res.then_ok h
  obtain⟨vr,⟨va,vk⟩,vc⟩:=yB h3
  have hm:=xU hw m h1
  have hwv:WOk v.2.2:=oL (aQ hm.2 p1 h2) v h3
  have hwy:=fC (p:={ v.2.2 with n1:=v.2.2.n1+1,consts:=bg v.2.2.consts m.1.s v.1 }) hwv y h4
  have hcy:=jS (p:={ v.2.2 with n1:=v.2.2.n1+1,consts:=bg v.2.2.consts m.1.s v.1 }) rfl y h4
  have hp1:=dO h2
  -- one member
  have one:∀(q:PS) (r:List Tk),cq q=cq p→bz q (tN m.1.s::tS 61::tI v.1::r)→∃w q1 q2 q3,own q=.ok (w,q1)∧w.s=m.1.s∧want q1 [[61]]=.ok q2∧value q2 least J6 (fun n a=>once is n a)=.ok (v.1,v.2.1,q3)∧bz q3 r∧cq q3=cq v.2.2:=fun q r hc hs=>by
   obtain⟨w,q1,a1,a2,a3,a4⟩:=Jq h1 hc hs
   obtain⟨q2,b1,b2,b3⟩:=dF (s:=[61]) rfl a3
   obtain⟨q3,c1,c2,c3⟩:=Cj (keep:=fun n a=>once is n a) vr.1 vr.2 (fun a=>Ff a vk) b2
   exact⟨w,q1,q2,q3,a1,a2,b1,c1,c2,c3.trans (b3.trans (a4.trans (hp1.symm.trans vc.symm)))⟩
  have up:∀{q3:PS} (s:By),cq q3=cq v.2.2→cq { q3 with n1:=q3.n1+1,consts:=bg q3.consts s v.1 }=cq { v.2.2 with n1:=v.2.2.n1+1,consts:=bg v.2.2.consts m.1.s v.1 }:=fun s h=>by
   simp only[cq,Prod.mk.injEq]at h ⊢
   exact⟨h.1,h.2.1,h.2.2.1,h.2.2.2.1,by rw[h.2.2.2.2.1],h.2.2.2.2.2⟩
  split at h
  ·obtain⟨n2,i2,e1,e2,e3,e4,e5⟩:=Js k h hwy
   refine⟨m.1.s::n2,v.1::i2,by rw[e1];simp,by rw[e2];simp,by simp,by simp,fun q r hc hs=>?_⟩
   have hmem:O7 n2 i2=tS 44::kK n2 i2:=by
    cases n2 with
    |nil=>exact absurd rfl e3
    |cons a t=>cases i2 with
     |nil=>exact absurd rfl e4
     |cons b u=>rfl
   have hs:bz q (tN m.1.s::tS 61::tI v.1::tS 44::(kK n2 i2++(tS 125::r))):=by
    simp only[kK,hmem,List.append_assoc,List.cons_append,List.nil_append]at hs;exact hs
   obtain⟨w,q1,q2,q3,a1,a2,a3,a4,a5,a6⟩:=one q _ hc hs
   have a5':bz { q3 with n1:=q3.n1+1,consts:=bg q3.consts w.s v.1 } (tS 44::(kK n2 i2++(tS 125::r))):=a5
   obtain⟨q4,b1,b2,b3⟩:=o8 (s:=[44]) rfl a5'
   obtain⟨q5,c1,c2,c3⟩:=e5 q4 r (b3.trans ((up _ a6).trans hcy.symm)) b2
   refine⟨q5,?_,c2,c3⟩
   rw[fG,Xh hc,wo h0,Res.ak,a1,Res.ak]
   rw[a2]at b1
   simp only[a3,a4,b1,Res.ak,if_true,a2,c1]
  ·cases h
   refine⟨[m.1.s],[v.1],rfl,rfl,by simp,by simp,fun q r hc hs=>?_⟩
   have hs:bz q (tN m.1.s::tS 61::tI v.1::tS 125::r):=hs
   obtain⟨w,q1,q2,q3,a1,a2,a3,a4,a5,a6⟩:=one q _ hc hs
   have a5':bz { q3 with n1:=q3.n1+1,consts:=bg q3.consts w.s v.1 } (tS 125::r):=a5
   have b1:=jo (s:=[44]) rfl a5'
   refine⟨{ q3 with n1:=q3.n1+1,consts:=bg q3.consts w.s v.1 },?_,a5',(up _ a6).trans hcy.symm⟩
   rw[fG,Xh hc,wo h0,Res.ak,a1,Res.ak]
   rw[a2]at b1
   simp only[a3,a4,b1,Res.ak,if_false,Bool.false_eq_true,a2]
theorem VQ{p:PS}{l:List By}{x:Decl×List By×PS}(h:arm p l=.ok x)(hw:WOk p){q:PS}{r:List Tk}(hc:cq q=cq p)(hs:bz q (iZ x.1++(tS 59::r))):
  ∃d q',arm q l=.ok (d,x.2.1,q')∧eD d=eD x.1∧bz q' r∧cq q'=cq x.2.2:=by
 unfold arm at h
 obtain⟨y,h1,h⟩:=Res.then_ok h
 have hcy:cq y.2=cq p:=jS rfl y h1
 split at h
 ·obtain⟨p1,h2,h⟩:=Res.then_ok h
  cases h
  have hs:bz q (tK [118,111,105,100]::tS 59::r):=hs
  obtain⟨q1,a1,a2,a3⟩:=o8 (s:=[118,111,105,100]) rfl hs
  obtain⟨q2,b1,b2,b3⟩:=dF (s:=[59]) rfl a2
  refine⟨⟨[],.void⟩,q2,?_,rfl,b2,b3.trans (a3.trans (hc.trans (hcy.symm.trans (dO h2).symm)))⟩
  unfold arm
  rw[a1,Res.ak]
  simp only[if_true,b1,Res.ak]
 ·have hwy:=fC hw y h1
  have hd:=FD hwy x h
  obtain⟨d,q1,a1,a2,a3,a4⟩:=Jr h hwy (hc.trans hcy.symm) hs
  have b1:=jo (s:=[118,111,105,100]) (Om hd.1 _ rfl) hs
  refine⟨d,q1,?_,a2,a3,a4⟩
  unfold arm
  rw[b1,Res.ak]
  simp only[Bool.false_eq_true,if_false,a1]
theorem Jv(lo hi:Int)(nums:Option (List Int)):∀(k:Nat) {p:PS} {a there:List Int} {x:List Int×List Int×PS},dK lo hi nums k p a there=.ok x →
  ∃c,x.1=a++c∧c≠[]∧∀(q:PS) (r:List Tk),bz q (yF c++r)→BO r [99,97,115,101]=false→∃q',dK lo hi nums k q a there=.ok (x.1,x.2.1,q')∧bz q' r∧cq q'=cq q
 |0,_,_,_,_,h=>by cases h
 |k+1,p,a,there,x,h=>by
  rw[dK]at h
  obtain⟨p1,h1,h⟩:=Res.then_ok h
  obtain⟨v,h2,h⟩:=Res.then_ok h
  obtain⟨p2,h3,h⟩:=Res.then_ok h
  obtain⟨vr,⟨va,vk⟩,vc⟩:=yB h2
  have keep:∀b,(if nums.any fun l=>!l.contains v.1 then .no 8 b else once there v.1 b)=.ok v.2.1:=fun b=>by
   split at vk
   ·cases vk
   ·rename_i hh;rw[if_neg hh];exact Ff b vk
  have one:∀(q:PS) (r:List Tk),bz q (tK [99,97,115,101]::tI v.1::tS 58::r)→∃q1 q2 q3,want q [[99,97,115,101]]=.ok q1∧value q1 lo hi (fun n at_=>if nums.any fun l=>!l.contains n then .no 8 at_ else once there n at_)=.ok (v.1,v.2.1,q2)∧want q2 [[58]]=.ok q3∧bz q3 r∧cq q3=cq q:=fun q r hs=>by
   obtain⟨q1,a1,a2,a3⟩:=dF (s:=[99,97,115,101]) rfl hs
   obtain⟨q2,b1,b2,b3⟩:=Cj (keep:=fun n at_=>if nums.any fun l=>!l.contains n then .no 8 at_ else once there n at_) vr.1 vr.2 keep a2
   obtain⟨q3,c1,c2,c3⟩:=dF (s:=[58]) rfl b2
   exact⟨q1,q2,q3,a1,b1,c1,c2,c3.trans (b3.trans a3)⟩
  split at h
  ·obtain⟨c,e1,e2,e3⟩:=Jv lo hi nums k h
   refine⟨v.1::c,by rw[e1];simp,by simp,fun q r hs hr=>?_⟩
   obtain⟨q1,q2,q3,a1,a2,a3,a4,a5⟩:=one q _ hs
   obtain⟨q4,b1,b2,b3⟩:=e3 q3 r a4 hr
   refine⟨q4,?_,b2,b3.trans a5⟩
   have hd:q3.w.is [99,97,115,101]=true:=by
    rw[Af a4]
    cases c with
    |nil=>exact absurd rfl e2
    |cons n t=>rfl
   rw[dK,a1,Res.ak,a2,Res.ak]
   simp only[a3,Res.ak,hd,if_true,b1]
  ·cases h
   refine⟨[v.1],rfl,by simp,fun q r hs hr=>?_⟩
   obtain⟨q1,q2,q3,a1,a2,a3,a4,a5⟩:=one q _ hs
   refine⟨q3,?_,a4,a5⟩
   have hd:q3.w.is [99,97,115,101]=false:=by rw[Af a4];exact hr
   rw[dK,a1,Res.ak,a2,Res.ak]
   simp only[a3,Res.ak,hd,if_false,Bool.false_eq_true]
theorem WW{d:Decl}(h:NA d)(r:List Tk){s:By}(hs:[[105,110,116],[104,121,112,101,114],[98,111,111,108],[117,110,115,105,103,110,101,100],[115,116,114,105,110,103],[111,112,97,113,117,101],[118,111,105,100]].contains s=false):BO (iZ d++r) s=false:=by
 have hs:=Oa hs
 simp only[List.mem_cons,List.not_mem_nil,or_false,not_or]at hs
 obtain⟨h1,h2,h3,h4,h5,h6,h7⟩:=hs
 rcases h with h|rfl
 ·exact Om h r (by simp[h1,h2,h3,h4,h5,h6])
 ·exact beq_eq_false_iff_ne.mpr (Ne.symm h7)
theorem Md(lo hi:Int)(nums:Option (List Int)):∀(k:Nat) {p:PS} {as:List Arm} {l:List By} {there:List Int} {x:List Arm×List By×PS},gG lo hi nums k p as l there=.ok x→WOk p →
  ∃new,x.1=as++new∧new≠[]∧(∀a∈new,a.nums≠[])∧∀(q:PS) (bs:List Arm) (r:List Tk),cq q=cq p→bz q (sN new++r)→BO r [99,97,115,101]=false→∃n2 q',gG lo hi nums k q bs l there=.ok (bs++n2,x.2.1,q')∧n2.map eA=new.map eA∧bz q' r∧cq q'=cq x.2.2
 |0,_,_,_,_,_,h,_=>by cases h
 |k+1,p,as,l,there,x,h,hw=>by
  rw[gG]at h
  obtain⟨c,h1,h⟩:=Res.then_ok h
  obtain⟨d,h2,h⟩:=Res.then_ok h
  obtain⟨cc,e1,e2,e3⟩:=Jv lo hi nums _ h1
  rw[List.nil_append]at e1
  have hwc:=BJ (lo:=lo) (hi:=hi) (nums:=nums) _ hw c h1
  have hcc:cq c.2.2=cq p:=Ig _ rfl c h1
  have hd:=Wn hwc d h2
  split at h
  ·obtain⟨new,f1,f2,f3,f4⟩:=Md lo hi nums k h hd.2
   refine⟨⟨c.1,d.1⟩::new,by rw[f1];simp,by simp,fun a ha=>?_,fun q bs r hc hs hr=>?_⟩
   ·rcases List.mem_cons.mp ha with rfl|ha
    ·show c.1≠[];rw[e1];exact e2
    ·exact f3 a ha
   have hs:bz q (yF c.1++(iZ d.1++(tS 59::(sN new++r)))):=by
    simp only[sN,List.append_assoc,List.cons_append,List.nil_append]at hs;exact hs
   obtain⟨q1,a1,a2,a3⟩:=e3 q _ (e1▸hs) (WW hd.1 _ rfl)
   obtain⟨d',q2,b1,b2,b3,b4⟩:=VQ h2 hwc (a3.trans (hc.trans hcc.symm)) a2
   obtain⟨n2,q3,c1,c2,c3,c4⟩:=f4 q2 (bs++[⟨c.1,d'⟩]) r b4 b3 hr
   refine⟨⟨c.1,d'⟩::n2,q3,?_,by simp[c2,eA,b2],c3,c4⟩
   have hd2:q2.w.is [99,97,115,101]=true:=by
    rw[Af b3]
    cases new with
    |nil=>exact absurd rfl f2
    |cons a t=>
     have:=f3 a (List.mem_cons_self ..)
     rw[sN]
     cases hn:a.nums with
     |nil=>exact absurd hn this
     |cons n u=>rfl
   rw[gG,a1,Res.ak]
   simp only[b1,Res.ak,hd2,if_true,c1,List.append_assoc,List.singleton_append]
  ·cases h
   refine⟨[⟨c.1,d.1⟩],rfl,by simp,fun a ha=>by rw[List.mem_singleton.mp ha];show c.1≠[];rw[e1];exact e2,fun q bs r hc hs hr=>?_⟩
   have hs:bz q (yF c.1++(iZ d.1++(tS 59::r))):=by
    simp only[sN,List.append_assoc,List.cons_append,List.nil_append]at hs;exact hs
   obtain⟨q1,a1,a2,a3⟩:=e3 q _ (e1▸hs) (WW hd.1 _ rfl)
   obtain⟨d',q2,b1,b2,b3,b4⟩:=VQ h2 hwc (a3.trans (hc.trans hcc.symm)) a2
   refine⟨[⟨c.1,d'⟩],q2,?_,by simp[eA,b2],b3,b4⟩
   have hd2:q2.w.is [99,97,115,101]=false:=by rw[Af b3];exact hr
   rw[gG,a1,Res.ak]
   simp only[b1,Res.ak,hd2,if_false,Bool.false_eq_true]
theorem VN{p:PS}{x:Ty×PS}(h:side p=.ok x)(hw:WOk p){q:PS}{r:List Tk}(hr:BO r [104,121,112,101,114]=false∧BO r [105,110,116]=false)(hs:bz q (bU x.1++r)):∃ty q',side q=.ok (ty,q')∧eT ty=eT x.1∧bz q' r∧cq q'=cq q:=by
 unfold side at h
 obtain⟨y,h1,h⟩:=Res.then_ok h
 split at h
 ·cases h
  have hs:bz q (tK [118,111,105,100]::r):=hs
  obtain⟨q1,a1,a2,a3⟩:=o8 (s:=[118,111,105,100]) rfl hs
  refine⟨.void,q1,?_,rfl,a2,a3⟩
  unfold side
  rw[a1];rfl
 ·have hk:=BA (fC hw y h1) x h
  obtain⟨ty,q1,a1,a2,a3,a4⟩:=EY hk.1 hr hs
  have b1:=jo (s:=[118,111,105,100]) (KL hk.1 _ rfl) hs
  refine⟨ty,q1,?_,a2,a3,a4⟩
  unfold side
  rw[b1,Res.ak]
  simp only[Bool.false_eq_true,if_false,a1]
theorem DZ{p:PS}{l:List Int}{x:Int×List Int×PS}(h:numbered p l=.ok x){q:PS}{r:List Tk}(hs:bz q (tS 61::tI x.1::tS 59::r)):∃q',numbered q l=.ok (x.1,x.2.1,q')∧bz q' r∧cq q'=cq q:=by
 unfold numbered at h
 obtain⟨p1,h1,h⟩:=Res.then_ok h
 obtain⟨v,h2,h⟩:=Res.then_ok h
 obtain⟨p2,h3,h⟩:=Res.then_ok h
 cases h
 obtain⟨vr,⟨va,vk⟩,vc⟩:=yB h2
 obtain⟨q1,a1,a2,a3⟩:=dF (s:=[61]) rfl hs
 obtain⟨q2,b1,b2,b3⟩:=Cj (keep:=fun n a=>once l n a) vr.1 vr.2 (fun a=>Ff a vk) a2
 obtain⟨q3,c1,c2,c3⟩:=dF (s:=[59]) rfl b2
 refine⟨q3,?_,c2,c3.trans (b3.trans a3)⟩
 unfold numbered
 rw[a1,Res.ak,b1,Res.ak,c1];rfl
theorem Y0{t:Ty}(h:NS t)(r:List Tk){s:By}(hs:[[105,110,116],[104,121,112,101,114],[98,111,111,108],[117,110,115,105,103,110,101,100],[118,111,105,100]].contains s=false):BO (bU t++r) s=false:=by
 have hs:=Oa hs
 simp only[List.mem_cons,List.not_mem_nil,or_false,not_or]at hs
 obtain⟨h1,h2,h3,h4,h7⟩:=hs
 rcases h with h|rfl
 ·exact KL h r (by simp[h1,h2,h3,h4])
 ·exact beq_eq_false_iff_ne.mpr (Ne.symm h7)
theorem Jp:∀(k:Nat) {p:PS} {qs:List gq} {l:List By} {ns:List Int} {x:List gq×PS},dX k p qs l ns=.ok x→WOk p →
  ∃new,x.1=qs++new∧new≠[]∧(∀a∈new,NQ a)∧∀(q:PS) (bs:List gq) (r:List Tk),cq q=cq p→bz q (kJ new++(tS 125::r))→∃n2 q',dX k q bs l ns=.ok (bs++n2,q')∧n2.map eQ=new.map eQ∧bz q' r∧cq q'=cq x.2
 |0,_,_,_,_,_,h,_=>by cases h
 |k+1,p,qs,l,ns,x,h,hw=>by
  have hx0:=sH (k+1) rfl x h
  rw[dX]at h
  obtain⟨re,h1,h⟩:=Res.then_ok h
  obtain⟨nm,h2,h⟩:=Res.then_ok h
  obtain⟨p1,h3,h⟩:=Res.then_ok h
  obtain⟨ar,h4,h⟩:=Res.then_ok h
  obtain⟨p2,h5,h⟩:=Res.then_ok h
  obtain⟨n,h6,h⟩:=Res.then_ok h
  obtain⟨y,h7,h⟩:=Res.then_ok h
  have w1:=Ob hw re h1
  have w2:=sD l w1.2 nm h2
  have w3:WOk p1:=aQ w2.2 p1 h3
  have w4:=Ob w3 ar h4
  have w5:WOk p2:=aQ w4.2 p2 h5
  have w6:=wH w5 n h6
  have w7:=fC w6 y h7
  have hnq:NQ ⟨nm.1.s,n.1,ar.1,re.1⟩:=⟨w2.1,w4.1,w1.1⟩
  have one:∀(q:PS) (r:List Tk),bz q (bU re.1++(tN nm.1.s::tS 40::(bU ar.1++(tS 41::tS 61::tI n.1::tS 59::r))))→∃t1 q1 w q2 q3 t2 q4 q5 q6,side q=.ok (t1,q1)∧eT t1=eT re.1∧called q1 l=.ok (w,nm.2.1,q2)∧w.s=nm.1.s∧want q2 [[40]]=.ok q3∧side q3=.ok (t2,q4)∧eT t2=eT ar.1∧want q4 [[41]]=.ok q5∧numbered q5 ns=.ok (n.1,n.2.1,q6)∧bz q6 r∧cq q6=cq q:=fun q r hs=>by
   obtain⟨t1,q1,a1,a2,a3,a4⟩:=VN h1 hw ⟨rfl,rfl⟩ hs
   obtain⟨w,q2,b1,b2,b3,b4⟩:=E5 h2 a3
   obtain⟨q3,c1,c2,c3⟩:=dF (s:=[40]) rfl b3
   obtain⟨t2,q4,d1,d2,d3,d4⟩:=VN h4 w3 ⟨rfl,rfl⟩ c2
   obtain⟨q5,e1,e2,e3⟩:=dF (s:=[41]) rfl d3
   obtain⟨q6,f1,f2,f3⟩:=DZ h6 e2
   exact⟨t1,q1,w,q2,q3,t2,q4,q5,q6,a1,a2,b1,b2,c1,d1,d2,e1,f1,f2,f3.trans (e3.trans (d4.trans (c3.trans (b4.trans a4))))⟩
  split at h
  ·cases h
   refine⟨[⟨nm.1.s,n.1,ar.1,re.1⟩],rfl,by simp,fun a ha=>by rw[List.mem_singleton.mp ha];exact hnq,fun q bs r hc hs=>?_⟩
   have hs:bz q (bU re.1++(tN nm.1.s::tS 40::(bU ar.1++(tS 41::tS 61::tI n.1::tS 59::tS 125::r)))):=by
    simp only[kJ,List.append_assoc,List.cons_append,List.nil_append]at hs;exact hs
   obtain⟨t1,q1,w,q2,q3,t2,q4,q5,q6,a1,a2,a3,a4,a5,a6,a7,a8,a9,a10,a11⟩:=one q _ hs
   obtain⟨q7,b1,b2,b3⟩:=o8 (s:=[125]) rfl a10
   refine⟨[⟨w.s,n.1,t2,t1⟩],q7,?_,by simp[eQ,a2,a4,a7],b2,b3.trans (a11.trans (hc.trans hx0.symm))⟩
   rw[dX,a1,Res.ak]
   simp only[a3,a5,a6,a8,a9,b1,Res.ak,if_true]
  ·obtain⟨new,f1,f2,f3,f4⟩:=Jp k h w7
   refine⟨⟨nm.1.s,n.1,ar.1,re.1⟩::new,by rw[f1];simp,by simp,fun a ha=>?_,fun q bs r hc hs=>?_⟩
   ·rcases List.mem_cons.mp ha with rfl|ha
    ·exact hnq
    ·exact f3 a ha
   have hs:bz q (bU re.1++(tN nm.1.s::tS 40::(bU ar.1++(tS 41::tS 61::tI n.1::tS 59::(kJ new++(tS 125::r)))))):=by
    simp only[kJ,List.append_assoc,List.cons_append,List.nil_append]at hs;exact hs
   obtain⟨t1,q1,w,q2,q3,t2,q4,q5,q6,a1,a2,a3,a4,a5,a6,a7,a8,a9,a10,a11⟩:=one q _ hs
   have b1:take q6 [125]=.ok (false,q6):=by
    refine jo ?_ a10
    cases new with
    |nil=>exact absurd rfl f2
    |cons a t=>rw[kJ,List.append_assoc];exact Y0 (f3 a (List.mem_cons_self ..)).2.2 _ rfl
   have hcy:cq y.2=cq p:=by
    have:=sH k rfl x h
    rw[← this];exact hx0
   obtain⟨n2,q7,c1,c2,c3,c4⟩:=f4 q6 (bs++[⟨w.s,n.1,t2,t1⟩]) r (a11.trans (hc.trans hcy.symm)) a10
   refine⟨⟨w.s,n.1,t2,t1⟩::n2,q7,?_,by simp[eQ,a2,a4,a7,c2],c3,c4⟩
   rw[dX,a1,Res.ak]
   simp only[a3,a5,a6,a8,a9,b1,Res.ak,if_false,Bool.false_eq_true,a4,c1,List.append_assoc,List.singleton_append]
   rw[a4]at c1
   rw[c1];simp
theorem Mc{p:PS}{names:List By}{nums:List Int}{x:gI×List By×List Int×PS}(h:version p names nums=.ok x)(hw:WOk p){q:PS}{r:List Tk}(hc:cq q=cq p)
  (hs:bz q (tK [118,101,114,115,105,111,110]::tN x.1.name::tS 123::(kJ x.1.procs++(tS 125::tS 61::tI x.1.n::tS 59::r)))):∃v q',version q names nums=.ok (v,x.2.1,x.2.2.1,q')∧eV v=eV x.1∧bz q' r∧cq q'=cq x.2.2.2:=by
 have hx0:=Si rfl x h
 unfold version at h
 obtain⟨p1,h1,h⟩:=Res.then_ok h
 obtain⟨nm,h2,h⟩:=Res.then_ok h
 obtain⟨p2,h3,h⟩:=Res.then_ok h
 obtain⟨y,h4,h⟩:=Res.then_ok h
 obtain⟨n,h5,h⟩:=Res.then_ok h
 cases h
 have w1:WOk p1:=aQ hw p1 h1
 have w2:=sD _ w1 nm h2
 have w3:WOk p2:=aQ w2.2 p2 h3
 have k2:cq p2=cq p:=(dO h3).trans ((jK rfl nm h2).trans (dO h1))
 obtain⟨q1,a1,a2,a3⟩:=dF (s:=[118,101,114,115,105,111,110]) rfl hs
 obtain⟨w,q2,b1,b2,b3,b4⟩:=E5 h2 a2
 obtain⟨q3,c1,c2,c3⟩:=dF (s:=[123]) rfl b3
 obtain⟨new,e1,e2,e3,e4⟩:=Jp 8 h4 w3
 rw[List.nil_append]at e1
 have c2:bz q3 (kJ y.1++(tS 125::tS 61::tI n.1::tS 59::r)):=c2
 rw[e1]at c2
 obtain⟨n2,q4,d1,d2,d3,d4⟩:=e4 q3 [] _ (c3.trans (b4.trans (a3.trans (hc.trans k2.symm)))) c2
 obtain⟨q5,f1,f2,f3⟩:=DZ h5 d3
 refine⟨⟨w.s,n.1,n2⟩,q5,?_,?_,f2,?_⟩
 ·unfold version
  rw[a1,Res.ak]
  simp only[b1,c1,Res.ak]
  rw[show (([]:List gq)++n2)=n2 from rfl]at d1
  simp only[d1,Res.ak,f1]
 ·simp only[eV,b2,d2,e1]
 ·exact f3.trans (d4.trans ((sH 8 rfl y h4).trans (k2.trans hx0.symm)))
theorem Jo:∀(k:Nat) {p:PS} {vs:List gI} {l:List By} {ns:List Int} {x:List gI×PS},fE k p vs l ns=.ok x→WOk p →
  ∃new,x.1=vs++new∧new≠[]∧∀(q:PS) (bs:List gI) (r:List Tk),cq q=cq p→bz q (yE new++(tS 125::r))→∃n2 q',fE k q bs l ns=.ok (bs++n2,q')∧n2.map eV=new.map eV∧bz q' r∧cq q'=cq x.2
 |0,_,_,_,_,_,h,_=>by cases h
 |k+1,p,vs,l,ns,x,h,hw=>by
  rw[fE]at h
  obtain⟨v,h1,h⟩:=Res.then_ok h
  obtain⟨y,h2,h⟩:=Res.then_ok h
  have w1:=MF hw v h1
  have w2:=fC w1.2 y h2
  have k2:cq y.2=cq v.2.2.2:=jS rfl y h2
  split at h
  ·cases h
   refine⟨[v.1],rfl,by simp,fun q bs r hc hs=>?_⟩
   have hs:bz q (tK [118,101,114,115,105,111,110]::tN v.1.name::tS 123::(kJ v.1.procs++(tS 125::tS 61::tI v.1.n::tS 59::tS 125::r))):=by
    simp only[yE,List.append_assoc,List.cons_append,List.nil_append]at hs;exact hs
   obtain⟨v',q1,a1,a2,a3,a4⟩:=Mc h1 hw hc hs
   obtain⟨q2,b1,b2,b3⟩:=o8 (s:=[125]) rfl a3
   refine⟨[v'],q2,?_,by simp[a2],b2,b3.trans (a4.trans k2.symm)⟩
   rw[fE,a1,Res.ak,b1];rfl
  ·obtain⟨new,f1,f2,f3⟩:=Jo k h w2
   refine⟨v.1::new,by rw[f1];simp,by simp,fun q bs r hc hs=>?_⟩
   have hs:bz q (tK [118,101,114,115,105,111,110]::tN v.1.name::tS 123::(kJ v.1.procs++(tS 125::tS 61::tI v.1.n::tS 59::(yE new++(tS 125::r))))):=by
    simp only[yE,List.append_assoc,List.cons_append,List.nil_append]at hs;exact hs
   obtain⟨v',q1,a1,a2,a3,a4⟩:=Mc h1 hw hc hs
   have b1:take q1 [125]=.ok (false,q1):=by
    refine jo ?_ a3
    cases new with
    |nil=>exact absurd rfl f2
    |cons a t=>rfl
   obtain⟨n2,q2,c1,c2,c3,c4⟩:=f3 q1 (bs++[v']) r (a4.trans k2.symm) a3
   refine⟨v'::n2,q2,?_,by simp[a2,c2],c3,c4⟩
   rw[fE,a1,Res.ak,b1,Res.ak]
   simp only[Bool.false_eq_true,if_false,c1,List.append_assoc,List.singleton_append]
end Go.M
namespace Go.M
def SF(f:PS→Res (Def×PS)):Prop:=∀(p:PS) (x:Def×PS),f p=.ok x→WOk p→∀(q:PS) (r:List Tk),cq q=cq p→bz q (qI x.1++r)→∃d q',f q=.ok (d,q')∧eF d=eF x.1∧bz q' r∧cq q'=cq x.2
theorem Rq:SF constant:=fun p x h hw q r hc hs=>by
 unfold constant at h
 obtain⟨u,h0,h⟩:=Res.then_ok h
 obtain⟨p1,h1,h⟩:=Res.then_ok h
 obtain⟨w,h2,h⟩:=Res.then_ok h
 obtain⟨p2,h3,h⟩:=Res.then_ok h
 obtain⟨v,h4,h⟩:=Res.then_ok h
 obtain⟨p3,h5,h⟩:=Res.then_ok h
 cases h
 obtain⟨vr,_,vc⟩:=yB h4
 have hs:bz q (tK [99,111,110,115,116]::tN w.1.s::tS 61::tI v.1::tS 59::r):=hs
 obtain⟨q1,a1,a2,a3⟩:=dF (s:=[99,111,110,115,116]) rfl hs
 obtain⟨w',q2,b1,b2,b3,b4⟩:=Jq h2 (a3.trans (hc.trans (dO h1).symm)) a2
 obtain⟨q3,c1,c2,c3⟩:=dF (s:=[61]) rfl b3
 obtain⟨q4,d1,d2,d3⟩:=Cj (lo:=least) (hi:=top) (keep:=kH) (v:=()) vr.1 vr.2 (fun _=>rfl) c2
 obtain⟨q5,e1,e2,e3⟩:=dF (s:=[59]) rfl d2
 have hq:cq q5=cq p3:=e3.trans (d3.trans (c3.trans (b4.trans ((dO h3).symm.trans (vc.symm.trans (dO h5).symm)))))
 refine⟨⟨w'.s,w'.at_,.const v.1⟩,{ q5 with n1:=q5.n1+1,consts:=bg q5.consts w'.s v.1 },?_,?_,e2,?_⟩
 ·unfold constant
  rw[Xh hc,wo h0,Res.ak,a1,Res.ak]
  simp only[b1,c1,d1,e1,Res.ak]
 ·simp only[eF,b2]
 ·simp only[cq,Prod.mk.injEq]at hq ⊢
  exact⟨hq.1,hq.2.1,hq.2.2.1,hq.2.2.2.1,by rw[hq.2.2.2.2.1],hq.2.2.2.2.2⟩
theorem Yj:SF alias:=fun p x h hw q r hc hs=>by
 unfold alias at h
 obtain⟨p1,h1,h⟩:=Res.then_ok h
 obtain⟨d,h2,h⟩:=Res.then_ok h
 obtain⟨p2,h3,h⟩:=Res.then_ok h
 cases h
 have w1:WOk p1:=aQ hw p1 h1
 have hnd:=Oc (fun q hq x hx=>(V6 q x hx hq).1) w1 d h2
 have ed:(⟨d.2.1.s,d.1.ty⟩:Decl)=d.1:=by rw[hnd.2.2]
 have hs:bz q (tK [116,121,112,101,100,101,102]::(iZ d.1++(tS 59::r))):=by
  simp only[qI,ed,List.append_assoc,List.cons_append,List.nil_append]at hs;exact hs
 obtain⟨q1,a1,a2,a3⟩:=dF (s:=[116,121,112,101,100,101,102]) rfl hs
 obtain⟨d',w',q2,b1,b2,b3,b4,b5⟩:=VP V6 h2 w1 (a3.trans (hc.trans (dO h1).symm)) a2
 obtain⟨q3,c1,c2,c3⟩:=dF (s:=[59]) rfl b4
 refine⟨⟨w'.s,w'.at_,.alias d'.ty⟩,q3,?_,?_,c2,c3.trans (b5.trans (dO h3).symm)⟩
 ·unfold alias
  rw[a1,Res.ak,b1,Res.ak,c1];rfl
 ·have:eT d'.ty=eT d.1.ty:=congrArg Decl.ty b2
  simp only[eF,eK,b3,this]
theorem s_enum:SF enum:=fun p x h hw q r hc hs=>by
 unfold enum at h
 obtain⟨p1,h1,h⟩:=Res.then_ok h
 obtain⟨w,h2,h⟩:=Res.then_ok h
 obtain⟨p2,h3,h⟩:=Res.then_ok h
 obtain⟨y,h4,h⟩:=Res.then_ok h
 obtain⟨p3,h5,h⟩:=Res.then_ok h
 cases h
 have w1:WOk p1:=aQ hw p1 h1
 have w2:=xU w1 w h2
 have w3:WOk p2:=aQ w2.2 p2 h3
 obtain⟨n2,i2,e1,e2,e3,e4,e5⟩:=Js 12 h4 w3
 rw[List.nil_append]at e1 e2
 have hs:bz q (tK [101,110,117,109]::tN w.1.s::tS 123::(kK n2 i2++(tS 125::tS 59::r))):=by
  simp only[qI,e1,e2,List.append_assoc,List.cons_append,List.nil_append]at hs;exact hs
 obtain⟨q1,a1,a2,a3⟩:=dF (s:=[101,110,117,109]) rfl hs
 obtain⟨w',q2,b1,b2,b3,b4⟩:=Jq h2 (a3.trans (hc.trans (dO h1).symm)) a2
 obtain⟨q3,c1,c2,c3⟩:=dF (s:=[123]) rfl b3
 obtain⟨q4,d1,d2,d3⟩:=e5 q3 _ (c3.trans (b4.trans (dO h3).symm)) c2
 obtain⟨q5,f1,f2,f3⟩:=DY (l:=[[125],[59]]) (ts:=[tS 125,tS 59]) (r:=r) ⟨rfl,rfl,trivial⟩ d2
 have hq:cq q5=cq p3:=f3.trans (d3.trans (dO h5).symm)
 refine⟨⟨w'.s,w'.at_,.enum y.1 y.2.1⟩,{ q5 with enums:=bg q5.enums w'.s y.2.1 },?_,?_,f2,?_⟩
 ·unfold enum
  rw[a1,Res.ak]
  simp only[b1,c1,d1,f1,Res.ak]
 ·simp only[eF,b2]
 ·simp only[cq,Prod.mk.injEq]at hq ⊢
  exact⟨hq.1,by rw[hq.2.1,b2],hq.2.2.1,hq.2.2.2.1,hq.2.2.2.2.1,hq.2.2.2.2.2⟩
theorem VM:SF fJ:=fun p x h hw q r hc hs=>by
 unfold fJ at h
 obtain⟨p1,h1,h⟩:=Res.then_ok h
 obtain⟨w,h2,h⟩:=Res.then_ok h
 obtain⟨p2,h3,h⟩:=Res.then_ok h
 obtain⟨y,h4,h⟩:=Res.then_ok h
 obtain⟨p3,h5,h⟩:=Res.then_ok h
 cases h
 have w1:WOk p1:=aQ hw p1 h1
 have w2:=xU w1 w h2
 have w3:WOk p2:=aQ w2.2 p2 h3
 obtain⟨new,e1,e2,e3,e4⟩:=EU 12 h4 w3
 rw[List.nil_append]at e1
 have hs:bz q (tK [115,116,114,117,99,116]::tN w.1.s::tS 123::(qF new++(tS 125::tS 59::r))):=by
  simp only[qI,e1,List.append_assoc,List.cons_append,List.nil_append]at hs;exact hs
 obtain⟨q1,a1,a2,a3⟩:=dF (s:=[115,116,114,117,99,116]) rfl hs
 obtain⟨w',q2,b1,b2,b3,b4⟩:=Jq h2 (a3.trans (hc.trans (dO h1).symm)) a2
 obtain⟨q3,c1,c2,c3⟩:=dF (s:=[123]) rfl b3
 obtain⟨n2,q4,d1,d2,d3,d4⟩:=e4 q3 [] _ (c3.trans (b4.trans (dO h3).symm)) c2
 obtain⟨q5,f1,f2,f3⟩:=dF (s:=[59]) rfl d3
 refine⟨⟨w'.s,w'.at_,.struct n2⟩,q5,?_,?_,f2,f3.trans (d4.trans (dO h5).symm)⟩
 ·unfold fJ
  rw[show (([]:List Decl)++n2)=n2 from rfl]at d1
  rw[a1,Res.ak]
  simp only[b1,c1,d1,f1,Res.ak]
 ·simp only[eF,eK,b2,d2,e1]
theorem Jt{p:PS}{x:(Ty×Int×Int×Option (List Int))×PS}(h:aS p=.ok x)(hw:WOk p){q:PS}{s:By}{r:List Tk}(hc:cq q=cq p)(hs:bz q (bU x.1.1++(tN s::r))):
  ∃o q',aS q=.ok ((o,x.1.2),q')∧eT o=eT x.1.1∧bz q' (tN s::r)∧cq q'=cq x.2:=by
 have hk0:cq x.2=cq p:=IB rfl x h
 unfold aS at h
 simp only at h
 split at h
 ·rename_i hpk
  cases hl:p.enums.lookup p.w.s with
  |none=>rw[hl]at h;cases h
  |some nums=>
   rw[hl]at h
   obtain⟨p1,h1,h⟩:=Res.then_ok h
   cases h
   have hs:bz q (tN p.w.s::tN s::r):=hs
   have hk:(q.w.kind==1)=true:=by rw[sQ hs];rfl
   have hws:q.w.s=p.w.s:=congrArg Tk.s hs.1
   obtain⟨q1,a1,a2,a3⟩:=Ht hs
   refine⟨.named q.w.s q.w.at_,q1,?_,?_,a2,a3.trans (hc.trans hk0.symm)⟩
   ·unfold aS
    simp only[hk,if_true,Xi hc,hws,hl,a1,Res.ak]
   ·show Ty.named q.w.s 0=Ty.named p.w.s 0;rw[hws]
 ·obtain⟨y1,h1,h⟩:=Res.then_ok h
  split at h
  ·cases h
   have hs:bz q (tK [105,110,116]::tN s::r):=hs
   have hk:(q.w.kind==1)=false:=by rw[sQ hs];rfl
   obtain⟨q1,a1,a2,a3⟩:=o8 (s:=[105,110,116]) rfl hs
   refine⟨_,q1,?_,rfl,a2,a3.trans (hc.trans hk0.symm)⟩
   unfold aS
   simp only[hk,a1,Res.ak,if_true,if_false,Bool.false_eq_true]
  ·obtain⟨y2,h2,h⟩:=Res.then_ok h
   split at h
   ·cases h
    have hs:bz q (tK [98,111,111,108]::tN s::r):=hs
    have hk:(q.w.kind==1)=false:=by rw[sQ hs];rfl
    have n1:=jo (s:=[105,110,116]) rfl hs
    obtain⟨q1,a1,a2,a3⟩:=o8 (s:=[98,111,111,108]) rfl hs
    refine⟨_,q1,?_,rfl,a2,a3.trans (hc.trans hk0.symm)⟩
    unfold aS
    simp only[hk,n1,a1,Res.ak,if_true,if_false,Bool.false_eq_true]
   ·obtain⟨y3,h3,h⟩:=Res.then_ok h
    split at h
    ·obtain⟨y4,h4,h⟩:=Res.then_ok h
     cases h
     have hs:bz q (tK [117,110,115,105,103,110,101,100]::tN s::r):=hs
     have hk:(q.w.kind==1)=false:=by rw[sQ hs];rfl
     have n1:=jo (s:=[105,110,116]) rfl hs
     have n2:=jo (s:=[98,111,111,108]) rfl hs
     obtain⟨q1,a1,a2,a3⟩:=o8 (s:=[117,110,115,105,103,110,101,100]) rfl hs
     have n3:=jo (s:=[105,110,116]) rfl a2
     refine⟨_,q1,?_,rfl,a2,a3.trans (hc.trans hk0.symm)⟩
     unfold aS
     simp only[hk,n1,n2,n3,a1,Res.ak,if_true,if_false,Bool.false_eq_true]
    ·cases h
theorem Yh:SF union:=fun p x h hw q r hc hs=>by
 unfold union at h
 obtain⟨p1,h1,h⟩:=Res.then_ok h
 obtain⟨w,h2,h⟩:=Res.then_ok h
 obtain⟨p2,h3,h⟩:=Res.then_ok h
 obtain⟨d,h4,h⟩:=Res.then_ok h
 obtain⟨nm,h5,h⟩:=Res.then_ok h
 obtain⟨p3,h6,h⟩:=Res.then_ok h
 obtain⟨as,h7,h⟩:=Res.then_ok h
 obtain⟨y,h8,h⟩:=Res.then_ok h
 obtain⟨e,h9,h⟩:=Res.then_ok h
 obtain⟨p4,h10,h⟩:=Res.then_ok h
 cases h
 have w1:WOk p1:=aQ hw p1 h1
 have w2:=xU w1 w h2
 have w3:WOk p2:=aQ w2.2 p2 h3
 have w4:=zl w3 d h4
 have w5:=sD _ w4 nm h5
 have w6:WOk p3:=aQ w5.2 p3 h6
 have w7:=GG _ _ _ 13 p3 [] _ [] w6 (fun _ h=>by cases h) as h7
 have w8:=fC w7.2 y h8
 obtain⟨new,e1,e2,e3,e4⟩:=Md _ _ _ 13 h7 w6
 rw[List.nil_append]at e1
 have hs:bz q (tK [117,110,105,111,110]::tN w.1.s::tK [115,119,105,116,99,104]::tS 40::(bU d.1.1++(tN nm.1.s::tS 41::tS 123::(sN new++(Hm e.1++(tS 125::tS 59::r)))))):=by
  simp only[qI,e1,List.append_assoc,List.cons_append,List.nil_append]at hs;exact hs
 obtain⟨q1,a1,a2,a3⟩:=dF (s:=[117,110,105,111,110]) rfl hs
 obtain⟨w',q2,b1,b2,b3,b4⟩:=Jq h2 (a3.trans (hc.trans (dO h1).symm)) a2
 obtain⟨q3,c1,c2,c3⟩:=DY (l:=[[115,119,105,116,99,104],[40]]) (ts:=[tK [115,119,105,116,99,104],tS 40]) (r:=bU d.1.1++(tN nm.1.s::tS 41::tS 123::(sN new++(Hm e.1++(tS 125::tS 59::r))))) ⟨rfl,rfl,trivial⟩ b3
 obtain⟨o,q4,d1,d2,d3,d4⟩:=Jt h4 w3 (c3.trans (b4.trans (dO h3).symm)) c2
 obtain⟨nm',q5,f1,f2,f3,f4⟩:=E5 h5 d3
 obtain⟨q6,g1,g2,g3⟩:=DY (l:=[[41],[123]]) (ts:=[tS 41,tS 123]) (r:=sN new++(Hm e.1++(tS 125::tS 59::r))) ⟨rfl,rfl,trivial⟩ f3
 have k6:cq q6=cq p3:=g3.trans (f4.trans (d4.trans ((jK rfl nm h5).symm.trans (dO h6).symm)))
 have hcase:BO (Hm e.1++(tS 125::tS 59::r)) [99,97,115,101]=false:=by
  cases e.1<;>rfl
 obtain⟨n2,q7,i1,i2,i3,i4⟩:=e4 q6 [] _ k6 g2 hcase
 rw[show (([]:List Arm)++n2)=n2 from rfl]at i1
 have k8:cq y.2=cq as.2.2:=jS rfl y h8
 split at h9
 ·rename_i hy
  obtain⟨p5,j1,h9⟩:=Res.then_ok h9
  obtain⟨ea,j2,h9⟩:=Res.then_ok h9
  cases h9
  have w9:WOk p5:=aQ w8 p5 j1
  have i3:bz q7 (tK [100,101,102,97,117,108,116]::tS 58::(iZ ea.1++(tS 59::tS 125::tS 59::r))):=by
   simp only[Hm,List.append_assoc,List.cons_append,List.nil_append]at i3;exact i3
  obtain⟨q8,l1,l2,l3⟩:=o8 (s:=[100,101,102,97,117,108,116]) rfl i3
  obtain⟨q9,m1,m2,m3⟩:=dF (s:=[58]) rfl l2
  obtain⟨da,q10,n1,n2',n3,n4⟩:=VQ j2 w9 (m3.trans (l3.trans (i4.trans (k8.symm.trans (dO j1).symm)))) m2
  obtain⟨q11,o1,o2,o3⟩:=DY (l:=[[125],[59]]) (ts:=[tS 125,tS 59]) (r:=r) ⟨rfl,rfl,trivial⟩ n3
  refine⟨⟨w'.s,w'.at_,.union o nm'.s n2 (some da)⟩,q11,?_,?_,o2,o3.trans (n4.trans (dO h10).symm)⟩
  ·unfold union
   rw[a1,Res.ak]
   simp only[b1,c1,d1,f1,g1,i1,l1,m1,n1,o1,Res.ak,if_true]
  ·simp only[eF,eK,b2,d2,f2,i2,e1,Option.map_some,n2']
 ·cases h9
  have i3:bz q7 (tS 125::tS 59::r):=i3
  have l1:=jo (s:=[100,101,102,97,117,108,116]) rfl i3
  obtain⟨q11,o1,o2,o3⟩:=DY (l:=[[125],[59]]) (ts:=[tS 125,tS 59]) (r:=r) ⟨rfl,rfl,trivial⟩ i3
  refine⟨⟨w'.s,w'.at_,.union o nm'.s n2 none⟩,q11,?_,?_,o2,o3.trans (i4.trans (k8.symm.trans (dO h10).symm))⟩
  ·unfold union
   rw[a1,Res.ak]
   simp only[b1,c1,d1,f1,g1,i1,l1,o1,Res.ak,if_false,Bool.false_eq_true]
  ·simp only[eF,eK,b2,d2,f2,i2,e1,Option.map_none]
theorem UD:SF program:=fun p x h hw q r hc hs=>by
 unfold program at h
 obtain⟨u,h0,h⟩:=Res.then_ok h
 obtain⟨p1,h1,h⟩:=Res.then_ok h
 obtain⟨w,h2,h⟩:=Res.then_ok h
 obtain⟨p2,h3,h⟩:=Res.then_ok h
 obtain⟨y,h4,h⟩:=Res.then_ok h
 obtain⟨n,h5,h⟩:=Res.then_ok h
 cases h
 have w1:WOk p1:=aQ (p:={ p with n2:=p.n2+1 }) hw p1 h1
 have w2:=xU w1 w h2
 have w3:WOk p2:=aQ w2.2 p2 h3
 obtain⟨new,e1,e2,e3⟩:=Jo 4 h4 w3
 rw[List.nil_append]at e1
 have hs:bz { q with n2:=q.n2+1 } (tK [112,114,111,103,114,97,109]::tN w.1.s::tS 123::(yE new++(tS 125::tS 61::tI n.1::tS 59::r))):=by
  simp only[qI,e1,List.append_assoc,List.cons_append,List.nil_append]at hs;exact hs
 have hc0:cq { q with n2:=q.n2+1 }=cq { p with n2:=p.n2+1 }:=by
  simp only[cq,Prod.mk.injEq]at hc ⊢
  exact⟨hc.1,hc.2.1,hc.2.2.1,hc.2.2.2.1,hc.2.2.2.2.1,by rw[hc.2.2.2.2.2]⟩
 obtain⟨q1,a1,a2,a3⟩:=dF (s:=[112,114,111,103,114,97,109]) rfl hs
 obtain⟨w',q2,b1,b2,b3,b4⟩:=Jq h2 (a3.trans (hc0.trans (dO h1).symm)) a2
 obtain⟨q3,c1,c2,c3⟩:=dF (s:=[123]) rfl b3
 obtain⟨n2,q4,d1,d2,d3,d4⟩:=e3 q3 [] _ (c3.trans (b4.trans (dO h3).symm)) c2
 rw[show (([]:List gI)++n2)=n2 from rfl]at d1
 obtain⟨q5,f1,f2,f3⟩:=DZ h5 d3
 have hq:cq q5=cq n.2.2:=f3.trans (d4.trans (BM rfl n h5).symm)
 refine⟨⟨w'.s,w'.at_,.prog n.1 n2⟩,{ q5 with ik:=n.2.1 },?_,?_,f2,?_⟩
 ·unfold program
  rw[ZN hc,wo h0,Res.ak]
  rw[ZN hc]at a1
  rw[a1,Res.ak]
  simp only[b1,c1,d1,Res.ak,Xg d4,f1]
 ·simp only[eF,eK,b2,d2,e1]
 ·simp only[cq,Prod.mk.injEq]at hq ⊢
  exact⟨hq.1,hq.2.1,trivial,hq.2.2.2.1,hq.2.2.2.2.1,hq.2.2.2.2.2⟩
theorem s_head{p:PS}{x:Def×PS}(h:definition p=.ok x):∃s t,qI x.1=tK s::t∧p.w.is s=true:=by
 unfold definition at h
 simp only at h
 split at h
 ·rename_i hh
  unfold constant at h
  obtain⟨_,_,h⟩:=Res.then_ok h
  obtain⟨_,_,h⟩:=Res.then_ok h
  obtain⟨_,_,h⟩:=Res.then_ok h
  obtain⟨_,_,h⟩:=Res.then_ok h
  obtain⟨_,_,h⟩:=Res.then_ok h
  obtain⟨_,_,h⟩:=Res.then_ok h
  cases h
  exact⟨_,_,rfl,hh⟩
 split at h
 ·rename_i hh
  unfold program at h
  obtain⟨_,_,h⟩:=Res.then_ok h
  obtain⟨_,_,h⟩:=Res.then_ok h
  obtain⟨_,_,h⟩:=Res.then_ok h
  obtain⟨_,_,h⟩:=Res.then_ok h
  obtain⟨_,_,h⟩:=Res.then_ok h
  obtain⟨_,_,h⟩:=Res.then_ok h
  cases h
  exact⟨_,_,rfl,hh⟩
 split at h
 ·rename_i hh
  obtain⟨_,_,h⟩:=Res.then_ok h
  unfold alias at h
  obtain⟨_,_,h⟩:=Res.then_ok h
  obtain⟨_,_,h⟩:=Res.then_ok h
  obtain⟨_,_,h⟩:=Res.then_ok h
  cases h
  exact⟨_,_,rfl,hh⟩
 split at h
 ·rename_i hh
  obtain⟨_,_,h⟩:=Res.then_ok h
  unfold enum at h
  obtain⟨_,_,h⟩:=Res.then_ok h
  obtain⟨_,_,h⟩:=Res.then_ok h
  obtain⟨_,_,h⟩:=Res.then_ok h
  obtain⟨_,_,h⟩:=Res.then_ok h
  obtain⟨_,_,h⟩:=Res.then_ok h
  cases h
  exact⟨_,_,rfl,hh⟩
 split at h
 ·rename_i hh
  obtain⟨_,_,h⟩:=Res.then_ok h
  unfold fJ at h
  obtain⟨_,_,h⟩:=Res.then_ok h
  obtain⟨_,_,h⟩:=Res.then_ok h
  obtain⟨_,_,h⟩:=Res.then_ok h
  obtain⟨_,_,h⟩:=Res.then_ok h
  obtain⟨_,_,h⟩:=Res.then_ok h
  cases h
  exact⟨_,_,rfl,hh⟩
 split at h
 ·rename_i hh
  obtain⟨_,_,h⟩:=Res.then_ok h
  unfold union at h
  obtain⟨_,_,h⟩:=Res.then_ok h
  obtain⟨_,_,h⟩:=Res.then_ok h
  obtain⟨_,_,h⟩:=Res.then_ok h
  obtain⟨_,_,h⟩:=Res.then_ok h
  obtain⟨_,_,h⟩:=Res.then_ok h
  obtain⟨_,_,h⟩:=Res.then_ok h
  obtain⟨_,_,h⟩:=Res.then_ok h
  obtain⟨_,_,h⟩:=Res.then_ok h
  obtain⟨_,_,h⟩:=Res.then_ok h
  obtain⟨_,_,h⟩:=Res.then_ok h
  cases h
  exact⟨_,_,rfl,hh⟩
 cases h
theorem is_eq{a b:Wd}{s:By}(ha:a.is s=true)(hb:b.is s=true)(t:By):a.is t=b.is t:=by
 unfold Wd.is at ha hb ⊢
 simp only[Bool.and_eq_true,beq_iff_eq]at ha hb
 rw[ha.1,hb.1,ha.2,hb.2]
theorem NM:SF definition:=fun p x h hw q r hc hs=>by
 obtain⟨s,t,e1,e2⟩:=s_head h
 have hq:q.w.is s=true:=by rw[e1]at hs;rw[Af hs];simp[BO,tIs,tK]
 have same:∀t,q.w.is t=p.w.is t:=is_eq hq e2
 have hw':WOk { p with n0:=p.n0+1 }:=hw
 have hs':bz { q with n0:=q.n0+1 } (qI x.1++r):=by
  rw[e1]at hs ⊢;exact hs
 have hc':cq { q with n0:=q.n0+1 }=cq { p with n0:=p.n0+1 }:=by
  simp only[cq,Prod.mk.injEq]at hc ⊢
  exact⟨hc.1,hc.2.1,hc.2.2.1,by rw[hc.2.2.2.1],hc.2.2.2.2.1,hc.2.2.2.2.2⟩
 have h0:=cq_n0 hc
 unfold definition at h ⊢
 simp only[same]at h ⊢
 split at h
 ·rename_i hh;rw[if_pos hh];exact Rq p x h hw q r hc hs
 rename_i hh;rw[if_neg hh]
 split at h
 ·rename_i hh;rw[if_pos hh];exact UD p x h hw q r hc hs
 rename_i hh;rw[if_neg hh]
 split at h
 ·rename_i hh;rw[if_pos hh]
  obtain⟨_,hn,h⟩:=Res.then_ok h
  rw[h0,wo hn,Res.ak,← h0];exact Yj _ x h hw' _ r hc' hs'
 rename_i hh;rw[if_neg hh]
 split at h
 ·rename_i hh;rw[if_pos hh]
  obtain⟨_,hn,h⟩:=Res.then_ok h
  rw[h0,wo hn,Res.ak,← h0];exact s_enum _ x h hw' _ r hc' hs'
 rename_i hh;rw[if_neg hh]
 split at h
 ·rename_i hh;rw[if_pos hh]
  obtain⟨_,hn,h⟩:=Res.then_ok h
  rw[h0,wo hn,Res.ak,← h0];exact VM _ x h hw' _ r hc' hs'
 rename_i hh;rw[if_neg hh]
 split at h
 ·rename_i hh;rw[if_pos hh]
  obtain⟨_,hn,h⟩:=Res.then_ok h
  rw[h0,wo hn,Res.ak,← h0];exact Yh _ x h hw' _ r hc' hs'
 cases h
theorem Ju:∀(k:Nat) {p:PS} {ds l:List Def},fU k p ds=.ok l→WOk p →
  ∃new,l=ds++new∧∀(q:PS) (es:List Def),cq q=cq p→bz q (DX new)→∃n2,fU k q es=.ok (es++n2)∧n2.map eF=new.map eF
 |0,p,ds,l,h,_=>by
  cases h
  exact⟨[],by simp,fun q es _ _=>⟨[],by simp[fU],rfl⟩⟩
 |k+1,p,ds,l,h,hw=>by
  rw[fU]at h
  split at h
  ·cases h
   refine⟨[],by simp,fun q es _ hs=>⟨[],?_,rfl⟩⟩
   have hk:(q.w.kind==0)=true:=by rw[sQ hs];rfl
   rw[fU,if_pos hk];simp
  ·obtain⟨x,h1,h⟩:=Res.then_ok h
   have hx:=FH hw x h1
   obtain⟨new,e1,e2⟩:=Ju k h hx.2.2
   refine⟨x.1::new,by rw[e1];simp,fun q es hc hs=>?_⟩
   have hs:bz q (qI x.1++DX new):=hs
   obtain⟨d,q1,a1,a2,a3,a4⟩:=NM p x h1 hw q _ hc hs
   obtain⟨n2,b1,b2⟩:=e2 q1 (es++[d]) a4 a3
   refine⟨d::n2,?_,by simp[a2,b2]⟩
   have hk:¬ (q.w.kind==0)=true:=by
    obtain⟨s,t,f1,_⟩:=s_head h1
    rw[f1]at hs
    rw[sQ hs];exact Bool.false_ne_true
   rw[fU,if_neg hk,a1,Res.ak,b1];simp
theorem Yi{txt:By}{ds:List Def}(h:parse txt=.ok ds):∃ds',parse (fK ds)=.ok ds'∧ds'.map eF=ds.map eF:=by
 have hpk:=(JF h).1
 unfold parse at h
 obtain⟨p,h1,h⟩:=Res.then_ok h
 obtain⟨new,e1,e2⟩:=Ju 69 h (jU h1)
 rw[List.nil_append]at e1
 subst e1
 have hl:=TE hpk (fK ds) 0 rfl
 have:∃q,advance ⟨fK ds,0,⟨0,[],0,0⟩,[],[],[],[],0,0,0⟩=.ok q∧bz q (DX ds)∧cq q=cq p:=by
  have hc:=qE h1
  cases ht:DX ds with
  |nil=>
   rw[ht]at hl
   obtain⟨w,e,a1,a2⟩:=hl
   exact⟨⟨fK ds,e,w,[],[],[],[],0,0,0⟩,by unfold advance;simp only[a1,Res.ak],a2,hc.symm⟩
  |cons t r=>
   rw[ht]at hl
   obtain⟨w,e,a1,a2,a3⟩:=hl
   exact⟨⟨fK ds,e,w,[],[],[],[],0,0,0⟩,by unfold advance;simp only[a1,Res.ak],⟨a2,a3⟩,hc.symm⟩
 obtain⟨q,a1,a2,a3⟩:=this
 obtain⟨n2,b1,b2⟩:=e2 q [] a3 a2
 refine⟨n2,?_,b2⟩
 unfold parse
 rw[a1,Res.ak,b1];rfl
end Go.M
namespace Go.M
theorem FT:∀t:Ty,dU (eT t)=dU t
 |.basic _=>rfl
 |.named _ _=>rfl
 |.bytes _ _ _=>rfl
 |.array t _ _=>FT t
 |.opt t=>by rw[eT,dU,dU,FT t]
 |.void=>rfl
theorem Xq(t:Ty):wK (eT t)=wK t:=by cases t<;>rfl
theorem IJ(d:Decl):oP (eD d)=oP d:=by
 unfold oP eD
 simp only[FT,Xq]
theorem Tv:∀l:List Decl,jd (l.map eD)=jd l
 |[]=>rfl
 |d::r=>by rw[List.map_cons,jd,jd,IJ,Tv r]
theorem Xr:∀l:List Arm,nG (l.map eA)=nG l
 |[]=>rfl
 |a::r=>by rw[List.map_cons,nG,nG,Xr r];show lW a.nums++(oP (eD a.decl)++_)++_=_;rw[IJ]
theorem els_e(e:Option Decl):FY (e.map eD)=FY e:=by
 cases e with
 |none=>rfl
 |some d=>show [100,101,102,97,117,108,116,58,32]++oP (eD d)++_=_;rw[IJ];rfl
theorem VL(t:Ty):sW (eT t)=sW t:=by unfold sW;rw[FT]
theorem Tt:∀l:List gq,iM (l.map eQ)=iM l
 |[]=>rfl
 |q::r=>by
  rw[List.map_cons,iM,iM,Tt r]
  show sW (eT q.res)++_++q.name++_++sW (eT q.arg)++_++_++_++_=_
  rw[VL,VL];rfl
theorem VB:∀l:List gI,kX (l.map eV)=kX l
 |[]=>rfl
 |v::r=>by
  rw[List.map_cons,kX,kX,VB r]
  show _++v.name++_++iM (v.procs.map eQ)++_++_=_
  rw[Tt];rfl
theorem def_e(d:Def):lV (eF d)=lV d:=by
 obtain⟨nm,at_,k⟩:=d
 cases k with
 |const n=>rfl
 |alias t=>
  show [116,121,112,101,100,101,102,32]++oP (eD ⟨nm,t⟩)++_=_
  rw[IJ];rfl
 |enum ns is=>rfl
 |struct ds=>
  show [115,116,114,117,99,116,32]++nm++[32,123,32]++jd (ds.map eD)++_=_
  rw[Tv];rfl
 |union o m ar els=>
  show [117,110,105,111,110,32]++nm++[32,115,119,105,116,99,104,32,40]++dU (eT o)++m++[41,32,123,32]++nG (ar.map eA)++FY (els.map eD)++_=_
  rw[FT,Xr,els_e];rfl
 |prog n vs=>
  show [112,114,111,103,114,97,109,32]++nm++[32,123,32]++kX (vs.map eV)++_++_++_=_
  rw[VB];rfl
theorem NR:∀l:List Def,fK (l.map eF)=fK l
 |[]=>rfl
 |d::r=>by rw[List.map_cons,fK,fK,def_e,NR r]
def eL(x:Nat×By×Nat):Nat×By×Nat:=(x.1,x.2.1,0)
def eN(x:By×Def):By×Def:=(x.1,eF x.2)
def eC(c:CS):CS:={ c with calls:=c.calls.map eL,defs:=c.defs.map eN }
theorem Ot(c:CS)(i:Ins):(eC c).put i=eC (c.put i):=rfl
theorem Xf(c:CS)(a:Nat):(eC c).jl a=eC (c.jl a):=rfl
theorem U5(c:CS)(i:Nat)(n:Int):(eC c).yH i n=eC (c.yH i n):=rfl
theorem CO:∀(t:Ty) (c:CS),lower (eT t) (eC c)=eC (lower t c)
 |.basic _,_=>rfl
 |.named s a,c=>by simp only[eT,lower,CS.ref,eC,List.map_append,List.map_cons,List.map_nil,eL]
 |.bytes _ _ _,_=>rfl
 |.array t f n,c=>by rw[eT,lower,lower,Ot,CO t,Ot];rfl
 |.opt t,c=>by rw[eT,lower,lower,Ot,CO t];rfl
 |.void,_=>rfl
def eX(x:CS×List Nat):CS×List Nat:=(eC x.1,x.2)
theorem Xt(x:CS×List Nat)(d:Decl):Du (eX x) (eD d)=eX (Du x d):=by
 show ((lower (eT d.ty) (eC x.1)).put (ins 14),x.2++[(lower (eT d.ty) (eC x.1)).L.length])=_
 rw[CO];rfl
theorem QG(ti:Nat):∀(l:List Int) (c:CS),iD ti (eC c) l=eC (iD ti c l)
 |[],_=>rfl
 |n::r,c=>by rw[iD,U5,QG ti r];rfl
theorem Uc(ti:Nat):∀(l:List Arm) (x:CS×List Nat),gp ti (eX x) (l.map eA)=eX (gp ti x l)
 |[],_=>rfl
 |a::r,x=>by
  rw[List.map_cons,gp,gp]
  show gp ti (Du (iD ti (eC x.1) a.nums,x.2) (eD a.decl)) (r.map eA)=_
  rw[QG]
  show gp ti (Du (eX (iD ti x.1 a.nums,x.2)) (eD a.decl)) (r.map eA)=_
  rw[Xt,Uc ti r]
theorem TT:∀(l:List Nat) (c:CS),vK (eC c) l=eC (vK c l)
 |[],_=>rfl
 |e::r,c=>by rw[vK,Xf,TT r];rfl
theorem Ku(s:By):∀l:List (By×Def),(l.map eN).lookup s=(l.lookup s).map eF
 |[]=>rfl
 |x::r=>by
  rw[List.map_cons,List.lookup_cons,List.lookup_cons]
  show (match s==x.1 with|true=>some (eF x.2)|false=>(r.map eN).lookup s)=_
  rw[Ku s r]
  cases s==x.1<;>rfl
theorem Wp(s:By)(d:Def):∀l:List (By×Def),bg (l.map eN) s (eF d)=(bg l s d).map eN
 |[]=>rfl
 |x::r=>by
  rw[List.map_cons,bg,bg]
  show (if s==x.1 then(s,eF d)::r.map eN else eN x::bg (r.map eN) s (eF d))=_
  rw[Wp s d r]
  split<;>rfl
theorem O5(of:Ty)(c:CS):aG (eT of) (eC c)=((aG of c).1,eC (aG of c).2):=by
 cases of with
 |named s a=>
  unfold aG eT
  simp only
  have h:((eC c).gW []).defs.lookup s=((c.gW []).defs.lookup s).map eF:=Ku s _
  rw[h]
  cases hl:(c.gW []).defs.lookup s with
  |none=>rfl
  |some d=>
   obtain⟨nm,at_,k⟩:=d
   cases k<;>rfl
 |_=>rfl
theorem elsC_e(at_:Nat)(x:CS×List Nat)(e:Option Decl):LM at_ (eX x) (e.map eD)=eX (LM at_ x e):=by
 cases e with
 |none=>rfl
 |some d=>exact Xt (x.1.jl at_,x.2) d
theorem VD(of:Ty)(ar:List Arm)(els:Option Decl)(c:CS):nP (eT of) (ar.map eA) (els.map eD) (eC c)=eC (nP of ar els c):=by
 rw[Ce,Ce,O5]
 have h:gp (eC c).tabs.length ((eC (aG of c).2).put (aG of c).1,[]) (ar.map eA)=eX (gp c.tabs.length ((aG of c).2.put (aG of c).1,[]) ar):=Uc _ ar ((aG of c).2.put (aG of c).1,[])
 show vK (LM (eC (aG of c).2).L.length (gp (eC c).tabs.length ((eC (aG of c).2).put (aG of c).1,[]) (ar.map eA)) (els.map eD)).1 (LM (eC (aG of c).2).L.length (gp (eC c).tabs.length ((eC (aG of c).2).put (aG of c).1,[]) (ar.map eA)) (els.map eD)).2=_
 rw[h,elsC_e]
 exact TT _ _
theorem PD:∀(l:List Decl) (c:CS),iO (eC c) (l.map eD)=eC (iO c l)
 |[],_=>rfl
 |d::r,c=>by
  rw[List.map_cons,iO,iO]
  show iO (lower (eT d.ty) (eC c)) (r.map eD)=_
  rw[CO,PD r]
theorem yc(d:Def)(c:CS):gB (eF d) (eC c)=eC (gB d c):=by
 obtain⟨nm,at_,k⟩:=d
 cases k with
 |const n=>rfl
 |alias t=>
  show (lower (eT t) (eC { c with start:=bg c.start nm c.L.length })).put (ins 7)=_
  rw[CO];rfl
 |enum ns is=>rfl
 |struct ds=>
  show (iO ((eC { c with start:=bg c.start nm c.L.length }).put { ins 11 with n:=(ds.map eD).length }) (ds.map eD)).put (ins 7)=_
  rw[Ot,PD,List.length_map];rfl
 |union o m ar els=>
  show (nP (eT o) (ar.map eA) (els.map eD) (eC { c with start:=bg c.start nm c.L.length })).put (ins 7)=_
  rw[VD];rfl
 |prog n vs=>rfl
theorem void_e(t:Ty):(eT t==.void)=(t==.void):=by cases t<;>rfl
theorem Yg(t:Ty)(c:CS):jb (eT t) (eC c)=eC (jb t c):=by
 unfold jb
 rw[CO];rfl
theorem Yo(g v:Int)(c:CS)(q:gq):Am g v (eC c) (eQ q)=eC (Am g v c q):=by
 unfold Am
 simp only[eQ,Yg,void_e];rfl
theorem Py(g v:Int):∀(l:List gq) (c:CS),gm g v (eC c) (l.map eQ)=eC (gm g v c l)
 |[],_=>rfl
 |q::r,c=>by
  show gm g v (Am g v (eC c) (eQ q)) (r.map eQ)=eC (gm g v (Am g v c q) r)
  rw[Yo,Py g v r]
theorem Tf(g:Int):∀(l:List gI) (c:CS),gZ g (eC c) (l.map eV)=eC (gZ g c l)
 |[],_=>rfl
 |v::r,c=>by
  show gZ g (gm g v.n (eC { c with dL:=bg c.dL g ((c.dL.lookup g).getD []++[v.n]) }) (v.procs.map eQ)) (r.map eV)=_
  rw[Py,Tf g r];rfl
theorem defC_e(d:Def)(c:CS):nN (eC c) (eF d)=eC (nN c d):=by
 have h:({ eC c with defs:=bg (eC c).defs (eF d).name (eF d) }:CS)=eC { c with defs:=bg c.defs d.name d }:=by
  show ({ eC c with defs:=bg (c.defs.map eN) d.name (eF d) }:CS)=_
  rw[Wp];rfl
 unfold nN
 simp only[h]
 obtain⟨nm,at_,k⟩:=d
 cases k with
 |prog n vs=>exact Tf n vs _
 |const n=>exact yc ⟨nm,at_,.const n⟩ _
 |alias t=>exact yc ⟨nm,at_,.alias t⟩ _
 |enum ns is=>exact yc ⟨nm,at_,.enum ns is⟩ _
 |struct ds=>exact yc ⟨nm,at_,.struct ds⟩ _
 |union o m ar els=>exact yc ⟨nm,at_,.union o m ar els⟩ _
theorem TV:∀(l:List Def) (c:CS),aF (eC c) (l.map eF)=eC (aF c l)
 |[],_=>rfl
 |d::r,c=>by rw[List.map_cons,aF,aF,defC_e,TV r]
def Res.opt{α:Type}:Res α→Option α
 |.ok a=>some a
 |.no _ _=>none
theorem Me(start:List (By×Nat)):∀(k:List (Nat×By×Nat)) (L:List Ins),(fF start L (k.map eL)).opt=(fF start L k).opt
 |[],_=>rfl
 |(a,s,f)::r,L=>by
  show (fF start L ((a,s,0)::r.map eL)).opt=_
  rw[fF,fF]
  cases start.lookup s with
  |none=>rfl
  |some t=>exact Me start r _
theorem Po(defs:List (By×Def))(goal:By):∀k:Nat,(∀t x,through (defs.map eN) goal k (eT t) x=through defs goal k t x)∧(∀d x,visit (defs.map eN) goal k (d.map eF) x=visit defs goal k d x)∧(∀l x,eH (defs.map eN) goal k (l.map eT) x=eH defs goal k l x)
 |0=>⟨fun _ _=>rfl,fun _ _=>rfl,fun _ _=>rfl⟩
 |k+1=>by
  obtain⟨h1,h2,h3⟩:=Po defs goal k
  refine⟨fun t x=>?_,fun d x=>?_,fun l x=>?_⟩
  ·cases t with
   |named s a=>
    simp only[eT,through,Ku,h2]
   |array t f n=>simp only[eT,through,h1]
   |_=>rfl
  ·cases d with
   |none=>rfl
   |some d=>
    obtain⟨nm,at_,dk⟩:=d
    cases dk with
    |alias t=>exact h1 t x
    |struct ds=>
     have:=h3 (ds.map (·.ty)) x
     simp only[Option.map_some,eF,eK,visit,List.map_map]at this ⊢
     exact this
    |union o m ar els=>
     have:=h3 (ar.map (·.decl.ty)++(els.map (·.ty)).toList) x
     simp only[Option.map_some,eF,eK,visit,List.map_map,List.map_append]at this ⊢
     cases els<;>exact this
    |_=>rfl
  ·cases l with
   |nil=>rfl
   |cons t r=>simp only[List.map_cons,eH,h1,h3]
theorem U4(defs:List (By×Def))(d:Def):endless (defs.map eN) (eF d)=endless defs d:=by
 unfold endless
 have:=(Po defs d.name 1000).2.1 (some d) ⟨[],false⟩
 exact congrArg (Option.map (·.found)) this
theorem FX(c:CS):∀l:List Def,(cZ (eC c) (l.map eF)).opt=(cZ c l).opt
 |[]=>rfl
 |d::r=>by
  rw[List.map_cons,cZ,cZ]
  have he:endless (eC c).defs (eF d)=endless c.defs d:=U4 c.defs d
  rw[he]
  show (if((c.start.lookup d.name).isSome&&(endless c.defs d).getD true)=true then(Res.no 9 0:Res Unit)else cZ (eC c) (r.map eF)).opt=_
  split
  ·rfl
  ·exact FX c r
theorem MS(ds:List Def):(compile (ds.map eF)).opt.isSome=(compile ds).opt.isSome:=by
 unfold compile
 have h:aF CS.empty (ds.map eF)=eC (aF CS.empty ds):=TV ds CS.empty
 simp only[h]
 have h1:=Me (aF CS.empty ds).start (aF CS.empty ds).calls (aF CS.empty ds).L
 have h2:=FX (aF CS.empty ds) ds
 have h1:(fF (eC (aF CS.empty ds)).start (eC (aF CS.empty ds)).L (eC (aF CS.empty ds)).calls).opt=_:=h1
 cases r1:fF (eC (aF CS.empty ds)).start (eC (aF CS.empty ds)).L (eC (aF CS.empty ds)).calls with
 |no e a=>
  rw[r1]at h1
  cases r2:fF (aF CS.empty ds).start (aF CS.empty ds).L (aF CS.empty ds).calls with
  |no e a=>rfl
  |ok L=>rw[r2]at h1;cases h1
 |ok L=>
  rw[r1]at h1
  cases r2:fF (aF CS.empty ds).start (aF CS.empty ds).L (aF CS.empty ds).calls with
  |no e a=>rw[r2]at h1;cases h1
  |ok L=>
   simp only[Res.ak]
   cases r3:cZ (eC (aF CS.empty ds)) (ds.map eF)with
   |no e a=>
    rw[r3]at h2
    cases r4:cZ (aF CS.empty ds) ds with
    |no e a=>rfl
    |ok u=>rw[r4]at h2;cases h2
   |ok u=>
    rw[r3]at h2
    cases r4:cZ (aF CS.empty ds) ds with
    |no e a=>rw[r4]at h2;cases h2
    |ok u=>rfl
theorem QP{txt:By}{ds:List Def}{c:CS}(h:parse txt=.ok ds)(hc:compile ds=.ok c):∃ds' c',parse (fK ds)=.ok ds'∧compile ds'=.ok c'∧fK ds'=fK ds:=by
 obtain⟨ds',h1,h2⟩:=Yi h
 have h3:=MS ds
 rw[← h2,MS ds',hc]at h3
 cases h4:compile ds' with
 |no e a=>rw[h4]at h3;cases h3
 |ok c'=>exact⟨ds',c',h1,h4,by rw[← NR ds',h2,NR]⟩
end Go.M
