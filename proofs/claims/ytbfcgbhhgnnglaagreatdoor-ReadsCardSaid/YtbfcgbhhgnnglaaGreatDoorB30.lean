/- Texts of mine, one behind the other; nothing is assumed. -/
import Derived.Test.YtbfcgbhhgnnglaaGreatDoorB29
import Derived.Test.YtbfcgbhhgnnglaaGreatDoorB02
import Derived.Test.YtbfcgbhhgnnglaaGreatDoorB01
set_option autoImplicit true
set_option relaxedAutoImplicit true
set_option linter.unusedSimpArgs false
set_option linter.unusedVariables false
namespace Go.M
def cn(l:List (Nat×By×Nat)):List (By×Int):=l.map λx=>(x.2.1,((x.2.2:Nat):Int))
theorem zq(a b:List (Nat×By×Nat)):cn (a++b)=cn a++cn b:=List.map_append
theorem JM:∀(t:Ty) (b:Nat),cn (iP t b)=refs t
 |.basic s,b=>rfl
 |.named s a,b=>rfl
 |.bytes _ _ _,b=>rfl
 |.array t f n,b=>JM t (b+1)
 |.opt t,b=>JM t (b+1)
 |.void,b=>rfl
theorem RV:∀(l:List Decl) (b:Nat),cn (kQ l b)=FO l
 |[],b=>rfl
 |d::r,b=>by rw[kQ,zq,JM,RV r];rfl
theorem VN:∀(l:List Arm) (b:Nat),cn (kD l b)=Aq l
 |[],b=>rfl
 |a::r,b=>by rw[kD,zq,JM,VN r];rfl
theorem cn_els(l:Option Decl)(b:Nat):cn (tV l b)=DV l:=by
 cases l with
 |none=>rfl
 |some d=>exact JM d.ty b
theorem Hg(k:Dk)(b:Nat)(h:isType k=true):cn (gZ b k)=DZ k:=by
 cases k with
 |const n=>cases h
 |prog n vs=>cases h
 |alias t=>exact JM t b
 |enum ns is=>rfl
 |struct ds=>exact RV ds (b+1)
 |union of nm arms els=>
  show cn (nM arms els b)=_;unfold nM;rw[zq,VN,cn_els];show Aq arms++_=Aq arms++_;congr 1;cases els<;>rfl
theorem VL(t:Ty)(c:CS):cn (jV t c).calls=cn c.calls++refs t:=by
 rw[sD];show cn (c.calls++iP t c.L.length)=_;rw[zq,JM]
theorem RU(g v:Int):∀(l:List pG) (c:CS),cn (iW g v c l).calls=cn c.calls++vK l
 |[],c=>by rw[iW];simp[vK]
 |q::r,c=>by
  rw[iW,RU g v r];show cn (jV q.arg (jV q.res c)).calls++_=_;rw[VL,VL];simp[vK]
theorem VK(g:Int):∀(l:List qw) (c:CS),cn (iU g c l).calls=cn c.calls++CZ l
 |[],c=>by rw[iU];simp[CZ]
 |v::r,c=>by
  rw[iU,VK g r,RU];simp[CZ]
theorem cn_def(c:CS)(d:Def):cn (nV c d).calls=cn c.calls++DZ d.k:=by
 obtain⟨nm,a,k⟩:=d;cases k with
 |const n=>simp[nV,gy,DZ]
 |prog n vs=>
  show cn (iU n _ vs).calls=_;rw[VK];rfl
 |alias t=>
  show cn (gy ⟨nm,a,.alias t⟩ _).calls=_;rw[lS _ _ rfl];show cn (c.calls++gZ _ _)=_;rw[zq,Hg _ _ rfl]
 |enum ns is=>
  show cn (gy ⟨nm,a,.enum ns is⟩ _).calls=_;rw[lS _ _ rfl];show cn (c.calls++gZ _ _)=_;rw[zq,Hg _ _ rfl]
 |struct ds=>
  show cn (gy ⟨nm,a,.struct ds⟩ _).calls=_;rw[lS _ _ rfl];show cn (c.calls++gZ _ _)=_;rw[zq,Hg _ _ rfl]
 |union of n arms els=>
  show cn (gy ⟨nm,a,.union of n arms els⟩ _).calls=_;rw[lS _ _ rfl];show cn (c.calls++gZ _ _)=_;rw[zq,Hg _ _ rfl]
theorem VM:∀(ds:List Def) (c:CS),cn (aP c ds).calls=cn c.calls++ds.flatMap λd=>DZ d.k
 |[],c=>by rw[aP];simp
 |d::r,c=>by rw[aP,VM r,cn_def,List.flatMap_cons,List.append_assoc]
theorem WL(c:CS)(d:Def)(s:By):((nV c d).start.lookup s).isSome=((d.name==s&&qj d.k)||(c.start.lookup s).isSome):=by
 have ty:isType d.k=true->∀c':CS,((gy d c').start.lookup s).isSome=((d.name==s)||(c'.start.lookup s).isSome):=λh c'=>by
  rw[lS d c' h];show ((bK c'.start d.name c'.L.length).lookup s).isSome=_;rw[bM];have:(s==d.name)=(d.name==s):=BEq.comm;rw[this];cases d.name==s<;>rfl
 obtain⟨nm,a,k⟩:=d;cases k with
 |const n=>
  show (c.start.lookup s).isSome=_;simp[qj]
 |prog n vs=>
  show ((iU n _ vs).start.lookup s).isSome=_;rw[(pU n vs _).2];simp[qj]
 |alias t=>
  have:=ty rfl { c with defs:=bK c.defs nm ⟨nm,a,.alias t⟩ };have e:∀b:Bool,(b&&qj (Dk.alias t))=b:=λb=>Bool.and_true b;rw[e];exact this
 |enum ns is=>
  have:=ty rfl { c with defs:=bK c.defs nm ⟨nm,a,.enum ns is⟩ };have e:∀b:Bool,(b&&qj (Dk.enum ns is))=b:=λb=>Bool.and_true b;rw[e];exact this
 |struct ds=>
  have:=ty rfl { c with defs:=bK c.defs nm ⟨nm,a,.struct ds⟩ };have e:∀b:Bool,(b&&qj (Dk.struct ds))=b:=λb=>Bool.and_true b;rw[e];exact this
 |union of n arms els=>
  have:=ty rfl { c with defs:=bK c.defs nm ⟨nm,a,.union of n arms els⟩ };have e:∀b:Bool,(b&&qj (Dk.union of n arms els))=b:=λb=>Bool.and_true b;rw[e];exact this
theorem Ir(s:By):∀(ds:List Def) (c:CS),((aP c ds).start.lookup s).isSome=((ds.any λd=>d.name==s&&qj d.k)||(c.start.lookup s).isSome)
 |[],c=>by rw[aP];simp
 |d::r,c=>by
  rw[aP,Ir s r,WL,List.any_cons];cases d.name==s&&qj d.k<;>cases r.any λd=>d.name==s&&qj d.k<;>simp
theorem Am(start:List (By×Nat)):∀(calls:List (Nat×By×Nat)) (L:List Ins),match (calls.find? λx=>(start.lookup x.2.1).isNone)with
  |some x=>gz start L calls=.no 7 x.2.2
  |none=>∃L',gz start L calls=.ok L'
 |[],L=>⟨L,rfl⟩
 |(a,s,f)::r,L=>by
  rw[List.find?_cons,gz];cases h:start.lookup s with
  |none=>simp only[Option.isNone_none]
  |some t=>
   simp only[Option.isNone_some];exact Am start r _
def lY(l:List NmR)(s:By):Bool:=match nix s l with
 |some k=>(cO l k).what==1
 |none=>false
def GG(l:List NmR)(r:eU):eU:=if r.kind==14 then(match nix r.name l with|some k=>{ r with of:=(cO l k).n }|none=>r)else r
theorem P6:rowAt (a++r::b) ((a.length:Nat):Int)=r:=by
 unfold rowAt;rw[List.getD_eq_getElem?_getD,Int.toNat_natCast,List.getElem?_append_right (Nat.le_refl _),Nat.sub_self];rfl
theorem LJ(r:eU)(b:List eU):qU (r::b)=(if r.kind==14 then[(r.name,r.at_)]else[])++qU b:=by
 unfold qU Zn;rw[List.filterMap_cons];cases r.kind==14<;>rfl
theorem P7:∀(b a:List eU) (p:RS),(∀x∈qU b,lY p.names x.1=true)->bI b.length a.length { p with rows:=a++b }={ p with rows:=a++b.map (GG p.names) }
 |[],a,p,h=>rfl
 |r::b,a,p,h=>by
  rw[LJ]at h;rw[List.length_cons,bI];simp only[P6];have hb:∀x∈qU b,lY p.names x.1=true:=λx hx=>h x (List.mem_append_right _ hx);have ih:=λr'=>P7 b (a++[r']) p hb;simp only[List.length_append,List.length_cons,List.length_nil,List.append_assoc,List.singleton_append]at ih;cases hk:r.kind==14 with
  |false=>
   have hf:GG p.names r=r:=by unfold GG;rw[hk];rfl
   refine fif ?_;rw[List.map_cons,hf];exact ih r
  |true=>
   have ht:=h (r.name,r.at_) (List.mem_append_left _ (by rw[hk];exact List.mem_singleton_self _));unfold lY at ht;simp only at ht;refine fif ?_;cases hn:nix r.name p.names with
   |none=>rw[hn]at ht;cases ht
   |some j=>
    rw[hn]at ht;simp only at ht;have hw:((cO p.names j).what != 1)=false:=by unfold bne;rw[ht];rfl
    simp only[hw,Bool.false_eq_true,↓reduceIte];have hf:GG p.names r={ r with of:=(cO p.names j).n }:=by unfold GG;rw[hk,hn];rfl
    rw[List.map_cons,hf];have hm:(a++r::b).modify a.length (λr=>{ r with of:=(cO p.names j).n })=a++{ r with of:=(cO p.names j).n }::b:=uI _ r b a;rw[hm];exact ih { r with of:=(cO p.names j).n }
theorem U0:∀(b a:List eU) (p:RS) (x:By×Int),p.e=0->((qU b).find? λx=>!lY p.names x.1)=some x->(bI b.length a.length { p with rows:=a++b }).e=7/\(bI b.length a.length { p with rows:=a++b }).at_=x.2
 |[],a,p,x,h0,h=>by cases h
 |r::b,a,p,x,h0,h=>by
  rw[LJ]at h;rw[List.length_cons,bI];simp only[P6];have ih:=λr' (hb:((qU b).find? λx=>!lY p.names x.1)=some x)=>U0 b (a++[r']) p x h0 hb;simp only[List.length_append,List.length_cons,List.length_nil,List.append_assoc,List.singleton_append]at ih;have hff:∀q:RS,q.e=0->(aK q 7 r.at_).e=7/\(aK q 7 r.at_).at_=r.at_:=λq hq=>by
   unfold aK;rw[if_pos (by rw[hq];rfl)];exact⟨rfl,rfl⟩
  cases hk:r.kind==14 with
  |false=>
   rw[hk]at h;simp only[Bool.false_eq_true,↓reduceIte,List.nil_append]at h ⊢;exact ih r h
  |true=>
   rw[hk]at h;simp only[↓reduceIte,List.singleton_append,List.find?_cons]at h ⊢;unfold lY at h;cases hn:nix r.name p.names with
   |none=>
    rw[hn]at h;simp only[Bool.not_false]at h;obtain rfl:(r.name,r.at_)=x:=by simpa using h
    exact hff _ h0
   |some j=>
    rw[hn]at h;simp only at h ⊢;cases hw:(cO p.names j).what==1 with
    |false=>
     rw[hw]at h;simp only[Bool.not_false]at h;obtain rfl:(r.name,r.at_)=x:=by simpa using h
     have hw':((cO p.names j).what != 1)=true:=by unfold bne;rw[hw];rfl
     simp only[hw',↓reduceIte];exact hff _ h0
    |true=>
     rw[hw]at h;simp only[Bool.not_true]at h;have hw':((cO p.names j).what != 1)=false:=by unfold bne;rw[hw];rfl
     simp only[hw',Bool.false_eq_true,↓reduceIte];have hm:(a++r::b).modify a.length (λr=>{ r with of:=(cO p.names j).n })=a++{ r with of:=(cO p.names j).n }::b:=uI _ r b a;rw[hm];exact ih _ h
end Go.M
namespace Go.M
def tn:Ty->List By
 |.named s _=>[s]
 |.array t f _=>if f then tn t else[]
 |_=>[]
def ln(d:Def):List By:=(leads d.k).flatMap tn
inductive NR (defs:List (By×Def)) (l:List By):By->Prop
 |base {s:By} (h:s∈l):NR defs l s
 |step {s t:By} {d:Def} (h:NR defs l s) (hd:defs.lookup s=some d) (ht:t∈ln d):NR defs l t
theorem NR.mono(h:∀s∈l,NR defs m s)(k:NR defs l s):NR defs m s:=by
 induction k with
 |base hs=>exact h _ hs
 |step _ hd ht ih=>exact ih.step hd ht
structure Po (defs:List (By×Def)) (goal:By) (x y:Seen) (l:List By):Prop where
 old:∀s∈x.seen,s∈y.seen
 new:∀s∈l,s∈y.seen
 why:∀s∈y.seen,s∈x.seen\/(NR defs l s/\∀d,defs.lookup s=some d->∀t∈ln d,t∈y.seen)
 fnd:(x.found=true↔goal∈x.seen)->(y.found=true↔goal∈y.seen)
theorem Po.refl(x:Seen):Po defs goal x x []:=⟨λs h=>h,(λs h=>by cases h),λs h=>Or.inl h,λh=>h⟩
theorem Po.trans(h:Po defs goal x y l)(k:Po defs goal y z m):Po defs goal x z (l++m):=by
 refine⟨λs hs=>k.old s (h.old s hs),λs hs=>?_,λs hs=>?_,λhf=>k.fnd (h.fnd hf)⟩
 .rcases List.mem_append.mp hs with hs|hs
  .exact k.old s (h.new s hs)
  .exact k.new s hs
 .rcases k.why s hs with hy|⟨h1,h2⟩
  .rcases h.why s hy with hx|⟨h1,h2⟩
   .exact Or.inl hx
   .exact Or.inr ⟨h1.mono λs hs=>NR.base (List.mem_append_left _ hs),λd hd t ht=>k.old t (h2 d hd t ht)⟩
  .exact Or.inr ⟨h1.mono λs hs=>NR.base (List.mem_append_right _ hs),h2⟩
def lnO:Option Def->List By
 |some d=>ln d
 |none=>[]
theorem KZ(defs:List (By×Def))(goal:By):∀k:Nat,(∀t x y,through defs goal k t x=some y->Po defs goal x y (tn t))/\(∀o x y,visit defs goal k o x=some y->Po defs goal x y (lnO o))/\(∀l x y,fQ defs goal k l x=some y->Po defs goal x y (l.flatMap tn))
 |0=>⟨(λt x y h=>by simp[through]at h),(λo x y h=>by simp[visit]at h),(λl x y h=>by simp[fQ]at h)⟩
 |k+1=>by
  obtain⟨i1,i2,i3⟩:=KZ defs goal k;refine⟨λt x y h=>?_,λo x y h=>?_,λl x y h=>?_⟩
  .cases t with
   |named s a=>
    rw[through]at h;generalize hx1:(if s==goal then { x with found:=true }else x:Seen)=x1 at h;have hs1:x1.seen=x.seen:=by rw[<- hx1];split<;>rfl
    have hf1:x1.found=(x.found||s==goal):=by
     rw[<- hx1];cases s==goal with
     |true=>simp
     |false=>simp
    cases hc:x1.seen.contains s with
    |true=>
     rw[hc,if_pos rfl]at h;cases h;have hm:s∈x.seen:=by rw[hs1]at hc;simpa using hc
     refine⟨λu hu=>by rw[hs1];exact hu,λu hu=>?_,λu hu=>Or.inl (by rw[<- hs1];exact hu),λhf=>?_⟩
     .obtain rfl:=List.mem_singleton.mp hu;rw[hs1];exact hm
     .rw[hf1,hs1,Bool.or_eq_true,hf];constructor
      .rintro(h|h)
       .exact h
       .have:s=goal:=by simpa using h
        rw[<- this];exact hm
      .exact Or.inl
    |false=>
     rw[hc,if_neg smp]at h;have po:=i2 _ _ _ h;have hns:s ∉ x.seen:=by rw[hs1]at hc;simpa using hc
     refine⟨λu hu=>po.old u (List.mem_append_left _ (by rw[hs1];exact hu)),λu hu=>?_,λu hu=>?_,λhf=>po.fnd ?_⟩
     .obtain rfl:=List.mem_singleton.mp hu;exact po.old u (List.mem_append_right _ (List.mem_singleton_self _))
     .have lnmem:∀d,defs.lookup s=some d->∀t∈ln d,t∈y.seen:=λd hd t ht=>po.new t (by rw[hd];exact ht);rcases po.why u hu with hx|⟨h1,h2⟩
      .rcases List.mem_append.mp hx with hx|hx
       .exact Or.inl (by rw[<- hs1];exact hx)
       .obtain rfl:=List.mem_singleton.mp hx;exact Or.inr ⟨NR.base (List.mem_singleton_self _),lnmem⟩
      .refine Or.inr ⟨h1.mono λv hv=>?_,h2⟩;cases hd:defs.lookup s with
       |none=>rw[hd]at hv;cases hv
       |some d=>
        rw[hd]at hv;exact(NR.base (List.mem_singleton_self s)).step hd hv
     .show x1.found=true↔goal∈x1.seen++[s];rw[hf1,hs1,Bool.or_eq_true,hf,List.mem_append,List.mem_singleton];constructor
      .rintro(h|h)
       .exact Or.inl h
       .exact Or.inr (by have:s=goal:=by simpa using h
                         exact this.symm)
      .rintro(h|h)
       .exact Or.inl h
       .exact Or.inr (by rw[h];simp)
   |array t f n=>
    rw[through]at h;cases f with
    |true=>
     rw[if_pos rfl]at h;show Po defs goal x y (tn t);exact i1 _ _ _ h
    |false=>
     rw[if_neg smp]at h;cases h;exact Po.refl _
   |basic s=>rw[through]at h;cases h;exact Po.refl _;all_goals simp
   |bytes a b c=>rw[through]at h;cases h;exact Po.refl _;all_goals simp
   |opt t=>rw[through]at h;cases h;exact Po.refl _;all_goals simp
   |void=>rw[through]at h;cases h;exact Po.refl _;all_goals simp
  .cases o with
   |none=>rw[visit]at h;cases h;exact Po.refl _
   |some d=>
    rw[visit]at h;obtain⟨nm,a,kd⟩:=d;cases kd with
    |const n=>cases h;exact Po.refl _
    |prog n vs=>cases h;exact Po.refl _
    |enum ns is=>cases h;exact Po.refl _
    |alias t=>
     have:=i1 _ _ _ h;show Po defs goal x y ([t].flatMap tn);rw[List.flatMap_cons,List.flatMap_nil,List.append_nil];exact this
    |struct ds=>exact i3 _ _ _ h
    |union of n arms els=>exact i3 _ _ _ h
  .cases l with
   |nil=>rw[fQ]at h;cases h;exact Po.refl _
   |cons t r=>
    rw[fQ]at h;cases ht:through defs goal k t x with
    |none=>rw[ht]at h;cases h
    |some z=>
     rw[ht]at h;have h1:=i1 _ _ _ ht;have h2:=i3 _ _ _ h;exact h1.trans h2
theorem Rt(h:endless defs d=some b):b=true↔NR defs (ln d) d.name:=by
 unfold endless at h;cases hv:visit defs d.name 1000 (some d) ⟨[],false⟩with
 |none=>rw[hv]at h;cases h
 |some y=>
  rw[hv]at h;have hb:y.found=b:=by simpa using h
  have po:=(KZ defs d.name 1000).2.1 _ _ _ hv;have hf:=po.fnd ⟨(λh=>by cases h),(λh=>by cases h)⟩;rw[<- hb,hf];have all:∀s,NR defs (ln d) s->s∈y.seen:=λs hs=>by
   induction hs with
   |base hs=>exact po.new _ hs
   |step _ hd ht ih=>
    rcases po.why _ ih with hx|⟨_,h2⟩
    .cases hx
    .exact h2 _ hd _ ht
  constructor
  .intro hg;rcases po.why _ hg with hx|⟨h1,_⟩
   .cases hx
   .exact h1
  .exact all _
end Go.M
namespace Go.M
inductive RR (rows:List eU) (r:Int):Int->Prop
 |base {t:Int} (h:t∈eu rows r) (h0:0<=t):RR rows r t
 |step {s t:Int} (h:RR rows r s) (ht:t∈eu rows s) (h0:0<=t):RR rows r t
theorem RR.pos(h:RR rows r t):0<=t:=by cases h<;>assumption
theorem RR.trans(h:RR rows a b)(k:RR rows b c):RR rows a c:=by
 induction k with
 |base ht h0=>exact h.step ht h0
 |step _ ht h0 ih=>exact ih.step ht h0
def On(S:List Bool)(k:Nat):Prop:=S.getD k false=true
theorem on_set(hk:k<S.length):On (S.set k true) j↔On S j\/j=k:=by
 unfold On;rw[List.getD_eq_getElem?_getD,List.getD_eq_getElem?_getD,List.getElem?_set]
 by_cases h:k=j
 .subst h;simp[hk]
 .rw[if_neg h];constructor
  .exact Or.inl
  .rintro(h2|h2)
   .exact h2
   .exact absurd h2.symm h
theorem qh:∀(L:List Int) (S:List Bool),(kX S L).length=S.length
 |[],S=>rfl
 |x::L,S=>by
  rw[kX,qh L];split
  .exact List.length_set
  .rfl
theorem xe:∀(L:List Int) (S:List Bool) (j:Nat),(∀x∈L,x<(S.length:Int))->(On (kX S L) j↔On S j\/∃x∈L,0<=x/\x.toNat=j)
 |[],S,j,h=>by
  rw[kX];constructor
  .exact Or.inl
  .rintro(h|⟨x,hx,_⟩)
   .exact h
   .cases hx
 |x::L,S,j,h=>by
  rw[kX];have hx:=h x (List.mem_cons_self ..);have hL:∀y∈L,y<(S.length:Int):=λy hy=>h y (List.mem_cons_of_mem _ hy)
  by_cases h0:0<=x
  .rw[if_pos h0,xe L _ j (by rw[List.length_set];exact hL),on_set omg];constructor
   .rintro((h1|h1)|⟨y,hy,hy0,hyj⟩)
    .exact Or.inl h1
    .exact Or.inr ⟨x,List.mem_cons_self ..,h0,h1.symm⟩
    .exact Or.inr ⟨y,List.mem_cons_of_mem _ hy,hy0,hyj⟩
   .rintro(h1|⟨y,hy,hy0,hyj⟩)
    .exact Or.inl (Or.inl h1)
    .rcases List.mem_cons.mp hy with rfl|hy
     .exact Or.inl (Or.inr hyj.symm)
     .exact Or.inr ⟨y,hy,hy0,hyj⟩
  .rw[if_neg h0,xe L S j hL];constructor
   .rintro(h1|⟨y,hy,hy0,hyj⟩)
    .exact Or.inl h1
    .exact Or.inr ⟨y,List.mem_cons_of_mem _ hy,hy0,hyj⟩
   .rintro(h1|⟨y,hy,hy0,hyj⟩)
    .exact Or.inl h1
    .rcases List.mem_cons.mp hy with rfl|hy
     .exact absurd hy0 h0
     .exact Or.inr ⟨y,hy,hy0,hyj⟩
theorem su(rows:List eU):∀(n k:Nat) (S:List Bool),(jS rows n k S).length=S.length
 |0,k,S=>rfl
 |n+1,k,S=>by
  rw[jS,su rows n];split
  .exact qh _ _
  .rfl
variable {rows:List eU}
def Lr(rows:List eU):Prop:=∀k:Nat,k<rows.length->∀x∈eu rows (k:Nat),x<(rows.length:Int)
theorem Zi(h:On S j):j<S.length:=by
 unfold On at h;rw[List.getD_eq_getElem?_getD]at h;rcases Nat.lt_or_ge j S.length with hh|hh
 .exact hh
 .rw[List.getElem?_eq_none hh]at h;cases h
theorem yD(hl:Lr rows):∀(n k:Nat) (S:List Bool),S.length=rows.length->k+n=rows.length->∀j,On S j->On (jS rows n k S) j
 |0,k,S,hS,hk,j,h=>h
 |n+1,k,S,hS,hk,j,h=>by
  rw[jS];split
  .exact yD hl n (k+1) _ (by rw[qh];exact hS) omg j ((xe _ S j (by rw[hS];exact hl k omg)).mpr (Or.inl h))
  .exact yD hl n (k+1) S hS omg j h
theorem yE(hl:Lr rows):∀(n k:Nat) (S:List Bool),S.length=rows.length->k+n=rows.length->∀i,k<=i->On S i->∀x∈eu rows (i:Nat),0<=x->On (jS rows n k S) x.toNat
 |0,k,S,hS,hk,i,hi,h,x,hx,h0=>by
  have:=Zi h;omega
 |n+1,k,S,hS,hk,i,hi,h,x,hx,h0=>by
  rw[jS]
  by_cases e:i=k
  .subst e;have h':S.getD i false=true:=h;rw[if_pos h'];exact yD hl n (i+1) _ (by rw[qh];exact hS) omg _ ((xe _ S _ (by rw[hS];exact hl i omg)).mpr (Or.inr ⟨x,hx,h0,rfl⟩))
  .split
   .exact yE hl n (k+1) _ (by rw[qh];exact hS) omg i omg ((xe _ S _ (by rw[hS];exact hl k omg)).mpr (Or.inl h)) x hx h0
   .exact yE hl n (k+1) S hS omg i omg h x hx h0
theorem yC(hl:Lr rows):∀(n k:Nat) (S:List Bool),S.length=rows.length->k+n=rows.length->(∀j,On S j->RR rows r (j:Nat))->∀j,On (jS rows n k S) j->RR rows r (j:Nat)
 |0,k,S,hS,hk,h,j,hj=>h j hj
 |n+1,k,S,hS,hk,h,j,hj=>by
  rw[jS]at hj;split at hj
  .rename_i hk2;refine yC hl n (k+1) _ (by rw[qh];exact hS) omg (λi hi=>?_) j hj;rcases(xe _ S i (by rw[hS];exact hl k omg)).mp hi with hi|⟨x,hx,h0,rfl⟩
   .exact h i hi
   .have e:((x.toNat:Nat):Int)=x:=omg;rw[e];exact(h k hk2).step hx h0
  .exact yC hl n (k+1) S hS omg h j hj
def Cd(rows:List eU)(S:List Bool):Prop:=∀i,On S i->∀x∈eu rows (i:Nat),0<=x->On S x.toNat
theorem QG:∀{L:List Int},(∀x∈L,x<(S.length:Int))->(∀x∈L,0<=x->On S x.toNat)->kX S L=S
 |[],_,_=>rfl
 |x::L,hl,h=>by
  rw[kX];have e:(if 0<=x then S.set x.toNat true else S)=S:=by
   split
   .rename_i h0;have hon:=h x (List.mem_cons_self ..) h0;have hlt:=Zi hon;unfold On at hon;rw[List.getD_eq_getElem?_getD,List.getElem?_eq_getElem hlt]at hon;have hon:S[x.toNat]=true:=by simpa using hon
    apply List.ext_getElem?;intro j;rw[List.getElem?_set]
    by_cases e:x.toNat=j
    .subst e;rw[if_pos rfl,if_pos hlt,List.getElem?_eq_getElem hlt,hon]
    .rw[if_neg e]
   .rfl
  rw[e];exact QG (λy hy=>hl y (List.mem_cons_of_mem _ hy)) λy hy h0=>h y (List.mem_cons_of_mem _ hy) h0
theorem KU(hl:Lr rows)(hS:S.length=rows.length)(hc:Cd rows S):∀(n k:Nat),k+n=rows.length->jS rows n k S=S
 |0,k,_=>rfl
 |n+1,k,hk=>by
  rw[jS];have e:(if S.getD k false then kX S (eu rows ((k:Nat):Int))else S)=S:=by
   split
   .rename_i h;exact QG (by rw[hS];exact hl k omg) (hc k h)
   .rfl
  rw[e];exact KU hl hS hc n (k+1) omg
theorem IK(hl:Lr rows)(hS:S.length=rows.length)(hc:Cd rows S):∀n,jK rows n S=S
 |0=>rfl
 |n+1=>by
  rw[jK,KU hl hS hc rows.length 0 omg];exact IK hl hS hc n
theorem count_le:∀(S T:List Bool),S.length=T.length->(∀j,On S j->On T j)->S.count true<=T.count true/\(S.count true=T.count true->S=T)
 |[],[],_,_=>⟨Nat.le_refl _,λ_=>rfl⟩
 |[],b::T,h,_=>by simp at h
 |a::S,[],h,_=>by simp at h
 |a::S,b::T,h,ho=>by
  have ih:=count_le S T (by simpa using h) λj hj=>ho (j+1) hj;have h0:a=true->b=true:=ho 0;rw[List.count_cons,List.count_cons];cases a with
  |true=>
   rw[h0 rfl];exact⟨by have:=ih.1;simp only[beq_self_eq_true,↓reduceIte];omega,λe=>by rw[ih.2 (by simpa using e)]⟩
  |false=>
   cases b with
   |false=>exact⟨by have:=ih.1;simpa using this,λe=>by rw[ih.2 (by simpa using e)]⟩
   |true=>
    refine⟨by have:=ih.1;simp;omega,λe=>?_⟩;exfalso;have:=ih.1;simp at e;omega
theorem aaK:∀(S:List Bool),S.length<=S.count true->∀j,j<S.length->On S j
 |[],_,j,h=>by simp at h
 |a::S,hc,j,h=>by
  have hcl:=List.count_le_length (a:=true) (l:=S);rw[List.count_cons,List.length_cons]at hc;cases a with
  |false=>
   simp only[Bool.false_beq,Bool.not_true,Bool.false_eq_true,↓reduceIte]at hc;omega
  |true=>
   simp only[beq_self_eq_true,↓reduceIte]at hc;cases j with
   |zero=>rfl
   |succ j=>exact aaK S omg j (by simpa using h)
theorem Ak(hl:Lr rows):∀(n:Nat) (S:List Bool),S.length=rows.length->rows.length<=n+S.count true->Cd rows (jK rows n S)
 |0,S,hS,hc=>λi hi x hx h0=>by
  have hil:=Zi hi;have hi':i<S.length:=hil;exact aaK S omg _ (by have:=hl i omg x hx;omega)
 |n+1,S,hS,hc=>by
  rw[jK];have hle:=count_le S (jS rows rows.length 0 S) (by rw[su]) (yD hl rows.length 0 S hS omg)
  by_cases e:S.count true=(jS rows rows.length 0 S).count true
  .have he:=hle.2 e;have hcd:Cd rows S:=λi hi x hx h0=>by
    have:=yE hl rows.length 0 S hS omg i (Nat.zero_le _) hi x hx h0;rw[<- he]at this;exact this
   rw[<- he,IK hl hS hcd];exact hcd
  .exact Ak hl n _ (by rw[su];exact hS) (by have:=hle.1;omega)
theorem Ll(hl:Lr rows):∀(n:Nat) (S:List Bool),S.length=rows.length->∀j,On S j->On (jK rows n S) j
 |0,S,_,j,h=>h
 |n+1,S,hS,j,h=>by
  rw[jK];exact Ll hl n _ (by rw[su];exact hS) j (yD hl rows.length 0 S hS omg j h)
theorem CY(hl:Lr rows):∀(n:Nat) (S:List Bool),S.length=rows.length->(∀j,On S j->RR rows r (j:Nat))->∀j,On (jK rows n S) j->RR rows r (j:Nat)
 |0,S,_,h,j,hj=>h j hj
 |n+1,S,hS,h,j,hj=>by
  rw[jK]at hj;exact CY hl n _ (by rw[su];exact hS) (yC hl rows.length 0 S hS omg h) j hj
theorem Oy(hl:Lr rows)(hr:r<rows.length):gV rows (r:Nat)=true↔RR rows (r:Nat) (r:Nat):=by
 have hlen:(List.replicate rows.length false).length=rows.length:=List.length_replicate;have h0:∀j,¬ On (List.replicate rows.length false) j:=λj h=>by
  unfold On at h;rw[List.getD_eq_getElem?_getD,List.getElem?_replicate]at h;split at h<;>cases h
 have hS0:(kX (List.replicate rows.length false) (eu rows (r:Nat))).length=rows.length:=by rw[qh,hlen]
 have hm:=λj=>xe (eu rows (r:Nat)) (List.replicate rows.length false) j (by rw[hlen];exact hl r hr);show On (jK rows rows.length (kX (List.replicate rows.length false) (eu rows (r:Nat)))) ((r:Nat):Int).toNat↔_;rw[Int.toNat_natCast];constructor
 .refine CY hl rows.length _ hS0 (λj hj=>?_) r;rcases(hm j).mp hj with h|⟨x,hx,hx0,rfl⟩
  .exact absurd h (h0 j)
  .have e:((x.toNat:Nat):Int)=x:=omg;rw[e];exact RR.base hx hx0
 .have hcl:=Ak hl rows.length _ hS0 omg;have key:∀t:Int,RR rows (r:Nat) t->On (jK rows rows.length (kX (List.replicate rows.length false) (eu rows (r:Nat)))) t.toNat:=λt h=>by
   induction h with
   |base ht h0=>exact Ll hl rows.length _ hS0 _ ((hm _).mpr (Or.inr ⟨_,ht,h0,rfl⟩))
   |step hs ht h0 ih=>
    have hs0:=hs.pos;refine hcl _ ih _ ?_ h0;rename_i s t;have e:((s.toNat:Nat):Int)=s:=omg;rw[e];exact ht
  intro h;have:=key _ h
  rwa [Int.toNat_natCast]at this
end Go.M
namespace Go.M
theorem Ji:∀{l:List NmR} {k:Nat},nix s l=some k->(cO l k).s=s
 |[],k,h=>by cases h
 |y::l,k,h=>by
  rw[nix]at h;cases hy:y.s==s with
  |true=>
   rw[hy]at h;obtain rfl:0=k:=by simpa using h
   have:y.s=s:=by simpa using hy
   exact this
  |false=>
   rw[hy]at h;simp only[Bool.false_eq_true,↓reduceIte,Option.map_eq_some_iff]at h;obtain⟨j,hj,rfl⟩:=h;have:=Ji hj;exact this
theorem map_inj:∀{l:List α},(l.map f).Nodup->∀{x y:α},x∈l->y∈l->f x=f y->x=y
 |[],_,x,y,hx,_,_=>by cases hx
 |a::l,h,x,y,hx,hy,e=>by
  rw[List.map_cons,List.nodup_cons]at h;obtain⟨h1,h2⟩:=h;rcases List.mem_cons.mp hx with ex|hx1
  .rcases List.mem_cons.mp hy with ey|hy1
   .rw[ex,ey]
   .exact absurd (by rw[<- ex,e];exact List.mem_map_of_mem hy1) h1
  .rcases List.mem_cons.mp hy with ey|hy1
   .exact absurd (by rw[<- ey,<- e];exact List.mem_map_of_mem hx1) h1
   .exact map_inj h2 hx1 hy1 e
theorem E9(c:CS)(d:Def):(nV c d).defs=bK c.defs d.name d:=by
 have ty:isType d.k=true->∀c':CS,(gy d c').defs=c'.defs:=λh c'=>by rw[lS d c' h];rfl
 obtain⟨nm,a,k⟩:=d;cases k with
 |const n=>rfl
 |prog n vs=>exact(pU n vs _).1
 |alias t=>exact ty rfl _
 |enum ns is=>exact ty rfl _
 |struct ds=>exact ty rfl _
 |union of n arms els=>exact ty rfl _
theorem look_in:∀(ds:List Def) (c:CS) {s:By} {d:Def},(aP c ds).defs.lookup s=some d->(d∈ds/\d.name=s)\/c.defs.lookup s=some d
 |[],c,s,d,h=>Or.inr h
 |e::r,c,s,d,h=>by
  rw[aP]at h;rcases look_in r _ h with⟨h1,h2⟩|h1
  .exact Or.inl ⟨List.mem_cons_of_mem _ h1,h2⟩
  .rw[E9,bM]at h1;cases hs:s==e.name with
   |true=>
    rw[hs,if_pos rfl]at h1;cases h1
    exact Or.inl ⟨List.mem_cons_self ..,by have:s=e.name:=by simpa using hs
                                           exact this.symm⟩
   |false=>
    rw[hs,if_neg smp]at h1;exact Or.inr h1
theorem QI:∀(ds:List Def) (c:CS) {s:By},(∀d∈ds,d.name≠s)->(aP c ds).defs.lookup s=c.defs.lookup s
 |[],c,s,h=>rfl
 |e::r,c,s,h=>by
  rw[aP,QI r _ λd hd=>h d (List.mem_cons_of_mem _ hd),E9,bM];have:(s==e.name)=false:=by simpa using λx=>h e (List.mem_cons_self ..) x.symm
  rw[this,if_neg smp]
theorem QJ:∀(ds:List Def) (c:CS) {d:Def},(ds.map λd=>d.name).Nodup->d∈ds->(aP c ds).defs.lookup d.name=some d
 |[],c,d,_,h=>by cases h
 |e::r,c,d,hn,h=>by
  rw[List.map_cons,List.nodup_cons]at hn;rw[aP];rcases List.mem_cons.mp h with rfl|h
  .rw[QI r _ λx hx he=>hn.1 (by rw[<- he];exact List.mem_map_of_mem hx),E9,bM];simp
  .exact QJ r _ hn.2 h
def mf(l:List NmR)(s:By):Int:=match nix s l with
 |some k=>(cO l k).n
 |none => -1
variable {q:RS} {ds:List Def}
abbrev rx(q:RS):List eU:=q.rows.map (GG q.names)
theorem Ve(h:lY l s=true):∃x∈l,x.s=s/\x.what=1/\mf l s=x.n:=by
 unfold lY at h;unfold mf;cases hn:nix s l with
 |none=>rw[hn]at h;cases h
 |some k=>
  rw[hn]at h;exact⟨cO l k,zV hn,Ji hn,by simpa using h,rfl⟩
theorem PR.names(h:PR q ds)(hd:d∈ds)(ht:qj d.k=true):∃x∈q.names,x.s=d.name/\x.what=1:=by
 have hm:(d.name,((d.at_:Nat):Int))∈(ds.filter λd=>qj d.k).map λd=>(d.name,((d.at_:Nat):Int)):=List.mem_map_of_mem (List.mem_filter.mpr ⟨hd,ht⟩);rw[<- h.tys]at hm;obtain⟨x,hx,he⟩:=List.mem_map.mp hm;obtain⟨h1,h2⟩:=List.mem_filter.mp hx
 grind
theorem PR.dnd(h:PR q ds):(ds.map λd=>d.name).Nodup:=h.sub.nodup h.nd
theorem PR.row(h:PR q ds)(hv:Nv q)(hd:d∈ds)(ht:qj d.k=true):lY q.names d.name=true/\DK q.rows (mf q.names d.name) d.k/\Rg q (mf q.names d.name)/\∃x∈q.names,x.s=d.name/\x.what=1/\mf q.names d.name=x.n:=by
 obtain⟨x,hx,hs,hw⟩:=h.names hd ht;have hnx:∃k,nix d.name q.names=some k:=by
  have:=zX d.name q.names;have hc:(q.names.map λx=>x.s).contains d.name=true:=by grind
  rw[show (q.names.map (·.s)).contains d.name=true from hc]at this;exact Option.isSome_iff_exists.mp this
 obtain⟨k,hk⟩:=hnx;have hxk:=map_inj h.nd (zV hk) hx (by rw[Ji hk,hs]);have hty:lY q.names d.name=true:=by
  unfold lY;rw[hk];simp only;rw[hxk,hw];rfl
 have hnr:mf q.names d.name=x.n:=by
  unfold mf;rw[hk];simp;rw[hxk]
 obtain⟨e,he,e1,e2,e3,e4,e5⟩:=h.dk x hx hw;have hed:=map_inj h.dnd he hd (by rw[e2,hs]);subst hed;refine⟨hty,by rw[hnr];exact e4,by rw[hnr];exact hv.names x hx hw,x,hx,hs,hw,hnr⟩
theorem PR.Yw(h:PR q ds)(ht:lY q.names s=true):∃d∈ds,qj d.k=true/\d.name=s:=by
 obtain⟨x,hx,hs,hw,_⟩:=Ve ht;obtain⟨d,hd,d1,d2,_⟩:=h.dk x hx hw
 grind
theorem xU(h:q.rows[r.toNat]?=some w):rowAt (rx q) r=GG q.names w:=by
 unfold rowAt;rw[List.getD_eq_getElem?_getD,List.getElem?_map,h];rfl
theorem qH(h:w.kind≠14):GG l w=w:=by
 unfold GG;rw[if_neg (by simpa using h)]
theorem sZ(h:(rowAt rows r).kind≠14/\(rowAt rows r).kind≠9/\(rowAt rows r).kind≠12/\(rowAt rows r).kind≠13):eu rows r=[]:=by
 obtain⟨h1,h2,h3,h4⟩:=h;unfold eu;rw[if_neg (by simp[h1,h2]),if_neg (by simpa using h3),if_neg (by simpa using h4)]
def Kidr(rows:List eU)(t:Int):Prop:=∃(i:Nat) (w:eU),rows[i]?=some w/\t∈AO w
theorem zt(h:PR q ds)(h0:r<5):eu (rx q) r=[]:=by
 obtain⟨rs,hrs⟩:=h.b5;have key:∀k:Nat,k<5->r.toNat=k->eu (rx q) r=[]:=λk hk e=>by
  have hw:q.rows[r.toNat]?=some (vJ (k:Nat)):=by
   rw[hrs,e]
   match k,hk with
   |0,_=>rfl
   |1,_=>rfl
   |2,_=>rfl
   |3,_=>rfl
   |4,_=>rfl
  have hk':(vJ ((k:Nat):Int)).kind=((k:Nat):Int):=rfl;apply sZ;rw[xU hw,qH omg,hk'];omega
 exact key r.toNat omg rfl
theorem U1:∀{t:Ty} {s:By},s∈tn t->∃a,(s,a)∈refs t
 |.named s' a,s,h=>⟨a,by
   obtain rfl:=List.mem_singleton.mp h
   exact List.mem_singleton_self _⟩
 |.array t f n,s,h=>by
  cases f with
  |true=>exact U1 (t:=t) h
  |false=>cases h
 |.basic _,s,h=>by cases h
 |.bytes _ _ _,s,h=>by cases h
 |.opt _,s,h=>by cases h
 |.void,s,h=>by cases h
theorem YT(h:PR q ds):∀{ty:Ty} {r:Int},RT q.rows ty r->(∀x∈refs ty,lY q.names x.1=true)->∀t∈eu (rx q) r,0<=t->(∃s∈tn ty,t=mf q.names s)\/(∃ty',RT q.rows ty' t/\tn ty'=tn ty/\(∀x∈refs ty',x∈refs ty)/\Kidr q.rows t)
 |.basic s,r,hr,hT,t,ht,h0=>by
  rw[zt h (by rcases hr with⟨_,rfl⟩|⟨_,rfl⟩|⟨_,rfl⟩|⟨_,rfl⟩|⟨_,rfl⟩<;>omega)]at ht;cases ht
 |.named s a,r,hr,hT,t,ht,h0=>by
  left;refine⟨s,List.mem_singleton_self _,?_⟩;have hty:=hT (s,((a:Nat):Int)) (List.mem_singleton_self _);unfold lY at hty;simp only at hty;cases hn:nix s q.names with
  |none=>rw[hn]at hty;cases hty
  |some k=>
   have hw:rowAt (rx q) r={ row0 with kind:=14,name:=s,at_:=(a:Nat),of:=(cO q.names k).n }:=by
    rw[xU hr.2];unfold GG;simp only[hn];rfl
   unfold eu at ht;rw[hw]at ht;have ht:t∈[(cO q.names k).n]:=ht;unfold mf;rw[hn];exact List.mem_singleton.mp ht
 |.bytes tx f n,r,hr,hT,t,ht,h0=>by
  rw[sZ]at ht
  .cases ht
  .rw[xU hr.2,qH (by show (if tx then(8:Int)else if f then 6 else 7)≠14;cases tx<;>cases f<;>decide)];show (if tx then(8:Int)else if f then 6 else 7)≠14/\(if tx then(8:Int)else if f then 6 else 7)≠9/\(if tx then(8:Int)else if f then 6 else 7)≠12/\(if tx then(8:Int)else if f then 6 else 7)≠13;cases tx<;>cases f<;>decide
 |.array ty f n,r,⟨hr0,o,hr,hro⟩,hT,t,ht,h0=>by
  have hw:rowAt (rx q) r={ row0 with kind:=if f then 9 else 10,of:=o,n:=n }:=by
   rw[xU hr,qH (by show (if f then(9:Int)else 10)≠14;cases f<;>decide)]
  cases f with
  |true=>
   unfold eu at ht;rw[hw]at ht;have ht:t∈[o]:=ht;obtain rfl:=List.mem_singleton.mp ht;exact Or.inr ⟨ty,hro,rfl,λx hx=>hx,r.toNat,_,hr,List.mem_singleton_self _⟩
  |false=>
   rw[sZ]at ht
   .cases ht
   .rw[hw];show (10:Int)≠14/\(10:Int)≠9/\(10:Int)≠12/\(10:Int)≠13;decide
 |.opt ty,r,⟨hr0,o,hr,hro⟩,hT,t,ht,h0=>by
  rw[sZ]at ht
  .cases ht
  .rw[xU hr,qH (by show (11:Int)≠14;decide)];show (11:Int)≠14/\(11:Int)≠9/\(11:Int)≠12/\(11:Int)≠13;decide
 |.void,r,hr,hT,t,ht,h0=>by
  have hr:r = -1:=hr;rw[zt h omg]at ht;cases ht
theorem yL(h:PR q ds):∀{ty:Ty} {r:Int},RT q.rows ty r->(∀x∈refs ty,lY q.names x.1=true)->∀s∈tn ty,RR (rx q) r (mf q.names s)
 |.named s' a,r,hr,hT,s,hs=>by
  obtain rfl:s=s':=List.mem_singleton.mp hs;have hty:=hT (s,((a:Nat):Int)) (List.mem_singleton_self _);obtain⟨x,hx,_,hw,hnr⟩:=Ve hty;have h0:0<=mf q.names s:=by rw[hnr];obtain⟨_,_,_,_,_,_,h5⟩:=h.dk x hx hw;exact h5
  unfold lY at hty;simp only at hty;cases hn:nix s q.names with
  |none=>rw[hn]at hty;cases hty
  |some k=>
   have hwr:rowAt (rx q) r={ row0 with kind:=14,name:=s,at_:=(a:Nat),of:=(cO q.names k).n }:=by
    rw[xU hr.2];unfold GG;simp only[hn];rfl
   refine RR.base ?_ h0;unfold eu;rw[hwr];show mf q.names s∈[(cO q.names k).n];unfold mf;rw[hn];exact List.mem_singleton_self _
 |.array ty f n,r,⟨hr0,o,hr,hro⟩,hT,s,hs=>by
  cases f with
  |false=>cases hs
  |true=>
   have ih:=yL h hro hT s hs;have hw:rowAt (rx q) r={ row0 with kind:=9,of:=o,n:=n }:=by
    rw[xU hr,qH (by show (if true then(9:Int)else 10)≠14;decide)];rfl
   have ho:0<=o:=by
    cases ty with
    |basic s=>rcases hro with⟨_,rfl⟩|⟨_,rfl⟩|⟨_,rfl⟩|⟨_,rfl⟩|⟨_,rfl⟩<;>omega
    |named _ _=>exact hro.1
    |bytes _ _ _=>exact hro.1
    |array _ _ _=>exact hro.1
    |opt _=>exact hro.1
    |void=>cases hs
   have hb:RR (rx q) r o:=RR.base (by
    unfold eu;rw[hw]
    exact List.mem_singleton_self _) ho
   exact hb.trans ih
 |.basic _,r,hr,hT,s,hs=>by cases hs
 |.bytes _ _ _,r,hr,hT,s,hs=>by cases hs
 |.opt _,r,hr,hT,s,hs=>by cases hs
 |.void,r,hr,hT,s,hs=>by cases hs
end Go.M
namespace Go.M
variable {q:RS} {ds:List Def}
theorem NF:∀{ts:List Ty} {l:List Int},RTs rows ts l->∀t∈l,∃ty∈ts,RT rows ty t
 |[],l,h,t,ht=>by
  obtain rfl:l=[]:=h;cases ht
 |ty::ts,l,⟨r,rs,h1,h2,h3⟩,t,ht=>by
  rw[h1]at ht;rcases List.mem_cons.mp ht with rfl|ht
  .exact⟨ty,List.mem_cons_self ..,h2⟩
  .obtain⟨u,hu,hr⟩:=NF h3 t ht;exact⟨u,List.mem_cons_of_mem _ hu,hr⟩
theorem II:∀{ts:List Ty} {l:List Int},RTs rows ts l->∀ty∈ts,∃t∈l,RT rows ty t
 |[],l,h,t,ht=>by cases ht
 |u::ts,l,⟨r,rs,h1,h2,h3⟩,ty,ht=>by
  rw[h1];rcases List.mem_cons.mp ht with rfl|ht
  .exact⟨r,List.mem_cons_self ..,h2⟩
  .obtain⟨t,hm,hr⟩:=II h3 ty ht;exact⟨t,List.mem_cons_of_mem _ hm,hr⟩
def Fol(q:RS)(d:Def)(t:Int):Prop:=(∃s∈ln d,lY q.names s=true/\t=mf q.names s)\/(∃ty,RT q.rows ty t/\(∀s∈tn ty,s∈ln d)/\(∀x∈refs ty,lY q.names x.1=true)/\Kidr q.rows t)
theorem YU(h:PR q ds)(hr:RT q.rows ty r)(hT:∀x∈refs ty,lY q.names x.1=true)(hl:∀s∈tn ty,s∈ln d)(t:Int)(ht:t∈eu (rx q) r)(h0:0<=t):Fol q d t:=by
 rcases YT h hr hT t ht h0 with⟨s,hs,e⟩|⟨ty',h1,h2,h3,h4⟩
 .obtain⟨a,ha⟩:=U1 hs;exact Or.inl ⟨s,hl s hs,hT _ ha,e⟩
 .exact Or.inr ⟨ty',h1,λs hs=>hl s (by rw[<- h2];exact hs),λx hx=>hT x (h3 x hx),h4⟩
theorem LP(h:PR q ds)(hd:d∈ds)(hT:∀x∈qU q.rows,lY q.names x.1=true):∀x∈DZ d.k,lY q.names x.1=true:=λx hx=>hT x (by rw[h.refs];exact List.mem_flatMap.mpr ⟨d,hd,hx⟩)
theorem VG(h:PR q ds)(hv:Nv q)(hT:∀x∈qU q.rows,lY q.names x.1=true)(hd:d∈ds)(hty:qj d.k=true):∀t∈eu (rx q) (mf q.names d.name),0<=t->Fol q d t:=by
 intro t ht h0;obtain⟨_,hdk,_,_⟩:=h.row hv hd hty;have hTd:=LP h hd hT;generalize mf q.names d.name=n at *;obtain⟨nm,a,k⟩:=d;cases k with
 |const n=>cases hty
 |prog n vs=>cases hty
 |alias ty=>exact YU h hdk hTd (λs hs=>List.mem_flatMap.mpr ⟨ty,List.mem_singleton_self _,hs⟩) t ht h0
 |enum ns is=>
  rw[sZ]at ht
  .cases ht
  .rw[xU hdk.2,qH (by show (5:Int)≠14;decide)];show (5:Int)≠14/\(5:Int)≠9/\(5:Int)≠12/\(5:Int)≠13;decide
 |struct l=>
  obtain⟨h1,parts,h2,h3⟩:=hdk;have hw:rowAt (rx q) n={ row0 with kind:=12,parts:=parts }:=by rw[xU h2,qH (by show (12:Int)≠14;decide)]
  unfold eu at ht;rw[hw]at ht;have ht:t∈parts:=ht;obtain⟨ty,hm,hr⟩:=NF h3 t ht;obtain⟨dl,hdl,rfl⟩:=List.mem_map.mp hm;exact Or.inr ⟨dl.ty,hr,λs hs=>List.mem_flatMap.mpr ⟨dl.ty,List.mem_map_of_mem hdl,hs⟩,λx hx=>hTd x (List.mem_flatMap.mpr ⟨dl,hdl,hx⟩),n.toNat,_,h2,ht⟩
 |union of nm2 arms els=>
  obtain⟨h1,f,parts,e,h2,h3,h4,h5⟩:=hdk;have hw:rowAt (rx q) n={ row0 with kind:=13,of:=f,nums:=arms.flatMap (λa=>a.nums),parts:=parts,els:=e }:=by rw[xU h2,qH (by show (13:Int)≠14;decide)]
  unfold eu at ht;rw[hw]at ht;have ht:t∈parts++[e]:=ht;have hkid:Kidr q.rows t:=⟨n.toNat,_,h2,ht⟩;rcases List.mem_append.mp ht with ht|ht
  .obtain⟨ty,hm,hr⟩:=NF h3 t ht;obtain⟨ar,har,hm2⟩:=List.mem_flatMap.mp hm;have:ty=ar.decl.ty:=List.eq_of_mem_replicate hm2;subst this;exact Or.inr ⟨ar.decl.ty,hr,λs hs=>List.mem_flatMap.mpr ⟨ar.decl.ty,List.mem_append_left _ (List.mem_map.mpr ⟨ar,har,rfl⟩),hs⟩,λx hx=>hTd x (List.mem_append_left _ (List.mem_flatMap.mpr ⟨ar,har,hx⟩)),hkid⟩
  .have ht:t=e:=List.mem_singleton.mp ht;subst ht;cases els with
   |none=>
    have h4:t = -2:=h4;omega
   |some dl=>exact Or.inr ⟨dl.ty,h4,λs hs=>List.mem_flatMap.mpr ⟨dl.ty,List.mem_append_right _ (List.mem_singleton_self _),hs⟩,λx hx=>hTd x (List.mem_append_right _ hx),hkid⟩
theorem TC(h:RT rows ty t)(hs:s∈tn ty):0<=t:=by
 cases ty with
 |basic s=>cases hs
 |named _ _=>exact h.1
 |bytes _ _ _=>exact h.1
 |array _ _ _=>exact h.1
 |opt _=>exact h.1
 |void=>cases hs
theorem VF(h:PR q ds)(hv:Nv q)(hT:∀x∈qU q.rows,lY q.names x.1=true)(hd:d∈ds)(hty:qj d.k=true):∀s∈ln d,RR (rx q) (mf q.names d.name) (mf q.names s):=by
 intro s hs;obtain⟨_,hdk,_,_⟩:=h.row hv hd hty;have hTd:=LP h hd hT;generalize mf q.names d.name=n at *;obtain⟨nm,a,k⟩:=d;cases k with
 |const n=>cases hty
 |prog n vs=>cases hty
 |alias ty=>
  obtain⟨ty',hm,hs2⟩:=List.mem_flatMap.mp hs;have:ty'=ty:=List.mem_singleton.mp hm;subst this;exact yL h hdk hTd s hs2
 |enum ns is=>cases hs
 |struct l=>
  obtain⟨h1,parts,h2,h3⟩:=hdk;have hw:rowAt (rx q) n={ row0 with kind:=12,parts:=parts }:=by rw[xU h2,qH (by show (12:Int)≠14;decide)]
  obtain⟨ty,hm,hs⟩:=List.mem_flatMap.mp hs;obtain⟨dl,hdl,rfl⟩:=List.mem_map.mp hm;obtain⟨t,ht,hr⟩:=II h3 dl.ty (List.mem_map_of_mem hdl);have hb:RR (rx q) n t:=RR.base (by unfold eu;rw[hw];exact ht) (TC hr hs);exact hb.trans (yL h hr (λx hx=>hTd x (List.mem_flatMap.mpr ⟨dl,hdl,hx⟩)) s hs)
 |union of nm2 arms els=>
  obtain⟨h1,f,parts,e,h2,h3,h4,h5⟩:=hdk;have hw:rowAt (rx q) n={ row0 with kind:=13,of:=f,nums:=arms.flatMap (λa=>a.nums),parts:=parts,els:=e }:=by rw[xU h2,qH (by show (13:Int)≠14;decide)]
  obtain⟨ty,hm,hs⟩:=List.mem_flatMap.mp hs;rcases List.mem_append.mp hm with hm|hm
  .obtain⟨ar,har,rfl⟩:=List.mem_map.mp hm
   have hmem:ar.decl.ty∈arms.flatMap λa=>List.replicate a.nums.length a.decl.ty:=List.mem_flatMap.mpr ⟨ar,har,by
    rw[List.mem_replicate]
    exact⟨λe=>h5 ar har (List.length_eq_zero_iff.mp e),rfl⟩⟩
   obtain⟨t,ht,hr⟩:=II h3 ar.decl.ty hmem;have hb:RR (rx q) n t:=RR.base (by unfold eu;rw[hw];exact List.mem_append_left _ ht) (TC hr hs);exact hb.trans (yL h hr (λx hx=>hTd x (List.mem_append_left _ (List.mem_flatMap.mpr ⟨ar,har,hx⟩))) s hs)
  .cases els with
   |none=>cases hm
   |some dl=>
    have:ty=dl.ty:=List.mem_singleton.mp hm;subst this;have hb:RR (rx q) n e:=RR.base (by unfold eu;rw[hw];exact List.mem_append_right _ (List.mem_singleton_self _)) (TC h4 hs);exact hb.trans (yL h h4 (λx hx=>hTd x (List.mem_append_right _ hx)) s hs)
theorem ab1(h:s∈ln d):qj d.k=true:=by
 obtain⟨nm,a,k⟩:=d;cases k with
 |const n=>cases h
 |prog n vs=>cases h
 |alias t=>rfl
 |enum ns is=>rfl
 |struct l=>rfl
 |union of n arms els=>rfl
theorem WV(h:PR q ds)(hv:Nv q)(hT:∀x∈qU q.rows,lY q.names x.1=true)(hd:d∈ds)(hty:qj d.k=true):RR (rx q) (mf q.names d.name) (mf q.names d.name)↔NR (aP CS.empty ds).defs (ln d) d.name:=by
 have hlook:∀{e:Def},e∈ds->(aP CS.empty ds).defs.lookup e.name=some e:=λhe=>QJ ds CS.empty h.dnd he;constructor
 .intro hr
  -- what is reached lies in a definition
  let Z:Int->Prop:=λt=>∃e∈ds,qj e.k=true/\((NR (aP CS.empty ds).defs (ln d) e.name/\t=mf q.names e.name)\/((e=d\/NR (aP CS.empty ds).defs (ln d) e.name)/\∃ty,RT q.rows ty t/\(∀s∈tn ty,s∈ln e)/\(∀x∈refs ty,lY q.names x.1=true)/\Kidr q.rows t))
  have fol:∀{e:Def} {t:Int},e∈ds->qj e.k=true->(e=d\/NR (aP CS.empty ds).defs (ln d) e.name)->Fol q e t->Z t:=λ{e t} he het hn hf=>by
   rcases hf with⟨s,hs,hts,ht⟩|hf
   .obtain⟨e',he',het',hen'⟩:=h.Yw hts;refine⟨e',he',het',Or.inl ⟨?_,by rw[hen'];exact ht⟩⟩;rw[hen'];rcases hn with rfl|hn
    .exact NR.base hs
    .exact hn.step (hlook he) hs
   .exact⟨e,he,het,Or.inr ⟨hn,hf⟩⟩
  have key:∀t,RR (rx q) (mf q.names d.name) t->Z t:=λt hr=>by
   induction hr with
   |base ht h0=>exact fol hd hty (Or.inl rfl) (VG h hv hT hd hty _ ht h0)
   |step hs ht h0 ih=>
    obtain⟨e,he,het,hz⟩:=ih;rcases hz with⟨hn,rfl⟩|⟨hn,ty,hr,hl,hTy,_⟩
    .exact fol he het (Or.inr hn) (VG h hv hT he het _ ht h0)
    .exact fol he het hn (YU h hr hTy hl _ ht h0)
  obtain⟨_,_,hrg,x,hx,hxs,hxw,hxn⟩:=h.row hv hd hty;have h5:5<=mf q.names d.name:=by
   rcases Int.lt_or_le (mf q.names d.name) 5 with hlt|hge
   .exfalso;have hl:=zt h hlt;have no:∀t,¬ RR (rx q) (mf q.names d.name) t:=λt hr=>by
     induction hr with
     |base ht _=>rw[hl]at ht;cases ht
     |step _ _ _ ih=>exact ih
    exact no _ hr
   .exact hge
  obtain⟨e,he,het,hz⟩:=key _ hr;rcases hz with⟨hn,heq⟩|⟨_,ty,_,_,_,i,w,hi,hk⟩
  .obtain⟨_,_,_,y,hy,hys,hyw,hyn⟩:=h.row hv he het;have:=h.inj x hx y hy hxw hyw (by rw[<- hxn,<- hyn,heq]) (by rw[<- hxn];exact h5);rw[<- hxs,this,hys];exact hn
  .rw[hxn]at hk h5;exact absurd hk (h.own x hx hxw h5 i w hi)
 .intro hn;have key:∀s,NR (aP CS.empty ds).defs (ln d) s->RR (rx q) (mf q.names d.name) (mf q.names s):=λs hn=>by
   induction hn with
   |base hs=>exact VF h hv hT hd hty _ hs
   |step _ hl ht ih=>
    rcases look_in ds CS.empty hl with⟨he,hen⟩|hl
    .have:=VF h hv hT he (ab1 ht) _ ht;rw[hen]at this;exact ih.trans this
    .cases hl
  exact key _ hn
end Go.M
namespace Go.M
variable {q:RS} {ds:List Def}
theorem Xw(ht:Tidy ds):∀d∈ds,(endless (aP CS.empty ds).defs d).isSome=true:=by
 have:=ht.fine;unfold fine at this;simp only[Bool.and_eq_true]at this;have hf:Jw (aP CS.empty ds) ds=true:=by
  first
  |exact this.1.2
  |exact this.1.1.2
  |exact this.2
  |exact this.1.1.1.2
 unfold Jw at hf;exact λd hd=>List.all_eq_true.mp hf d hd
theorem DU:∀(k i:Nat) (p:RS),p.e=0->k+i=p.names.length->iM k i p=(match (p.names.drop i).find? (λx=>x.what==1&&gV p.rows x.n)with
  |some x=>aK p 9 x.at_
  |none=>p)
 |0,i,p,h0,hk=>by
  rw[List.drop_eq_nil_of_le omg];rfl
 |k+1,i,p,h0,hk=>by
  have hlt:i<p.names.length:=omg;have hd:p.names.drop i=cO p.names i::p.names.drop (i+1):=by
   rw[List.drop_eq_getElem_cons hlt];unfold cO;rw[List.getD_eq_getElem?_getD,List.getElem?_eq_getElem hlt];rfl
  rw[iM,if_pos (by rw[h0];rfl),hd,List.find?_cons];simp only;cases hc:(cO p.names i).what==1&&gV p.rows (cO p.names i).n with
  |true=>
   refine fif ?_;have hf:=mJ (q:=p) h0 (e:=9) (a:=(cO p.names i).at_) dcd;cases k with
   |zero=>rfl
   |succ k=>
    rw[iM,if_neg];have:=hf.2.1;rw[this];decide
  |false=>
   refine fif ?_;exact DU k (i+1) p h0 omg
theorem xY(c:CS):∀(ds:List Def),ik c ds=(match ds.find? (λd=>(c.start.lookup d.name).isSome&&(endless c.defs d).getD true)with
  |some d=>.no 9 d.at_
  |none=>.ok ())
 |[]=>rfl
 |d::r=>by
  rw[ik,List.find?_cons];cases (c.start.lookup d.name).isSome&&(endless c.defs d).getD true with
  |true=>rfl
  |false=>
   refine fif ?_;exact xY c r
theorem uO(p f:α->Bool):∀l:List α,l.find? (λx=>p x&&f x)=(l.filter p).find? f
 |[]=>rfl
 |a::l=>by
  rw[List.find?_cons,List.filter_cons];cases hp:p a with
  |true=>
   rw[Bool.true_and,if_pos rfl,List.find?_cons,uO p f l]
  |false=>
   simp only[Bool.false_and,Bool.false_eq_true,↓reduceIte];exact uO p f l
theorem DF(f:By->Bool)(s:α->By)(a:α->Int):∀l:List α,((l.find? λx=>f (s x)).map a)=((l.map λx=>(s x,a x)).find? λx=>f x.1).map λx=>x.2
 |[]=>rfl
 |x::l=>by
  rw[List.find?_cons,List.map_cons,List.find?_cons];cases f (s x)with
  |true=>rfl
  |false=>exact DF f s a l
theorem find_congr:∀{l:List α},(∀x∈l,f x=g x)->l.find? f=l.find? g
 |[],_=>rfl
 |x::l,h=>by
  rw[List.find?_cons,List.find?_cons,h x (List.mem_cons_self ..),find_congr λy hy=>h y (List.mem_cons_of_mem _ hy)]
theorem lr_of(hv:Nv q):Lr q.rows:=λk hk x hx=>by
 have h:=hv.rows _ (List.mem_of_getElem? (show q.rows[k]?=some (rowAt q.rows (k:Nat))by
  unfold rowAt;rw[List.getD_eq_getElem?_getD,Int.toNat_natCast,List.getElem?_eq_getElem hk]
  rfl))
 unfold eu at hx;simp only at hx;generalize rowAt q.rows (k:Nat)=w at *;split at hx
 .rw[List.mem_singleton.mp hx];exact h.of
 split at hx
 .exact h.parts x hx
 split at hx
 .rcases List.mem_append.mp hx with hx|hx
  .exact h.parts x hx
  .rw[List.mem_singleton.mp hx];exact h.els
 .cases hx
theorem YY(t:By)(ht:t.length<=1200):match (parse t).andThen compile with
  |.no e a=>(jq t).e=(e:Nat)/\(jq t).at_=(a:Nat)/\e≠0
  |.ok _=>(jq t).e=0:=by
 have sp:=WN t;have htd:=λds h=>IZ (txt:=t) (ds:=ds) h;unfold jq;simp only;cases hp:parse t with
 |no e a=>
  rw[hp]at sp;have hfd:Fd (e:Nat) (a:Nat) (dH 80 (aB (jT t))):=sp;simp only[Res.oO];generalize dH 80 (aB (jT t))=q at *;have he:(q.e==0)=false:=by rw[hfd.2.1];simpa using hfd.1
  simp only[he,Bool.false_eq_true,↓reduceIte];have hst:iM q.names.length 0 q=q:=by
   cases q.names.length with
   |zero=>rfl
   |succ k=>rw[iM,if_neg (by rw[he];simp)]
  rw[hst];exact⟨hfd.2.1,hfd.2.2,by have:=hfd.1;omega⟩
 |ok ds=>
  rw[hp]at sp;obtain⟨⟨p',hi⟩,_⟩:=sp;have tidy:=htd ds hp;simp only[Res.aS];generalize dH 80 (aB (jT t))=q at *;have hpr:=hi.pr;have hv:=hi.sn.nv;have h0:q.e=0:=hi.sn.sy.e;have he:(q.e==0)=true:=by rw[h0];rfl
  simp only[he,↓reduceIte]
  -- a name is a type's for the one as for the other
  have hst:∀s,((aP CS.empty ds).start.lookup s).isSome=lY q.names s:=λs=>by
   rw[Ir];have e0:((CS.empty.start:List (By×Nat)).lookup s).isSome=false:=rfl;rw[e0,Bool.or_false];cases hty:lY q.names s with
   |true=>
    obtain⟨d,hd,h1,h2⟩:=hpr.Yw hty;rw[List.any_eq_true];exact⟨d,hd,by rw[h1,h2];simp⟩
   |false=>
    rw[List.any_eq_false];intro d hd hc;rw[Bool.and_eq_true]at hc;have hn:d.name=s:=by simpa using hc.1
    have:=(hpr.row hv hd hc.2).1;rw[hn,hty]at this;cases this
  have hcalls:cn (aP CS.empty ds).calls=qU q.rows:=by
   rw[VM,hpr.refs];rfl
  have hres:=Am (aP CS.empty ds).start (aP CS.empty ds).calls (aP CS.empty ds).L;have hfind:(((aP CS.empty ds).calls.find? λx=>((aP CS.empty ds).start.lookup x.2.1).isNone).map λx=>((x.2.2:Nat):Int))=((qU q.rows).find? λx=>!lY q.names x.1).map λx=>x.2:=by
   rw[<- hcalls];have:=DF (λs=>!lY q.names s) (λx:Nat×By×Nat=>x.2.1) (λx=>((x.2.2:Nat):Int)) (aP CS.empty ds).calls;unfold cn;rw[<- this];congr 1;refine find_congr λx _=>?_;rw[<- hst];cases (aP CS.empty ds).start.lookup x.2.1<;>rfl
  unfold compile;simp only;have hrs:iL q=bI q.rows.length ([]:List eU).length { q with rows:=[]++q.rows }:=rfl;cases hc:(aP CS.empty ds).calls.find? λx=>((aP CS.empty ds).start.lookup x.2.1).isNone with
  |some x=>
   rw[hc]at hres hfind;have hres:gz (aP CS.empty ds).start (aP CS.empty ds).L (aP CS.empty ds).calls=.no 7 x.2.2:=hres;rw[hres];simp only[Res.oO];have hfind:some ((x.2.2:Nat):Int)=((qU q.rows).find? λx=>!lY q.names x.1).map λx=>x.2:=hfind;obtain⟨y,hy,hyx⟩:=Option.map_eq_some_iff.mp hfind.symm;obtain⟨r1,r2⟩:=U0 q.rows [] q y h0 hy;rw[hrs];generalize bI q.rows.length ([]:List eU).length { q with rows:=[]++q.rows }=q2 at *;have hst2:iM q2.names.length 0 q2=q2:=by
    cases q2.names.length with
    |zero=>rfl
    |succ k=>rw[iM,if_neg (by rw[r1];decide)]
   rw[hst2];exact⟨r1,by rw[r2,hyx],dcd⟩
  |none=>
   rw[hc]at hres hfind;obtain⟨L',hL⟩:=hres;rw[hL];simp only[Res.aS];have hT:∀x∈qU q.rows,lY q.names x.1=true:=λx hx=>by
    have hn:((qU q.rows).find? λx=>!lY q.names x.1)=none:=by
     cases hz:(qU q.rows).find? λx=>!lY q.names x.1 with
     |none=>rfl
     |some y=>rw[hz]at hfind;cases hfind
    have:=List.find?_eq_none.mp hn x hx;simpa using this
   have hg:=P7 q.rows [] q hT;rw[hrs,hg];have hg2:({ q with rows:=[]++q.rows.map (GG q.names) }:RS)={ q with rows:=rx q }:=rfl;rw[hg2];have hnv2:Nv { q with rows:=rx q }:=by
    have:=(xg hv).1.nv;rw[hrs,hg,hg2]at this;exact this
   rw[DU q.names.length 0 { q with rows:=rx q } h0 rfl,xY]
   -- the first that has no end,for the one and for the other
   have e1:((q.names.find? λx=>x.what==1&&gV (rx q) x.n).map λx=>x.at_)=((ds.find? λd=>((aP CS.empty ds).start.lookup d.name).isSome&&(endless (aP CS.empty ds).defs d).getD true).map λd=>((d.at_:Nat):Int)):=by
    rw[uO];have c1:(q.names.filter λx=>x.what==1).find? (λx=>gV (rx q) x.n)=(q.names.filter λx=>x.what==1).find? (λx=>gV (rx q) (mf q.names x.s)):=find_congr λx hx=>by
     obtain⟨hx1,hx2⟩:=List.mem_filter.mp hx;have hw:x.what=1:=by simpa using hx2
     obtain⟨d,hd,d1,d2,_⟩:=hpr.dk x hx1 hw;obtain⟨_,_,_,y,hy,hys,hyw,hyn⟩:=hpr.row hv hd d1;have:y=x:=map_inj hpr.nd hy hx1 (by rw[hys,d2]);rw[<- d2,hyn,this]
    rw[c1,DF (λs=>gV (rx q) (mf q.names s)) (λx:NmR=>x.s) (λx=>x.at_),hpr.tys,<- DF (λs=>gV (rx q) (mf q.names s)) (λd:Def=>d.name) (λd=>((d.at_:Nat):Int)),<- uO];congr 1;refine find_congr λd hd=>?_;rw[hst];cases hty:qj d.k with
    |false=>
     rw[Bool.false_and];cases htt:lY q.names d.name with
     |false=>rfl
     |true=>
      exfalso;obtain⟨d',hd',h1,h2⟩:=hpr.Yw htt;have:d'=d:=map_inj hpr.dnd hd' hd h2;rw[this,hty]at h1;cases h1
    |true=>
     obtain⟨htt,_,hrg,_⟩:=hpr.row hv hd hty;rw[htt,Bool.true_and,Bool.true_and];obtain⟨b,hb⟩:=Option.isSome_iff_exists.mp (Xw tidy d hd);rw[hb];show gV (rx q) (mf q.names d.name)=b;have i1:=Rt hb;have i2:=WV hpr hv hT hd hty;obtain⟨n,hn⟩:∃n:Nat,mf q.names d.name=(n:Int):=⟨(mf q.names d.name).toNat,by have:=hrg.1;omega⟩;have hlen:n<(rx q).length:=by
      have:=hrg.2;rw[hn]at this;rw[List.length_map];omega
     have i3:=Oy (rows:=rx q) (lr_of hnv2) hlen;rw[hn]at i2 ⊢;rw[Bool.eq_iff_iff,i3,i2,i1]
   cases hf:ds.find? λd=>((aP CS.empty ds).start.lookup d.name).isSome&&(endless (aP CS.empty ds).defs d).getD true with
   |some d=>
    rw[hf]at e1;obtain⟨x,hx,hxa⟩:=Option.map_eq_some_iff.mp (show _=some ((d.at_:Nat):Int)from e1);have hx':(({ q with rows:=rx q }:RS).names.drop 0).find? (λx=>x.what==1&&gV ({ q with rows:=rx q }:RS).rows x.n)=some x:=hx;rw[hx'];simp only[Res.oO];have hfd:=mJ (q:={ q with rows:=rx q }) h0 (e:=9) (a:=x.at_) dcd;exact⟨hfd.2.1,by rw[hfd.2.2,hxa],dcd⟩
   |none=>
    rw[hf]at e1;have hx:q.names.find? (λx=>x.what==1&&gV (rx q) x.n)=none:=by
     cases hz:q.names.find? (λx=>x.what==1&&gV (rx q) x.n)with
     |none=>rfl
     |some y=>rw[hz]at e1;cases e1
    have hx':(({ q with rows:=rx q }:RS).names.drop 0).find? (λx=>x.what==1&&gV ({ q with rows:=rx q }:RS).rows x.n)=none:=hx;rw[hx'];simp only[Res.aS];exact h0
end Go.M
