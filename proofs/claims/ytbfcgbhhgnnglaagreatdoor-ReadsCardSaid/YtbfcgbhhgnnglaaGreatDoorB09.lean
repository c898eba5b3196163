/- Texts of mine, one behind the other; nothing is assumed. -/
import Derived.Test.YtbfcgbhhgnnglaaGreatDoorB06
import Derived.Below
import Derived.Laws.Strings
set_option autoImplicit true
set_option relaxedAutoImplicit true
set_option linter.unusedSimpArgs false
set_option linter.unusedVariables false
namespace Go.W
open Go
abbrev bs(l:List UInt8):ByteArray:=⟨l.toArray⟩
abbrev i64(n:Int):Value:=.int .i64 n
abbrev pt(b o:Nat):Value:=.pointer (some ⟨b,o,none⟩)
theorem jO(l:List UInt8):(bs l).size=l.length:=by simp[bs,ByteArray.size]
theorem Ae(l:List UInt8):(bs l).toList=l:=by
 rw[Go.ByteArray.toList_eq]
theorem bs_inj(h:bs a=bs b):a=b:=by
 have:=congrArg (λx=>x.data.toList) h;simpa [bs] using this
theorem acQ(s:ByteArray):bs s.data.toList=s:=by cases s;rfl
theorem XJ(a b:List UInt8):bs a++bs b=bs (a++b):=by
 apply ByteArray.ext;simp[bs,ByteArray.data_append]
theorem BI(l:List UInt8)(i j:Nat):(bs l).extract i j=bs ((l.drop i).take (j - i)):=by
 apply ByteArray.ext;simp[bs]
def Out:List (Nat×Nat)->Nat->Prop
 |[],_=>True
 |(lo,hi)::r,b=>(b<lo\/hi<=b)/\Out r b
structure Kp (X:List (Nat×Nat)) (w w':World):Prop where
 os:w'.os=w.os
 tape:w'.tape=w.tape
 output:w'.output=w.output
 size:w.heap.size<=w'.heap.size
 same:∀b,b<w.heap.size->Out X b->w'.heap[b]?=w.heap[b]?
theorem Kp.refl(X:List (Nat×Nat))(w:World):Kp X w w:=⟨rfl,rfl,rfl,Nat.le_refl _,λ_ _ _=>rfl⟩
theorem Kp.trans(h:Kp X a b)(k:Kp Y b c)(hh:∀i,i<a.heap.size->Out Z i->Out X i/\Out Y i):Kp Z a c:=
 ⟨k.os.trans h.os,k.tape.trans h.tape,k.output.trans h.output,Nat.le_trans h.size k.size,
  λi hi ho=>(k.same i (Nat.lt_of_lt_of_le hi h.size) (hh i hi ho).2).trans (h.same i hi (hh i hi ho).1)⟩
theorem Kp.mono(h:Kp X a b)(hh:∀i,i<a.heap.size->Out Y i->Out X i):Kp Y a b:=
 ⟨h.os,h.tape,h.output,h.size,λi hi ho=>h.same i hi (hh i hi ho)⟩
theorem Kp.any(h:Kp [] a b):Kp X a b:=h.mono λ_ _ _=>trivial
theorem Kp.via(k:Kp [] a b)(h:Kp X w a):Kp X w b:=h.trans k λ_ _ ho=>⟨ho,trivial⟩
theorem Kp.viaX(k:Kp Y a b)(hh:∀i,i<w.heap.size->Out X i->Out Y i)(h:Kp X w a):Kp X w b:=h.trans k λi hi ho=>⟨ho,hh i hi ho⟩
theorem Kp.drew(h:Kp X a b):Kp X a b.drew:=⟨h.os,h.tape,h.output,h.size,h.same⟩
theorem Kp.alloc(h:Kp X a b)(o:Obj):Kp X a (b.alloc o):=
 ⟨h.os,h.tape,h.output,by rw[size_alloc];have:=h.size;omega,λi hi ho=>by rw[cZ (Nat.lt_of_lt_of_le hi h.size)];exact h.same i hi ho⟩
theorem Kp.set(h:Kp X a b)(hp:a.heap.size<=p)(v:Value):Kp X a (b.setCell ⟨p,o,none⟩ v):=
 ⟨h.os,h.tape,h.output,by rw[size_set];exact h.size,λi hi ho=>by rw[Q7 omg];exact h.same i hi ho⟩
theorem Kp.obj(h:Kp X a b)(hp:a.heap.size<=p)(v:Obj):Kp X a (ag b p v):=
 ⟨h.os,h.tape,h.output,by rw[ah];exact h.size,λi hi ho=>by rw[bW omg];exact h.same i hi ho⟩
theorem Kp.yS(h:Kp X a b)(hp:¬ Out X p)(v:Obj):Kp X a (ag b p v):=
 ⟨h.os,h.tape,h.output,by rw[ah];exact h.size,λi hi ho=>by rw[bW (λe=>hp (by rw[e];exact ho))];exact h.same i hi ho⟩
def putAt(c:Array Value)(o:Nat)(l:List Value):Array Value:=(c.toList.take o++l++c.toList.drop (o+l.length)).toArray
theorem J3(w:World)(b:Nat)(x y:Obj):ag (ag w b x) b y=ag w b y:=by
 simp[ag]
theorem yJ(h:w.heap[b]?=some (.cells c e f))(v:Value):
  w.setCell ⟨b,o,none⟩ v=ag w b (.cells (c.setIfInBounds o v) e f):=by
 have hlt:=lt_of_heap h;unfold World.setCell ag;congr 1;apply Array.ext
 .simp
 .intro i h1 h2;rw[Array.getElem_modify,Array.getElem_setIfInBounds];split
  .have:w.heap[b]=.cells c e f:=by rw[Array.getElem?_eq_getElem hlt]at h;exact Option.some.inj h
   subst_vars;simp[this]
  .rfl
theorem oI(e:TypeId):∀(l:List Value) (w:World) (b o i:Nat) (c:Array Value),w.heap[b]?=some (.cells c e (0,0))->o+i+l.length<=c.size->l.all (·.oneCell')=true ->
  setCells w ⟨b,o,none⟩ i l=some (ag w b (.cells (putAt c (o+i) l) e (0,0)))
 |[],w,b,o,i,c,h,hs,_=>by
  have hlt:=lt_of_heap h;have:putAt c (o+i) []=c:=by simp[putAt]
  rw[setCells,this];congr 1;unfold ag;have:w.heap.setIfInBounds b (.cells c e (0,0))=w.heap:=by
   apply Array.ext
   .simp
   .intro j h1 h2;rw[Array.getElem_setIfInBounds];split
    .subst_vars;rw[Array.getElem?_eq_getElem hlt]at h;exact(Option.some.inj h).symm
    .rfl
  rw[this]
 |v::r,w,b,o,i,c,h,hs,ha=>by
  have hlt:=lt_of_heap h;simp only[List.length_cons]at hs;simp only[List.all_cons,Bool.and_eq_true]at ha;rw[setCells,add_eq,jM,h,Option.bind_some,fM,Array.getElem?_eq_getElem (by omega)];simp only[Ac,h,Option.map_some,tN,Option.getD_some,ha.1,and_self,if_true];rw[yJ h,oI e r _ b o (i+1) (c.setIfInBounds (o+i) v) (mF h) (by simp;omega) ha.2,J3];congr 3;unfold putAt;congr 1;rw[Array.toList_setIfInBounds];have hl:o+i<c.toList.length:=by simp;omega
  rw[show o+(i+1)=o+i+1 by omega,List.take_set,List.drop_set_of_lt (by omega)];rw[List.take_succ_eq_append_getElem hl,List.set_append];have h1:(List.take (o+i) c.toList).length=o+i:=by rw[List.length_take];omega
  rw[h1,if_neg (by omega),Nat.sub_self,List.set_cons_zero,List.append_assoc,List.append_assoc,List.singleton_append,List.append_assoc,List.length_cons,show o+i+1+r.length=o+i+(r.length+1)by omega];rfl
theorem sLd(b o:Nat)(w:World)(K:Value->Prop):Ld (pt b o) w K=(match w.heap[b]? with|some (.cells c _ _)=>(match c[o]? with|some x=>K x|none=>False)|_=>False):=by
 rw[rLd];cases w.heap[b]? with
 |none=>rfl
 |some x=>cases x<;>rfl
theorem sLdN(b o n:Nat)(w:World)(K:Value->Prop):(match w.heap[b]? with|some (.cells c _ _)=>o+n<=c.size/\K (.agg ((c.toList.drop o).take n).toArray)|_=>False)->LdN (pt b o) n w K:=by
 intro h;cases hb:w.heap[b]? with
 |none=>simp[hb]at h
 |some x=>
  cases x with
  |cells c e f=>rw[hb]at h;rw[rLdN hb h.1];exact h.2
  |_=>simp[hb]at h
theorem sSt(b o:Nat)(x:Value)(w:World)(K:World->Prop):(match w.heap[b]? with|some (.cells c e (0,0))=>x.oneCell'=true/\o<c.size/\K (ag w b (.cells (putAt c o [x]) e (0,0)))|_=>False)->St (pt b o) x w K:=by
 intro h;split at h
 .rename_i c e hb;obtain⟨h1,h2,h3⟩:=h;have:=oI e [x] w b o 0 c hb (by simp;omega) (by simp[h1]);refine⟨h1,⟨c[o],?_⟩,?_,?_⟩
  .rw[jM,hb,Option.bind_some,fM,Array.getElem?_eq_getElem h2]
  .rw[Ac,hb,Option.map_some,tN,Option.getD_some]
  .rw[setCells,add_eq,jM,hb,Option.bind_some,fM,Nat.add_zero,Array.getElem?_eq_getElem h2]at this;simp only[Ac,hb,Option.map_some,tN,Option.getD_some,h1,and_self,if_true,setCells,Option.some.injEq]at this;rw[this];exact h3
 .exact h.elim
theorem sStN(b o n:Nat)(cs:Array Value)(w:World)(K:World->Prop):(match w.heap[b]? with|some (.cells c e (0,0))=>cs.size=n/\cs.toList.all (·.oneCell')=true/\o+n<=c.size/\K (ag w b (.cells (putAt c o cs.toList) e (0,0)))|_=>False)->StN (pt b o) (.agg cs) n w K:=by
 intro h;split at h
 .rename_i c e hb;obtain⟨h1,h2,h3,h4⟩:=h;refine⟨h1,?_⟩;rw[oI e cs.toList w b o 0 c hb (by simp;omega) h2];exact h4
 .exact h.elim
end Go.W
namespace Go.W
open Go
abbrev cl(l:List Value)(t:TypeId):Obj:=.cells (List.toArray l) t (0,0)
theorem iw{w:World}{o:Obj}{b:Nat}(h:b=w.heap.size):(w.alloc o).heap[b]?=some o:=AU h
theorem aC(h:b=b')(h2:b<w.heap.size):(ag w b o).heap[b']?=some o:=by
 subst h;simp[ag,h2]
theorem oQ(hk:Kp X w w')(hs:b<w.heap.size)(ho:Out X b)(h:w.heap[b]?=o):w'.heap[b]?=o:=(hk.same b hs ho).trans h
structure aV (w:World) (b:Nat) (o:Option Obj):Prop where
 out:w.heap[b]?=o
theorem aV.of(h:w.heap[b]?=o):aV w b o:=⟨h⟩
theorem aV.tZ{w:World}{o:Obj}:aV (w.alloc o) w.heap.size (some o):=⟨bH ..⟩
theorem aV.alloc_at{w:World}{o:Obj}{b:Nat}(h:b=w.heap.size):aV (w.alloc o) b (some o):=⟨AU h⟩
theorem aV.zy(h:b<w.heap.size)(k:aV w b o):aV (w.alloc x) b o:=⟨(cZ h).trans k.out⟩
theorem aV.Ja(h:b<w.heap.size):aV (ag w b o) b (some o):=⟨aC rfl h⟩
theorem aV.I9(h:b≠c)(k:aV w b o):aV (ag w c x) b o:=⟨(bW (Ne.symm h)).trans k.out⟩
theorem aV.drew(k:aV w b o):aV w.drew b o:=⟨k.out⟩
theorem aV.kp(hk:Kp X w w')(hs:b<w.heap.size)(ho:Out X b)(h:aV w b o):aV w' b o:=⟨oQ hk hs ho h.out⟩
theorem size_drew(w:World):w.drew.heap.size=w.heap.size:=rfl
section
variable {w:World} {P:Program} {E:KE}
theorem Nk.s(h:K (pt b o)):Nk (pt b o) K:=⟨h⟩
abbrev Nk.q:=@Nk.s
theorem Nk.t{t:TypeId}{v:Value}{K:Value->Prop}(h:K (.iface t v)):Nk (.iface t v) K:=⟨h⟩
abbrev Nk.r:=@Nk.t
theorem Nk.f{f:FuncId}{x y:Array Value}{K:Value->Prop}(h:K (.func (.func f) x y)):Nk (.func (.func f) x y) K:=⟨h⟩
abbrev Nk.g:=@Nk.f
theorem Fa.s(h:K (pt b (o+n))):Fa (pt b o) n K:=by rw[rFa];exact h
abbrev Fa.q:=@Fa.s
theorem Ld.s(hK:K x)
  (h:w.heap[b]?=some (cl l t):=by
   (refine aV.out ?_
    repeat' (first
    |with_reducible exact aV.tZ ..
    |with_reducible refine aV.Ja (by first|(simp only[size_alloc,ah,size_drew];omega)|(simp only[size_alloc,ah,size_drew];done)|omega)
    |with_reducible refine aV.zy (by first|(simp only[size_alloc,ah,size_drew];omega)|(simp only[size_alloc,ah,size_drew];done)|omega) ?_
    |with_reducible refine aV.I9 (by first|(simp only[size_alloc,ah,size_drew];omega)|(simp only[size_alloc,ah,size_drew];done)|omega) ?_
    |with_reducible refine aV.drew ?_
    |with_reducible refine aV.of (by assumption)
    |with_reducible refine aV.kp (by assumption) (by first|(simp only[size_alloc,ah,size_drew];omega)|(simp only[size_alloc,ah,size_drew];done)|omega) (by first|exact trivial|(simp only[Out,and_true,true_and];done)|(simp only[Out,and_true,true_and];first|omega|(simp only[size_alloc,ah,size_drew];done)|(simp only[size_alloc,ah,size_drew];omega))) ?_
    |with_reducible refine aV.alloc_at (by first|(simp only[size_alloc,ah,size_drew];omega)|(simp only[size_alloc,ah,size_drew];done)|omega))))
  (hx:l[o]?=some x:=by first|rfl|assumption):Ld (pt b o) w K:=by
 rw[sLd,h];show (match (List.toArray l)[o]? with|some x=>K x|none=>False);rw[List.getElem?_toArray,hx];exact hK
abbrev Ld.q:=@Ld.s
theorem LdN.s(hK:K (.agg (List.toArray l')))
  (h:w.heap[b]?=some (cl l t):=by
   (refine aV.out ?_
    repeat' (first
    |with_reducible exact aV.tZ ..
    |with_reducible refine aV.Ja (by first|(simp only[size_alloc,ah,size_drew];omega)|(simp only[size_alloc,ah,size_drew];done)|omega)
    |with_reducible refine aV.zy (by first|(simp only[size_alloc,ah,size_drew];omega)|(simp only[size_alloc,ah,size_drew];done)|omega) ?_
    |with_reducible refine aV.I9 (by first|(simp only[size_alloc,ah,size_drew];omega)|(simp only[size_alloc,ah,size_drew];done)|omega) ?_
    |with_reducible refine aV.drew ?_
    |with_reducible refine aV.of (by assumption)
    |with_reducible refine aV.kp (by assumption) (by first|(simp only[size_alloc,ah,size_drew];omega)|(simp only[size_alloc,ah,size_drew];done)|omega) (by first|exact trivial|(simp only[Out,and_true,true_and];done)|(simp only[Out,and_true,true_and];first|omega|(simp only[size_alloc,ah,size_drew];done)|(simp only[size_alloc,ah,size_drew];omega))) ?_
    |with_reducible refine aV.alloc_at (by first|(simp only[size_alloc,ah,size_drew];omega)|(simp only[size_alloc,ah,size_drew];done)|omega))))
  (hx:o+n<=l.length:=by first|decide|(simp only[List.length_cons,List.length_nil];omega)) (hl:(l.drop o).take n=l':=by first|(simp only[Nat.zero_add,Nat.reduceAdd,List.take_succ_cons,List.take_zero,List.drop_succ_cons,List.drop_zero,List.cons_append,List.nil_append,List.append_nil,List.length_cons,List.length_nil];try rfl)|rfl):LdN (pt b o) n w K:=by
 apply sLdN;rw[h];refine⟨by simpa using hx,?_⟩;rw[hl];exact hK
abbrev LdN.q:=@LdN.s
theorem St.s(hK:K (ag w b (cl l' t)))
  (h:w.heap[b]?=some (cl l t):=by
   (refine aV.out ?_
    repeat' (first
    |with_reducible exact aV.tZ ..
    |with_reducible refine aV.Ja (by first|(simp only[size_alloc,ah,size_drew];omega)|(simp only[size_alloc,ah,size_drew];done)|omega)
    |with_reducible refine aV.zy (by first|(simp only[size_alloc,ah,size_drew];omega)|(simp only[size_alloc,ah,size_drew];done)|omega) ?_
    |with_reducible refine aV.I9 (by first|(simp only[size_alloc,ah,size_drew];omega)|(simp only[size_alloc,ah,size_drew];done)|omega) ?_
    |with_reducible refine aV.drew ?_
    |with_reducible refine aV.of (by assumption)
    |with_reducible refine aV.kp (by assumption) (by first|(simp only[size_alloc,ah,size_drew];omega)|(simp only[size_alloc,ah,size_drew];done)|omega) (by first|exact trivial|(simp only[Out,and_true,true_and];done)|(simp only[Out,and_true,true_and];first|omega|(simp only[size_alloc,ah,size_drew];done)|(simp only[size_alloc,ah,size_drew];omega))) ?_
    |with_reducible refine aV.alloc_at (by first|(simp only[size_alloc,ah,size_drew];omega)|(simp only[size_alloc,ah,size_drew];done)|omega))))
  (hc:x.oneCell'=true:=by rfl) (hx:o<l.length:=by first|decide|(simp only[List.length_cons,List.length_nil];omega))
  (hl:l.take o++[x]++l.drop (o+1)=l':=by first|(simp only[Nat.zero_add,Nat.reduceAdd,List.take_succ_cons,List.take_zero,List.drop_succ_cons,List.drop_zero,List.cons_append,List.nil_append,List.append_nil,List.length_cons,List.length_nil];try rfl)|rfl):St (pt b o) x w K:=by
 apply sSt;rw[h];refine⟨hc,by simpa using hx,?_⟩;have:putAt (List.toArray l) o [x]=List.toArray l':=by rw[<- hl];rfl
 rw[this];exact hK
abbrev St.q:=@St.s
theorem StN.s(hK:K (ag w b (cl l' t)))
  (h:w.heap[b]?=some (cl l t):=by
   (refine aV.out ?_
    repeat' (first
    |with_reducible exact aV.tZ ..
    |with_reducible refine aV.Ja (by first|(simp only[size_alloc,ah,size_drew];omega)|(simp only[size_alloc,ah,size_drew];done)|omega)
    |with_reducible refine aV.zy (by first|(simp only[size_alloc,ah,size_drew];omega)|(simp only[size_alloc,ah,size_drew];done)|omega) ?_
    |with_reducible refine aV.I9 (by first|(simp only[size_alloc,ah,size_drew];omega)|(simp only[size_alloc,ah,size_drew];done)|omega) ?_
    |with_reducible refine aV.drew ?_
    |with_reducible refine aV.of (by assumption)
    |with_reducible refine aV.kp (by assumption) (by first|(simp only[size_alloc,ah,size_drew];omega)|(simp only[size_alloc,ah,size_drew];done)|omega) (by first|exact trivial|(simp only[Out,and_true,true_and];done)|(simp only[Out,and_true,true_and];first|omega|(simp only[size_alloc,ah,size_drew];done)|(simp only[size_alloc,ah,size_drew];omega))) ?_
    |with_reducible refine aV.alloc_at (by first|(simp only[size_alloc,ah,size_drew];omega)|(simp only[size_alloc,ah,size_drew];done)|omega))))
  (hn:cs.length=n:=by rfl) (hc:(cs.all (·.oneCell'))=true:=by rfl) (hx:o+n<=l.length:=by first|decide|(simp only[List.length_cons,List.length_nil];omega))
  (hl:l.take o++cs++l.drop (o+cs.length)=l':=by first|(simp only[Nat.zero_add,Nat.reduceAdd,List.take_succ_cons,List.take_zero,List.drop_succ_cons,List.drop_zero,List.cons_append,List.nil_append,List.append_nil,List.length_cons,List.length_nil];try rfl)|rfl):StN (pt b o) (.agg (List.toArray cs)) n w K:=by
 apply sStN;rw[h];refine⟨by simpa using hn,by simpa using hc,by simpa using hx,?_⟩;have:putAt (List.toArray l) o cs=List.toArray l':=by rw[<- hl];rfl
 rw[show (List.toArray cs).toList=cs from rfl,this];exact hK
abbrev StN.q:=@StN.s
theorem Nw.s(hK:K (pt b 0) (w.alloc (cl l t)))(hv:v.cells=List.toArray l:=by rfl)
  (hb:w.heap.size=b:=by first|(simp only[size_alloc,ah,size_drew];rfl)|rfl):Nw t v w K:=by
 rw[rNw,hv,hb];exact hK
abbrev Nw.q:=@Nw.s
theorem Bi.a{a b:Int}{K:Value->Prop}(hK:K (.int .i64 (a+b)))(h : -9223372036854775808<=a+b/\a+b<=9223372036854775807:=by omega):Bi .add (.int .i64 a) (.int .i64 b) K:=by
 rw[Y0,rq h.1 h.2];exact hK
abbrev Bi.q:=@Bi.a
theorem Bi.d{a b:Int}{K:Value->Prop}(hK:K (.int .i64 (a - b)))(h : -9223372036854775808<=a - b/\a - b<=9223372036854775807:=by omega):Bi .sub (.int .i64 a) (.int .i64 b) K:=by
 rw[rBsub,rq h.1 h.2];exact hK
abbrev Bi.r:=@Bi.d
theorem Bi.s{op:BinOp}{k:IntKind}{a b:Int}{v:Value}{K:Value->Prop}(hK:K v)(h:binI op k a b=some v:=by rfl):Bi op (.int k a) (.int k b) K:=by
 rw[rBi,h];exact hK
abbrev Bi.g:=@Bi.s
theorem Bs.a{a b:List UInt8}{K:Value->Prop}(hK:K (.string (bs (a++b))))(h:a.length+b.length<=9223372036854775807:=by first|omega|(simp only[List.length_cons,List.length_nil,List.length_append];omega)):
  Bs .add (.string (bs a)) (.string (bs b)) K:=by
 rw[abt (by rw[jO,jO];exact h),XJ];exact hK
abbrev Bs.q:=@Bs.a
theorem Bs.s{a b:List UInt8}{K:Value->Prop}(hK:K (.bool (a==b))):Bs .eql (.string (bs a)) (.string (bs b)) K:=by
 rw[abr,Ae,Ae];exact hK
abbrev Bs.r:=@Bs.s
theorem Bs.t{a b:List UInt8}{K:Value->Prop}(hK:K (.bool !(a==b))):Bs .neq (.string (bs a)) (.string (bs b)) K:=by
 rw[abq,Ae,Ae];exact hK
abbrev Bs.g:=@Bs.t
theorem En.s(hK:K (.bool (b != ng)))(h:isNil k x=some b:=by rfl):En k ng x K:=
 ⟨by unfold EnD;rw[h];exact hK⟩
abbrev En.g:=@En.s
theorem Eb.s(hK:K (.bool ((a==b) != ng))):Eb ng (.bool a) (.bool b) K:=⟨hK⟩
abbrev Eb.q:=@Eb.s
theorem Nt.s(hK:K (.bool !b)):Nt (.bool b) K:=⟨hK⟩
abbrev Nt.q:=@Nt.s
theorem Ng.s(hK:K (.int k (k.wrap (0 - n)))):Ng (.int k n) K:=⟨hK⟩
abbrev Ng.q:=@Ng.s
theorem Cv.s(hK:K (.int k (k.wrap n))):Cv k (.int k' n) K:=⟨hK⟩
abbrev Cv.q:=@Cv.s
theorem CvS.s{s:ByteArray}{K:Value->Prop}(hK:K (.string s)):CvS (.string s) K:=⟨hK⟩
abbrev CvS.q:=@CvS.s
theorem IxS.s(hK:K (.int .u8 c.toNat))(h:l[i]?=some c:=by first|rfl|assumption):IxS (.string (bs l)) (.int k (i:Nat)) K:=by
 refine⟨⟨omg,?_⟩⟩;have:(bs l)[i]?=some c:=by
  rw[<- h];have hi:i<l.length:=by
   rcases Nat.lt_or_ge i l.length with h'|h'
   .exact h'
   .rw[List.getElem?_eq_none h']at h;cases h
  rw[getElem?_pos (bs l) i (by rw[jO];exact hi),List.getElem?_eq_getElem hi];rfl
 rw[Int.toNat_natCast,this];exact hK
abbrev IxS.q:=@IxS.s
theorem IaS.s(hK:K (pt b (o+i*m)))(h:i<len:=by first|assumption|omega|decide):
  IaS m (.slice (some ⟨b,o,none⟩) len cap) (.int k (i:Nat)) K:=by rw[rIaS' h];exact hK
abbrev IaS.q:=@IaS.s
theorem Ex.s(hK:K v)(h:l[i]?=some v:=by rfl):Ex (.tuple (List.toArray l)) i K:=by
 rw[rEx,List.getElem?_toArray,h];exact hK
abbrev Ex.q:=@Ex.s
theorem Pk.t(hK:K x)(h:b=true:=by first|with_reducible rfl|with_reducible assumption|decide):Pk (.bool b) x y K:=by rw[rPk,h];exact hK
abbrev Pk.q:=@Pk.t
theorem Pk.f(hK:K y)(h:b=false:=by first|with_reducible rfl|with_reducible assumption|decide):Pk (.bool b) x y K:=by rw[rPk,h];exact hK
abbrev Pk.r:=@Pk.f
theorem Ln.s(hK:K (.int .i64 l.length)):Ln true (.string (bs l)) K:=by rw[rLnS,jO];exact hK
abbrev Ln.q:=@Ln.s
theorem Ln.t(hK:K (.int .i64 n)):Ln false (.slice a n c) K:=⟨hK⟩
abbrev Ln.r:=@Ln.t
theorem Ta.t{t u:TypeId}{z v:Value}{K:Value->Prop}(hK:K (.tuple #[v,.bool true]))(h:u=t:=by rfl):Ta t z (.iface u v) K:=by rw[rTa,if_pos h];exact hK
abbrev Ta.r:=@Ta.t
theorem Ta.f{t u:TypeId}{z v:Value}{K:Value->Prop}(hK:K (.tuple #[z,.bool false]))(h:u≠t:=by decide):Ta t z (.iface u v) K:=by rw[rTa,if_neg h];exact hK
abbrev Ta.g:=@Ta.f
theorem Ta.s{t:TypeId}{z:Value}{K:Value->Prop}(hK:K (.tuple #[z,.bool false])):Ta t z .nilIface K:=⟨hK⟩
abbrev Ta.q:=@Ta.s
theorem Ta1.s(hK:K v):Ta1 t (.iface t v) K:=⟨rfl,hK⟩
abbrev Ta1.q:=@Ta1.s
theorem Bu.s(hK:K (.agg (List.toArray l)))(h:o8 z.cells.toList ps=some l:=by first|(simp(decide:=true) only[o8,putCells,Value.cells,List.set_cons_zero,List.set_cons_succ,List.size_toArray,List.length_cons,List.length_nil,List.length_set,Nat.zero_add,Nat.reduceAdd,Nat.reduceLeDiff,and_self,and_true,true_and,if_true];try rfl)|rfl):Bu z ps K:=by
 rw[rBu,h];exact hK
abbrev Bu.q:=@Bu.s
theorem BuS.s(hK:K (.slice (some ⟨b,0,none⟩) n n) (w.alloc (cl l e)))(h1:(vals.all λv=>Nat.beq v.cells.size m)=true:=by rfl)
  (h2:(vals.flatMap (·.cells.toList))=l:=by first|(simp only[List.flatMap_cons,List.flatMap_nil,Value.cells,List.append_nil,List.cons_append,List.nil_append,List.toList_toArray];rfl)|rfl) (h3:vals.length=n:=by first|(simp only[List.length_cons,List.length_nil,Nat.zero_add,Nat.reduceAdd];rfl)|rfl) (hb:w.heap.size=b:=by first|(simp only[size_alloc,ah,size_drew];rfl)|rfl):BuS e m vals w K:=by
 rw[rBuS' h1 (c:=List.toArray l) (by rw[h2]) h3,hb];exact hK
abbrev BuS.q:=@BuS.s
theorem Mm.s(hK:K (.map (some b)) (w.alloc (.map #[] 0)))(hb:w.heap.size=b:=by first|(simp only[size_alloc,ah,size_drew];rfl)|rfl):Mm w K:=by
 rw[rMm,hb];exact hK
abbrev Mm.q:=@Mm.s
theorem Pn.s(h:E [{ v:=.iface t v,recovered:=false }] w):Pn (.iface t v) w E:=⟨h⟩
abbrev Pn.q:=@Pn.s
theorem Gd.t(hK:A K)(h:b=want:=by first|with_reducible rfl|with_reducible assumption|decide):Gd (.bool b) want w A K:=by rw[rGd,if_pos h];exact hK
abbrev Gd.r:=@Gd.t
theorem Gd.f(hK:K undef w)
  (h:b=!want:=by first|with_reducible rfl|with_reducible assumption|(rw[Bool.not_true];with_reducible assumption)|(rw[Bool.not_false];with_reducible assumption)|decide):Gd (.bool b) want w A K:=by
 rw[rGd,if_neg (by rw[h];cases want<;>decide)];exact hK
abbrev Gd.g:=@Gd.f
theorem Gd.a(hK:K undef w):Gd undef want w A K:=⟨hK⟩
abbrev Gd.q:=@Gd.a
theorem Gd.split(h1:b=true->A K)(h2:b=false->K undef w):Gd (.bool b) true w A K:=by
 cases b
 .exact Gd.f (h2 rfl)
 .exact Gd.t (h1 rfl)
theorem Gd.split'(h1:b=true->K undef w)(h2:b=false->A K):Gd (.bool b) false w A K:=by
 cases b
 .exact Gd.t (h2 rfl)
 .exact Gd.f (h1 rfl)
theorem If.t(hK:A)(h:b=true:=by first|with_reducible rfl|with_reducible assumption|decide):If (.bool b) A B:=by rw[rIf,if_pos h];exact hK
abbrev If.q:=@If.t
theorem If.f(hK:B)(h:b=false:=by first|with_reducible rfl|with_reducible assumption|decide):If (.bool b) A B:=by rw[rIf,h];exact hK
abbrev If.r:=@If.f
theorem If.split(h1:b=true->A)(h2:b=false->B):If (.bool b) A B:=If.intro h1 h2
theorem V1.s(h:f a):V1 [a] f:=h
abbrev V1.q:=@V1.s
theorem V2.s(h:f a b):V2 [a,b] f:=h
abbrev V2.q:=@V2.s
theorem V3.s(h:f a b c):V3 [a,b,c] f:=h
abbrev V3.q:=@V3.s
theorem V4.s(h:f a b c d):V4 [a,b,c,d] f:=h
abbrev V4.q:=@V4.s
theorem V5.s(h:f a b c d e):V5 [a,b,c,d,e] f:=h
abbrev V5.q:=@V5.s
end
end Go.W
namespace Go.W
theorem Hl(k:IntKind)(n d top:Nat)(h:n<=top):bnd (some (.int k (n:Int))) d top=some n:=by
 show (if 0<=(n:Int)/\(n:Int)<=top then some (n:Int).toNat else none)=some n;rw[if_pos ⟨omg,omg⟩,Int.toNat_natCast]
theorem SlS.t(hK:K (.string (bs (l.take n))))(h:n<=l.length:=by first|assumption|omega|(simp only[List.length_cons,List.length_nil,List.length_drop,List.length_take];omega)):
  SlS (.string (bs l)) none (some (.int k (n:Nat))) K:=by
 refine⟨?_⟩;unfold UC;simp only[jO];rw[Hl _ _ _ _ h];show K (.string ((bs l).extract 0 n));rw[BI,List.drop_zero,Nat.sub_zero];exact hK
abbrev SlS.r:=@SlS.t
theorem SlS.f(hK:K (.string (bs (l.drop n))))(h:n<=l.length:=by first|assumption|omega|(simp only[List.length_cons,List.length_nil,List.length_drop,List.length_take];omega)):
  SlS (.string (bs l)) (some (.int k (n:Nat))) none K:=by
 refine⟨?_⟩;unfold UC;simp only[jO];show match bnd (some (.int k (n:Int))) 0 l.length with|some l_1=>K (.string ((bs l).extract l_1 l.length))|none=>False
 rw[Hl _ _ _ _ h];show K (.string ((bs l).extract n l.length));rw[BI,List.take_of_length_le (by rw[List.length_drop];omega)];exact hK
abbrev SlS.g:=@SlS.f
theorem SlS.s(hK:K (.string (bs ((l.drop n).take (m - n)))))(h:n<=m:=by first|assumption|omega)(h2:m<=l.length:=by first|assumption|omega):
  SlS (.string (bs l)) (some (.int k (n:Nat))) (some (.int k' (m:Nat))) K:=by
 refine⟨?_⟩;unfold UC;simp only[jO];rw[Hl _ _ _ _ h2];show match bnd (some (.int k (n:Int))) 0 m with|some l_1=>K (.string ((bs l).extract l_1 m))|none=>False
 rw[Hl _ _ _ _ h];show K (.string ((bs l).extract n m));rw[BI];exact hK
abbrev SlS.q:=@SlS.s
theorem fF.by(h:s.run P w=.ok v w')(hK:K v w'):fF P s w K:=⟨by unfold SH;rw[h];exact hK⟩
theorem SI.by(h:s.run P w=.ok u w')(hK:K w'):SI P s w K:=⟨by unfold aaP;rw[h];exact hK⟩
end Go.W
namespace Go.W
theorem Ld.by(h:w.cell? a=some x)(hK:K x):Ld (.pointer (some a)) w K:=⟨by unfold LdD;simp only[h];exact hK⟩
theorem Sh.s(hK:K (.int k (k.wrap (a*2 ^ min b.toNat k.bits))))(hb:0<=b:=by first|decide|omega):Sh .shl (.int k a) (.int k' b) K:=⟨hb,hK⟩
abbrev Sh.q:=@Sh.s
theorem Sh.t(hK:K (.int k (a.fdiv (2 ^ min b.toNat k.bits))))(hb:0<=b:=by first|decide|omega):Sh .shr (.int k a) (.int k' b) K:=⟨hb,hK⟩
abbrev Sh.r:=@Sh.t
end Go.W
