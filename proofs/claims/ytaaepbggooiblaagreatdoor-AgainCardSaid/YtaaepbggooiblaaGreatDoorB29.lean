/- Texts of mine, one behind the other; nothing is assumed. -/
import Derived.Test.YtaaepbggooiblaaGreatDoorB28
import Derived.Laws.MakeOwn
import Derived.Test.YtaaepbggooiblaaGreatDoorB26
import Derived.Test.YtaaepbggooiblaaGreatDoorB15
set_option linter.unusedSimpArgs false
set_option linter.unusedVariables false
set_option maxRecDepth 100000
namespace Go.W.T
open Go Go.W Go.M Go.Proofs
theorem u73:P.underlying 73=some (.slice 9):=by kernel_rfl
noncomputable def i9:TypeInfo:=(P.info? 9).getD default
theorem YO:P.info? 9=some i9:=by kernel_rfl
theorem YN:i9.zero=some (.string ⟨#[]⟩):=by kernel_rfl
theorem TP:i9.size=1:=by kernel_rfl
theorem WI:i9.bytes=16:=by kernel_rfl
theorem FM:∀{ns:List By} {is:List Int} {i:Nat} {s:By} {n:Int},ns[i]?=some s→is[i]?=some n→(bW ns is)[i]?=some (s++[32,61,32]++uY n)
 |[],_,_,_,_,h,_=>by cases h
 |_::_,[],_,_,_,_,h=>by cases h
 |a::r,b::q,0,s,n,h1,h2=>by cases h1;cases h2;rfl
 |a::r,b::q,i+1,s,n,h1,h2=>by rw[bW];exact FM (ns:=r) (is:=q) (i:=i) h1 h2
theorem BG:∀{ns:List By} {is:List Int},ns.length=is.length→(bW ns is).length=ns.length
 |[],[],_=>rfl
 |a::r,b::q,h=>by rw[bW,List.length_cons,List.length_cons,BG (by simpa using h)]
 |[],_::_,h=>by cases h
 |_::_,[],h=>by cases h
theorem yT:∀{ns:List By} {is:List Int},(∀s∈ns,s.length≤2000)→(∀n∈is,-9223372036854775808≤n∧n≤9223372036854775807)→∀m∈bW ns is,m.length≤2030
 |[],_,_,_,m,hm=>by cases hm
 |_::_,[],_,_,m,hm=>by cases hm
 |a::r,b::q,h1,h2,m,hm=>by
  rw[bW]at hm
  rcases List.mem_cons.mp hm with rfl|hm
  ·have:=h1 a (List.mem_cons_self ..)
   have:=jQ b (h2 b (List.mem_cons_self ..))
   simp only[List.length_append,List.length_cons,List.length_nil];omega
  ·exact yT (fun s hs=>h1 s (List.mem_cons_of_mem _ hs)) (fun n hn=>h2 n (List.mem_cons_of_mem _ hn)) m hm
theorem KD(sep:By)(N:Nat):∀(l:List By),(∀m∈l,m.length≤N)→(Go.Lib.join l sep).length≤l.length*(N+sep.length)
 |[],_=>by simp[Go.Lib.join]
 |[a],h=>by
  have:=h a (List.mem_cons_self ..)
  simp only[Go.Lib.join,List.intercalate,List.intersperse,List.flatten_cons,List.flatten_nil,List.append_nil,List.length_singleton];omega
 |a::b::r,h=>by
  have h1:=h a (List.mem_cons_self ..)
  have h2:=KD sep N (b::r) fun m hm=>h m (List.mem_cons_of_mem _ hm)
  have e:Go.Lib.join (a::b::r) sep=a++(sep++Go.Lib.join (b::r) sep):=by
   simp[Go.Lib.join,List.intercalate,List.intersperse]
  rw[e,List.length_append,List.length_append,List.length_cons,Nat.succ_mul]
  omega
theorem Nv{H:Hp}{w:World}{b:Nat}{name:By}{at_:Nat}{ns:List By}{is:List Int}{u x:Value}(h:w.heap[b]?=some (cl [κs name,i64 at_,u,x] dI))(hu:SlF H kY ns.length (ns.map κs) u)(hx:SlF H gX is.length (is.map i64) x)
  (hs:Sub H w) (hg:Gl w) (hn:name.length≤2000) (hk:ns.length≤1000) (he:ns.length=is.length) (hne:0<ns.length) (f1:∀s∈ns,s.length≤2000) (f2:∀n∈is,-9223372036854775808≤n∧n≤9223372036854775807):
  Calls P rV #[pt b 0] w (Ret fun r w'=>r=κs (lV ⟨name,at_,.enum ns is⟩)∧Kp [] w w'):=by
 refine Ret.R fun R hR=>?_
 apply AU
 unfold qX
 have hlt:=lt_of_heap h
 obtain⟨ub,urest,ucap,rfl,hub⟩:=hu
 obtain⟨xb,xrest,xcap,rfl,hxb⟩:=hx
 have hub':=hs _ _ _ hub
 have hxb':=hs _ _ _ hxb
 have lu:=lt_of_heap hub'
 have lx:=lt_of_heap hxb'
 repeat' first|refine .x ?_|refine .y ?_|refine .z ?_|fail
 have hrun:=run_makeSlice (P:=P) (w:=w) 73 9 i9 _ u73 YO YN .i64 .i64 (ns.length:Nat) (ns.length:Nat) (by omega) (Int.le_refl _) (by rw[TP];omega) (by rw[WI];omega) (by omega)
 refine dM.by hrun ?_
 rw[Int.toNat_natCast,TP]
 obtain⟨cs,hcs,hcl⟩:∃cs:List Value,madeCells (Value.string ⟨#[]⟩).cells (ns.length*1)=cs.toArray∧cs.length=ns.length*1:=
  ⟨_,(Array.toArray_toList).symm,by rw[Array.length_toList,size_madeCells]⟩
 rw[hcs]
 have k3:Kp [] w (w.alloc (cl cs 9)):=by exact kpA
 have n3:(w.alloc (cl cs 9)).heap[w.heap.size]?=some (cl cs 9):=by exact lookA
 generalize w.alloc (cl cs 9)=w3 at *
 repeat' first|refine .x ?_|refine .y ?_|refine .z ?_|fail
 have hml:=BG he
 refine Lp.nat (n:=ns.length) (fun n vals w'=>∃(i:Nat) (rest:List Value),vals=[.int .i64 i]∧i+n=ns.length∧Kp [] w w'∧w'.heap[w.heap.size]?=some (cl (((bW ns is).take i).map κs++rest) 9)∧rest.length=n) ⟨0,cs,rfl,by omega,k3,by simpa using n3,by omega⟩ ?_
 rintro n _ w9 jk C ⟨i,rest,rfl,hi,k9,n9,hr⟩ hC
 have l9:=lt_of_heap n9
 refine .s ?_
 refine .s ?_
 refine .split (fun hh=>?_) (fun hh=>?_)
 ·have hi':i<ns.length:=by have:=of_decide_eq_true hh;omega
  obtain⟨s,hsn⟩:∃s,ns[i]?=some s:=⟨_,List.getElem?_eq_getElem hi'⟩
  obtain⟨m,hmn⟩:∃m,is[i]?=some m:=⟨_,List.getElem?_eq_getElem (by omega)⟩
  have h9:=(k9.same _ hlt trivial).trans h
  have u9:=(k9.same _ lu trivial).trans hub'
  have x9:=(k9.same _ lx trivial).trans hxb'
  have a1:(ns.map κs++urest)[0+i*1]?=some (κs s):=by
   rw[Nat.zero_add,Nat.mul_one,List.getElem?_append_left (by simpa using hi'),List.getElem?_map,hsn];rfl
  have a2:(is.map i64++xrest)[0+i*1]?=some (i64 m):=by
   rw[Nat.zero_add,Nat.mul_one,List.getElem?_append_left (by simp;omega),List.getElem?_map,hmn];rfl
  have b1:=f1 s (List.mem_of_getElem? hsn)
  have b2:=f2 m (List.mem_of_getElem? hmn)
  have b3:=jQ m b2
  repeat' first|refine .x ?_|refine .y ?_|refine .z ?_|fail
  have k9d:Kp [] w9 w9.drew:=by exact kpA
  refine Cl.ret (Gm (hg.kp (show Kp [] w w9.drew from k9.drew) fun _ _=>trivial) b2) ?_
  rintro _ w25 ⟨rfl,k25⟩
  have h25:=(k25.same _ (lt_of_heap h9) trivial).trans h9
  have u25:=(k25.same _ (lt_of_heap u9) trivial).trans u9
  have n25:=(k25.same _ l9 trivial).trans n9
  refine⟨?_,?_,?_⟩
  ·repeat' first|refine .x ?_|refine .y ?_|refine .z ?_|fail
   rfl
  ·repeat' first|refine .x ?_|refine .y ?_|refine .z ?_|fail
   rfl
  repeat' first|refine .x ?_|refine .y ?_|refine .z ?_|fail
  obtain⟨r0,rt,rfl⟩:∃r0 rt,rest=r0::rt:=by
   cases rest with
   |nil=>simp at hr;omega
   |cons a r=>exact⟨a,r,rfl⟩
  have hA:(((bW ns is).take i).map κs).length=i:=by rw[List.length_map,List.length_take];omega
  have hmi:=FM hsn hmn
  have l25:=lt_of_heap n25
  refine St.s (l':=((bW ns is).take (i+1)).map κs++rt) ?_ n25 rfl (by rw[List.length_append,hA,List.length_cons];omega) ?_
  ·repeat' first|refine .x ?_|refine .y ?_|refine .z ?_|fail
   refine hC (n - 1) _ _ (by omega) ⟨i+1,rt,rfl,by omega,?_,?_,?_⟩
   ·have kk:=k9.tt (k9d.tt k25)
    exact kk.trans (show Kp [(w.heap.size,w.heap.size+1)] w25 _ from by exact kpA) fun j hj _=>⟨trivial,by omega,trivial⟩
   ·exact lookA
   ·simp only[List.length_cons]at hr;omega
  ·rw[Nat.zero_add,Nat.mul_one,List.take_append_of_le_length (by omega),List.take_of_length_le (by omega),List.drop_append,List.drop_of_length_le (by omega),hA,List.take_add_one,hmi,List.map_append]
   simp[show i+1 - i=1 by omega]
 ·have hi':i=ns.length:=by have:=of_decide_eq_false hh;omega
  have hrest:rest=[]:=List.length_eq_zero_iff.mp (by omega)
  subst hrest
  subst hi'
  have h9:=(k9.same _ hlt trivial).trans h
  rw[List.append_nil,List.take_of_length_le (by omega)]at n9
  have hj:=KD [44,32] 2030 (bW ns is) (yT f1 f2)
  rw[hml]at hj
  have hj':(Go.Lib.join (bW ns is) [44,32]).length≤2040000:=Nat.le_trans hj (by
   have:ns.length*(2030+2)≤1000*(2030+2):=Nat.mul_le_mul_right _ hk
   exact Nat.le_trans this (by decide))
  repeat' first|refine .x ?_|refine .y ?_|refine .z ?_|fail
  have k9d:Kp [] w9 w9.drew:=by exact kpA
  have hJ:=Tryz.strings_Join w.heap.size 0 ns.length ((bW ns is).map bs) (bs [44,32]) w9.drew
   (fun j y hy=>by
    rw[List.getElem?_map,Option.map_eq_some_iff]at hy
    obtain⟨m,hm,rfl⟩:=hy
    have n9':w9.drew.heap[w.heap.size]?=some (cl ((bW ns is).map κs) 9):=n9
    exact cell_of n9' (by rw[Nat.zero_add,List.getElem?_map,hm];rfl))
   (by exact l9) (by rw[List.length_map];omega) (by rw[List.length_map];omega)
   (by
    have e:((bW ns is).map bs).map (·.data.toList)=bW ns is:=by rw[List.map_map];exact List.map_id' _
    rw[e];exact Nat.le_trans hj' (by decide))
  have hJ':Calls P 350 #[.slice (some ⟨w.heap.size,0,none⟩) ns.length ns.length,.string ⟨#[44,32]⟩] w9.drew (Ret fun r w'=>r=κs (Go.Lib.join (bW ns is) [44,32])∧Kp [] w9.drew w'):=by
   rw[List.length_map,hml]at hJ
   refine hJ.mono fun e w' hh=>?_
   obtain⟨rfl,hb⟩:=hh
   refine⟨_,rfl,?_,Kp.below hb⟩
   have e:((bW ns is).map bs).map (·.data.toList)=bW ns is:=by rw[List.map_map];exact List.map_id' _
   rw[e]
  refine Cl.ret hJ' ?_
  rintro _ w39 ⟨rfl,k39⟩
  have h39:=(k39.same _ (lt_of_heap h9) trivial).trans h9
  refine⟨?_,?_⟩
  ·repeat' first|refine .x ?_|refine .y ?_|refine .z ?_|fail
   rfl
  repeat' first|refine .x ?_|refine .y ?_|refine .z ?_|fail
  refine hR _ _ ⟨?_,k9.tt (k9d.tt k39)⟩
  simp[lV,κs]
end Go.W.T
namespace Go.W.T
open Go Go.W Go.M Go.Proofs
def Bg(x:Nat)(w0 w:World)(b:Nat)(s:By):Prop:=Kp [] w0 w∧w0.heap.size≤b∧b≠x∧x<w.heap.size∧∃o a buf,w.heap[b]?=some (cl [a,buf] 139)∧(a=.pointer none∨a=pt b 0)∧Gw w 5 1 buf s.length (fB s) o∧∀y,o=some y→y≠b∧w0.heap.size≤y∧y≠x
theorem Bg.bw{x:Nat}{w0 w:World}{b:Nat}{s:By}(h:Bg x w0 w b s):Bw w0 w b s:=by
 obtain⟨h1,h2,h3,h4,o,a,buf,h5,h6,h7,h8⟩:=h
 exact⟨h1,h2,o,a,buf,h5,h6,h7,fun y hy=>⟨(h8 y hy).1,(h8 y hy).2.1⟩⟩
theorem Bg.kp{x:Nat}{w0 w w':World}{b:Nat}{s:By}(h:Bg x w0 w b s)(k:Kp [] w w'):Bg x w0 w' b s:=by
 obtain⟨h1,h2,h3,h4,o,a,buf,h5,h6,h7,h8⟩:=h
 exact⟨h1.tt k,h2,h3,Nat.lt_of_lt_of_le h4 k.size,o,a,buf,(k.same _ (lt_of_heap h5) trivial).trans h5,h6,h7.kp k fun _ _=>trivial,h8⟩
theorem Bw.guard{w0 w w':World}{b:Nat}{s:By}(h:Bw w0 w b s)(k:Kp [] w w')(hx:w.heap.size<w'.heap.size):Bg w.heap.size w0 w' b s:=by
 obtain⟨h1,h2,o,a,buf,h5,h6,h7,h8⟩:=h
 have hb:=lt_of_heap h5
 exact⟨h1.tt k,h2,by omega,hx,o,a,buf,(k.same _ hb trivial).trans h5,h6,h7.kp k fun _ _=>trivial,fun y hy=>⟨(h8 y hy).1,(h8 y hy).2,by have:=h7.lt y hy;omega⟩⟩
theorem Q4{x:Nat}{w0 w:World}{b:Nat}{s:By}(h:Bg x w0 w b s)(t:By)(hn:s.length+t.length≤4000000000):Calls P dN #[pt b 0,κs t] w (Ret fun _ w'=>Bg x w0 w' b (s++t)∧w'.heap[x]?=w.heap[x]?):=by
 obtain⟨h1,h2,h3,h4,o,a,buf,h5,h6,h7,h8⟩:=h
 refine(SQ t h5 h6 h7 (fun y hy=>(h8 y hy).1) hn).mono fun e w' hh=>?_
 obtain⟨v,rfl,buf',o',g1,g2,g3,g4⟩:=hh
 have k:Kp [] w0 w':=h1.trans g4 fun i hi _=>⟨trivial,by omega,aU fun e=>by have:=(h8 i e).2.1;omega⟩
 refine⟨v,rfl,⟨k,h2,h3,Nat.lt_of_lt_of_le h4 g4.size,o',_,buf',g1,Or.inr rfl,?_,fun y hy=>?_⟩,g4.same x h4 ⟨by omega,aU fun e=>(h8 x e).2.2 rfl⟩⟩
 ·rw[List.length_append]
  have:fB (s++t)=fB s++fB t:=by simp[fB]
  rw[this];exact g2
 ·obtain⟨q1,q2⟩:=g3 y hy
  rcases q2 with q2|q2
  ·exact h8 y q2
  ·have:=h1.size;exact⟨q1,by omega,by omega⟩
theorem Ub{H:Hp}:∀{ar:List Arm} {l:List Value} {k:Nat} {a:Arm},jD H ar l→ar[k]?=some a→∃ns u,l.drop (k*3)=ns::κs a.decl.name::u::l.drop (k*3+3)∧SlF H gX a.nums.length (a.nums.map i64) ns∧gK H a.decl.ty u
 |[],_,_,_,_,h=>by cases h
 |a::r,n::s::t::l,0,d,h,hd=>by
  cases hd
  exact⟨n,t,by rw[h.2.1];rfl,h.1,h.2.2.1⟩
 |a::r,n::s::t::l,k+1,d,h,hd=>by
  obtain⟨ns,u,h1,h2⟩:=Ub (l:=l) (k:=k) h.2.2.2 hd
  refine⟨ns,u,?_,h2⟩
  rw[show (k+1)*3=k*3+3 by omega]
  exact h1
 |a::r,[],_,_,h,_=>h.elim
 |a::r,[_],_,_,h,_=>h.elim
 |a::r,[_,_],_,_,h,_=>h.elim
theorem CW:∀{l:List Int},(∀n∈l,-9223372036854775808≤n∧n≤9223372036854775807)→(lW l).length≤28*l.length
 |[],_=>Nat.zero_le _
 |n::r,h=>by
  have h1:=jQ n (h n (List.mem_cons_self ..))
  have h2:=CW fun x hx=>h x (List.mem_cons_of_mem _ hx)
  simp only[lW,List.length_append,List.length_cons,List.length_nil];omega
theorem KX:∀{l:List Int} {i:Nat} {n:Int},l[i]?=some n→lW (l.take (i+1))=lW (l.take i)++([99,97,115,101,32]++uY n++[58,32])
 |[],_,_,h=>by cases h
 |a::r,0,d,h=>by cases h;simp[lW]
 |a::r,i+1,d,h=>by
  have:=KX (l:=r) (i:=i) (n:=d) h
  rw[List.take_succ_cons,List.take_succ_cons,lW,lW,this];simp only[List.append_assoc]
def FitA(a:Arm):Prop:=IE a.decl∧a.nums.length≤1000∧∀n∈a.nums,-9223372036854775808≤n∧n≤9223372036854775807
theorem F9:∀{l:List Arm},(∀a∈l,FitA a)→(nG l).length≤40000*l.length
 |[],_=>Nat.zero_le _
 |a::r,h=>by
  obtain⟨h1,h2,h3⟩:=h a (List.mem_cons_self ..)
  have h4:=CW h3
  have h5:=oO h1
  have h6:=F9 fun x hx=>h x (List.mem_cons_of_mem _ hx)
  simp only[nG,List.length_append,List.length_cons,List.length_nil];omega
theorem MX:∀{l:List Arm} {i:Nat} {a:Arm},l[i]?=some a→nG (l.take (i+1))=nG (l.take i)++(lW a.nums++(oP a.decl++[59,32]))
 |[],_,_,h=>by cases h
 |a::r,0,d,h=>by cases h;simp[nG]
 |a::r,i+1,d,h=>by
  have:=MX (l:=r) (i:=i) (a:=d) h
  rw[List.take_succ_cons,List.take_succ_cons,nG,nG,this];simp only[List.append_assoc]
theorem Lh{H:Hp}{w:World}{b:Nat}{name nm:By}{at_:Nat}{of:Ty}{ar:List Arm}{els:Option Decl}{o u e:Value}{l:List Value}(h:w.heap[b]?=some (cl [κs name,i64 at_,o,κs nm,u,e] aH))(ho:gK H of o)(hl:jD H ar l)(hu:SlF H cu ar.length l u)
  (he:match els with
   |none=>e=.pointer none
   |some x=>∃c t,e=pt c 0∧H c=some ([.string (bs x.name),t],fO)∧gK H x.ty t)
  (hs:Sub H w) (hg:Gl w) (hn:name.length≤2000) (hnm:nm.length≤2000) (hk:ar.length≤1000) (hof:Fit of) (hof2:tsz of≤3) (hf:∀a∈ar,FitA a) (hfe:∀d,els=some d→IE d):
  Calls P qi #[pt b 0] w (Ret fun r w'=>r=κs (lV ⟨name,at_,.union of nm ar els⟩)∧Kp [] w w'):=by
 refine Ret.R fun R hR=>?_
 apply zD
 unfold pI
 have hlt:=lt_of_heap h
 have hfl:=kQ of 0 hof
 obtain⟨sb,rest,cap,rfl,hsb⟩:=hu
 have hsl:=hs _ _ _ hsb
 refine .s ?_
 have hB0:=Bw.new w
 have l1:w.heap.size<(w.alloc (cl [.pointer none,.slice none 0 0] 139)).heap.size:=by simp only[size_alloc];omega
 generalize w.alloc (cl [.pointer none,.slice none 0 0] 139)=w1 at *
 have h1:=(hB0.k.same _ hlt trivial).trans h
 have kd:Kp [] w1 w1.drew:=by exact kpA
 repeat' first|refine .x ?_|refine .y ?_|refine .z ?_|fail
 have hBd:=hB0.kp kd
 refine F8 of ho (hs.al hBd.k) hof (by omega) fun w16 k16=>?_
 have hB16:=hBd.kp k16
 have h16:=(hB16.k.same _ hlt trivial).trans h
 refine⟨?_,?_,?_⟩
 ·repeat' first|refine .x ?_|refine .y ?_|refine .z ?_|fail
  rfl
 ·repeat' first|refine .x ?_|refine .y ?_|refine .z ?_|fail
  rfl
 repeat' first|refine .x ?_|refine .y ?_|refine .z ?_|fail
 refine Cl.ret (GZ hB16 _ (by simp only[List.length_append,List.length_cons,List.length_nil];omega)) ?_
 intro v w23 hb
 rw[List.nil_append]at hb
 generalize hpre:([117,110,105,111,110,32]++name++[32,115,119,105,116,99,104,32,40]++dU of++nm++[41,32,123,32]:By)=pre at hb
 have ZB:pre.length≤7000:=by rw[← hpre];simp only[List.length_append,List.length_cons,List.length_nil];omega
 have h23:=(hb.k.same _ hlt trivial).trans h
 repeat' first|refine .x ?_|refine .y ?_|refine .z ?_|fail
 refine Lp.nat (fun n vals w'=>∃(i:Nat) (z:Value),n+i=ar.length∧vals=[i64 i,z]∧Bw w w' w.heap.size (pre++nG (ar.take i))) (n:=ar.length) ⟨0,_,by omega,rfl,by simpa [nG] using hb⟩ ?_
 rintro n _ w29 jk C ⟨i,z,hi,rfl,hB⟩ hC
 repeat' first|refine .x ?_|refine .y ?_|refine .z ?_|fail
 have htl:(ar.take i).length≤1000:=by rw[List.length_take];omega
 have hal:=F9 fun x hx=>hf x (List.mem_of_mem_take (i:=i) hx)
 refine .split (fun hh=>?_) (fun hh=>?_)
 ·have hi':i<ar.length:=by have:=of_decide_eq_true hh;omega
  obtain⟨a,ha⟩:∃a,ar[i]?=some a:=⟨_,List.getElem?_eq_getElem hi'⟩
  obtain⟨nsv,uv,hu1,hu2,hu3⟩:=Ub hl ha
  obtain⟨ua,ub,rfl⟩:=hu3.form
  obtain⟨nb,VZ,PO,rfl,hnb⟩:=hu2
  have KG:=(hB.k.same _ (lt_of_heap hsl) trivial).trans hsl
  have WR:=hs _ _ _ hnb
  have hfa:=hf a (List.mem_of_getElem? ha)
  repeat' first|refine .x ?_|refine .y ?_|refine .z ?_|fail
  have hlen:=congrArg List.length hu1
  simp only[List.length_drop,List.length_cons]at hlen
  have hl0:((l++rest).drop (0+i*3)).take 3=[.slice (some ⟨nb,0,none⟩) a.nums.length PO,κs a.decl.name,.iface ua ub]:=by
   rw[Nat.zero_add,List.drop_append_of_le_length (by omega),hu1];rfl
  refine LdN.s (l':=[.slice (some ⟨nb,0,none⟩) a.nums.length PO,κs a.decl.name,.iface ua ub]) ?_ KG (by rw[List.length_append];omega) hl0
  have ll:=lt_of_heap KG
  repeat' first|refine .x ?_|refine .y ?_|refine .z ?_|fail
  refine Lp.nat (fun n vals w'=>∃(j:Nat),n+j=a.nums.length∧vals=[i64 j]∧Bg w29.heap.size w w' w.heap.size (pre++nG (ar.take i)++lW (a.nums.take j))∧w'.heap[w29.heap.size]?=some (cl [.slice (some ⟨nb,0,none⟩) a.nums.length PO,κs a.decl.name,.iface ua ub] 237)) (n:=a.nums.length)
   ⟨0,by omega,rfl,by rw[List.take_zero,lW,List.append_nil];exact hB.guard (by exact kpA) (by simp only[ah,size_alloc];omega),by exact lookA⟩ ?_
  rintro nn _ w43 jk2 C2 ⟨j,hj,rfl,hB2,n43⟩ hC2
  repeat' first|refine .x ?_|refine .y ?_|refine .z ?_|fail
  have hcl:=CW hfa.2.2
  have hal2:=hfa.2.1
  have hcl2:=CW fun x hx=>hfa.2.2 x (List.mem_of_mem_take (i:=j) hx)
  have htl2:(a.nums.take j).length≤1000:=by have:=hfa.2.1;rw[List.length_take];omega
  refine .split (fun hh=>?_) (fun hh=>?_)
  ·have hj':j<a.nums.length:=by have:=of_decide_eq_true hh;omega
   obtain⟨m,hm⟩:∃m,a.nums[j]?=some m:=⟨_,List.getElem?_eq_getElem hj'⟩
   have n43':=(hB2.bw.k.same _ (lt_of_heap WR) trivial).trans WR
   have a1:(a.nums.map i64++VZ)[0+j*1]?=some (i64 m):=by
    rw[Nat.zero_add,Nat.mul_one,List.getElem?_append_left (by simpa using hj'),List.getElem?_map,hm];rfl
   have b2:=hfa.2.2 m (List.mem_of_getElem? hm)
   have b3:=jQ m b2
   repeat' first|refine .x ?_|refine .y ?_|refine .z ?_|fail
   refine Cl.ret (Gm (hg.kp hB2.bw.k fun _ _=>trivial) b2) ?_
   rintro _ w50 ⟨rfl,k50⟩
   repeat' first|refine .x ?_|refine .y ?_|refine .z ?_|fail
   refine Cl.ret (Q4 (hB2.kp k50) _ (by simp only[List.length_append,List.length_cons,List.length_nil];omega)) ?_
   rintro v w54 ⟨hb54,e54⟩
   repeat' first|refine .x ?_|refine .y ?_|refine .z ?_|fail
   refine hC2 (nn - 1) _ _ (by omega) ⟨j+1,by omega,rfl,?_,?_⟩
   ·rw[KX hm,← List.append_assoc];exact hb54
   ·rw[e54];exact(k50.same _ (lt_of_heap n43) trivial).trans n43
  ·have hj':j=a.nums.length:=by have:=of_decide_eq_false hh;omega
   subst hj'
   rw[List.take_length]at hB2
   have hdl:=oO hfa.1
   repeat' first|refine .x ?_|refine .y ?_|refine .z ?_|fail
   refine Cl.ret (uy (d:=a.decl) hu3 (hs.al hB2.bw.k) (hg.kp hB2.bw.k fun _ _=>trivial) hfa.1) ?_
   rintro _ w59 ⟨rfl,k59⟩
   repeat' first|refine .x ?_|refine .y ?_|refine .z ?_|fail
   refine Cl.ret (GZ (hB2.bw.kp k59) _ (by simp only[List.length_append,List.length_cons,List.length_nil];omega)) ?_
   intro v w62 hb62
   repeat' first|refine .x ?_|refine .y ?_|refine .z ?_|fail
   refine hC (n - 1) _ _ (by omega) ⟨i+1,_,by omega,rfl,?_⟩
   rw[MX ha]
   simpa only[List.append_assoc] using hb62
 ·have hi':i=ar.length:=by have:=of_decide_eq_false hh;omega
  subst hi'
  rw[List.take_length]at hB
  have hal':=F9 hf
  refine Jn.by (fun _ w'=>Bw w w' w.heap.size (pre++nG ar++FY els)) (fun J hJ=>?_) ?_
  ·have h29:=(hB.k.same _ hlt trivial).trans h
   cases els with
   |none=>
    obtain rfl:e=_:=he
    repeat' first|refine .x ?_|refine .y ?_|refine .z ?_|fail
    refine hJ _ _ ?_
    rw[FY,List.append_nil];exact hB
   |some d=>
    obtain⟨c,tv,rfl,hc,htv⟩:=he
    have hc0:=hs _ _ _ hc
    have hc29:=(hB.k.same _ (lt_of_heap hc0) trivial).trans hc0
    have hfd:=hfe d rfl
    have hdl:=oO hfd
    obtain⟨ua,ub,rfl⟩:=htv.form
    repeat' first|refine .x ?_|refine .y ?_|refine .z ?_|fail
    refine Cl.ret (uy (d:=d) htv (hs.al hB.k) (hg.kp hB.k fun _ _=>trivial) hfd) ?_
    rintro _ w75 ⟨rfl,k75⟩
    repeat' first|refine .x ?_|refine .y ?_|refine .z ?_|fail
    refine Cl.ret (GZ (hB.kp k75) _ (by simp only[List.length_append,List.length_cons,List.length_nil];omega)) ?_
    intro v w79 hb79
    exact hJ _ _ hb79
  ·intro vals w80 jk hB80
   have hel:(FY els).length≤6000:=by
    cases els with
    |none=>simp[FY]
    |some d=>have:=oO (hfe d rfl);simp only[FY,List.length_append,List.length_cons,List.length_nil];omega
   refine Cl.ret (Nj hB80 (by simp only[List.length_append];omega)) ?_
   rintro _ w83 ⟨rfl,k83⟩
   repeat' first|refine .x ?_|refine .y ?_|refine .z ?_|fail
   refine hR _ _ ⟨?_,k83⟩
   rw[← hpre]
   simp[lV,κs]
end Go.W.T
namespace Go.W.T
open Go Go.W Go.M Go.Proofs
theorem Px{H:Hp}:∀{ar:List gq} {l:List Value} {k:Nat} {a:gq},fQ H ar l→ar[k]?=some a→∃u v,l.drop (k*4)=κs a.name::.int .u32 a.n::u::v::l.drop (k*4+4)∧gK H a.arg u∧gK H a.res v
 |[],_,_,_,_,h=>by cases h
 |a::r,n::s::t::z::l,0,d,h,hd=>by
  cases hd
  exact⟨t,z,by rw[h.1,h.2.1];rfl,h.2.2.1,h.2.2.2.1⟩
 |a::r,n::s::t::z::l,k+1,d,h,hd=>by
  obtain⟨u,v,h1,h2⟩:=Px (l:=l) (k:=k) h.2.2.2.2 hd
  refine⟨u,v,?_,h2⟩
  rw[show (k+1)*4=k*4+4 by omega]
  exact h1
 |a::r,[],_,_,h,_=>h.elim
 |a::r,[_],_,_,h,_=>h.elim
 |a::r,[_,_],_,_,h,_=>h.elim
 |a::r,[_,_,_],_,_,h,_=>h.elim
theorem Td{H:Hp}:∀{ar:List gI} {l:List Value} {k:Nat} {a:gI},jC H ar l→ar[k]?=some a→∃q,l.drop (k*3)=κs a.name::.int .u32 a.n::q::l.drop (k*3+3)∧∃pl,fQ H a.procs pl∧SlF H bC a.procs.length pl q
 |[],_,_,_,_,h=>by cases h
 |a::r,n::s::t::l,0,d,h,hd=>by
  cases hd
  exact⟨t,by rw[h.1,h.2.1];rfl,h.2.2.1⟩
 |a::r,n::s::t::l,k+1,d,h,hd=>by
  obtain⟨u,h1,h2⟩:=Td (l:=l) (k:=k) h.2.2.2 hd
  refine⟨u,?_,h2⟩
  rw[show (k+1)*3=k*3+3 by omega]
  exact h1
 |a::r,[],_,_,h,_=>h.elim
 |a::r,[_],_,_,h,_=>h.elim
 |a::r,[_,_],_,_,h,_=>h.elim
def Zp(t:Ty):Prop:=Fit t∧tsz t≤3
def FitQ(q:gq):Prop:=Zp q.arg∧Zp q.res∧q.name.length≤2000∧0≤q.n∧q.n≤4294967295
def Zo(v:gI):Prop:=(∀q∈v.procs,FitQ q)∧v.procs.length≤1000∧v.name.length≤2000∧0≤v.n∧v.n≤4294967295
theorem EP{t:Ty}(h:Zp t):(sW t).length≤2004:=by
 have:=kQ t 0 h.1
 have:=h.2
 unfold sW Go.Lib.trimSuffix
 split
 ·rw[List.length_take];omega
 ·omega
def Jz(q:gq):By:=sW q.res++[32]++q.name++[40]++sW q.arg++[41,32,61,32]++uY q.n++[59,32]
theorem VR{q:gq}(h:FitQ q):(Jz q).length≤6100:=by
 have h1:=EP h.1
 have h2:=EP h.2.1
 have h3:=h.2.2.1
 have h4:=jQ q.n (by have:=h.2.2.2;omega)
 simp only[Jz,List.length_append,List.length_cons,List.length_nil];omega
theorem CB:∀{l:List gq},(∀q∈l,FitQ q)→(iM l).length≤6100*l.length
 |[],_=>Nat.zero_le _
 |q::r,h=>by
  have h1:=VR (h q (List.mem_cons_self ..))
  have h2:=CB fun x hx=>h x (List.mem_cons_of_mem _ hx)
  have e:iM (q::r)=Jz q++iM r:=by simp only[iM,Jz,List.append_assoc]
  rw[e,List.length_append,List.length_cons];omega
theorem Jw:∀{l:List gq} {i:Nat} {q:gq},l[i]?=some q→iM (l.take (i+1))=iM (l.take i)++Jz q
 |[],_,_,h=>by cases h
 |a::r,0,d,h=>by cases h;simp[iM,Jz]
 |a::r,i+1,d,h=>by
  have:=Jw (l:=r) (i:=i) (q:=d) h
  rw[List.take_succ_cons,List.take_succ_cons,iM,iM,this];simp only[List.append_assoc]
def DV(v:gI):By:=[118,101,114,115,105,111,110,32]++v.name++[32,123,32]++iM v.procs++([125,32,61,32]++uY v.n++[59,32])
theorem Uz{v:gI}(h:Zo v):(DV v).length≤6200000:=by
 have h1:=CB h.1
 have h2:=h.2.1
 have h3:=h.2.2.1
 have h4:=jQ v.n (by have:=h.2.2.2;omega)
 simp only[DV,List.length_append,List.length_cons,List.length_nil];omega
theorem EI:∀{l:List gI},(∀v∈l,Zo v)→(kX l).length≤6200000*l.length
 |[],_=>Nat.zero_le _
 |q::r,h=>by
  have h1:=Uz (h q (List.mem_cons_self ..))
  have h2:=EI fun x hx=>h x (List.mem_cons_of_mem _ hx)
  have e:kX (q::r)=DV q++kX r:=by simp only[kX,DV,List.append_assoc]
  rw[e,List.length_append,List.length_cons];omega
theorem LZ:∀{l:List gI} {i:Nat} {q:gI},l[i]?=some q→kX (l.take (i+1))=kX (l.take i)++DV q
 |[],_,_,h=>by cases h
 |a::r,0,d,h=>by cases h;simp[kX,DV]
 |a::r,i+1,d,h=>by
  have:=LZ (l:=r) (i:=i) (q:=d) h
  rw[List.take_succ_cons,List.take_succ_cons,kX,kX,this];simp only[List.append_assoc]
theorem Ip{H:Hp}{w:World}{b:Nat}{name:By}{at_:Nat}{n:Int}{vs:List gI}{u:Value}{l:List Value}(h:w.heap[b]?=some (cl [κs name,i64 at_,.int .u32 n,u] bM))(hl:jC H vs l)(hu:SlF H az vs.length l u)
  (hs:Sub H w) (hg:Gl w) (hn:name.length≤2000) (hk:vs.length≤100) (hf:∀v∈vs,Zo v) (hnn:0≤n∧n≤4294967295):
  Calls P mX #[pt b 0] w (Ret fun r w'=>r=κs (lV ⟨name,at_,.prog n vs⟩)∧Kp [] w w'):=by
 refine Ret.R fun R hR=>?_
 apply xJ
 unfold mr
 have hlt:=lt_of_heap h
 obtain⟨sb,rest,cap,rfl,hsb⟩:=hu
 have hsl:=hs _ _ _ hsb
 repeat' first|refine .x ?_|refine .y ?_|refine .z ?_|fail
 refine Cl.ret (GZ (Bw.new w) _ (by simp only[List.length_append,List.length_cons,List.length_nil];omega)) ?_
 intro v w10 hb
 rw[List.nil_append]at hb
 generalize hpre:([112,114,111,103,114,97,109,32]++name++[32,123,32]:By)=pre at hb
 have ZB:pre.length≤2011:=by rw[← hpre];simp only[List.length_append,List.length_cons,List.length_nil];omega
 have h10:=(hb.k.same _ hlt trivial).trans h
 repeat' first|refine .x ?_|refine .y ?_|refine .z ?_|fail
 refine Lp.nat (fun m vals w'=>∃(i:Nat) (z:Value),m+i=vs.length∧vals=[i64 i,z]∧Bw w w' w.heap.size (pre++kX (vs.take i))) (n:=vs.length) ⟨0,_,by omega,rfl,by simpa [kX] using hb⟩ ?_
 rintro m _ w16 jk C ⟨i,z,hi,rfl,hB⟩ hC
 repeat' first|refine .x ?_|refine .y ?_|refine .z ?_|fail
 have htl:(vs.take i).length≤100:=by rw[List.length_take];omega
 have hal:=EI fun x hx=>hf x (List.mem_of_mem_take (i:=i) hx)
 refine .split (fun hh=>?_) (fun hh=>?_)
 ·have hi':i<vs.length:=by have:=of_decide_eq_true hh;omega
  obtain⟨a,ha⟩:∃a,vs[i]?=some a:=⟨_,List.getElem?_eq_getElem hi'⟩
  obtain⟨qv,hu1,pl,hpl,nb,VZ,PO,rfl,hnb⟩:=Td hl ha
  have KG:=(hB.k.same _ (lt_of_heap hsl) trivial).trans hsl
  have WR:=hs _ _ _ hnb
  have hfa:=hf a (List.mem_of_getElem? ha)
  have ll:=lt_of_heap KG
  repeat' first|refine .x ?_|refine .y ?_|refine .z ?_|fail
  have hlen:=congrArg List.length hu1
  simp only[List.length_drop,List.length_cons]at hlen
  have hl0:((l++rest).drop (0+i*3)).take 3=[κs a.name,.int .u32 a.n,.slice (some ⟨nb,0,none⟩) a.procs.length PO]:=by
   rw[Nat.zero_add,List.drop_append_of_le_length (by omega),hu1];rfl
  refine LdN.s (l':=[κs a.name,.int .u32 a.n,.slice (some ⟨nb,0,none⟩) a.procs.length PO]) ?_ KG (by rw[List.length_append];omega) hl0
  have hnl:=hfa.2.2.1
  have hnn2:=hfa.2.2.2
  repeat' first|refine .x ?_|refine .y ?_|refine .z ?_|fail
  refine Cl.w (fun w25=>Kp [] w16 w25∧w16.heap.size<w25.heap.size∧w25.heap[w16.heap.size]?=some (cl [κs a.name,.int .u32 a.n,.slice (some ⟨nb,0,none⟩) a.procs.length PO] 200)) ⟨by exact kpA,by simp only[ah,size_alloc];omega,by exact lookA⟩ ?_
  rintro w25 ⟨k25,s25,n25⟩
  refine Cl.ret (Q4 (hB.guard k25 s25) _ (by simp only[List.length_append,List.length_cons,List.length_nil];omega)) ?_
  rintro v w31 ⟨hB31,e31⟩
  have n31:=e31.trans n25
  generalize hhead:pre++kX (vs.take i)++([118,101,114,115,105,111,110,32]++a.name++[32,123,32])=head at hB31
  have hheadl:head.length≤700000000:=by rw[← hhead];simp only[List.length_append,List.length_cons,List.length_nil];omega
  have hal2:=hfa.2.1
  repeat' first|refine .x ?_|refine .y ?_|refine .z ?_|fail
  refine Lp.nat (fun q vals w'=>∃(j:Nat),q+j=a.procs.length∧vals=[i64 j]∧Bg w16.heap.size w w' w.heap.size (head++iM (a.procs.take j))∧w'.heap[w16.heap.size]?=some (cl [κs a.name,.int .u32 a.n,.slice (some ⟨nb,0,none⟩) a.procs.length PO] 200)) (n:=a.procs.length)
   ⟨0,by omega,rfl,by rw[List.take_zero,iM,List.append_nil];exact hB31,n31⟩ ?_
  rintro qq _ w36 jk2 C2 ⟨j,hj,rfl,hB2,n36⟩ hC2
  repeat' first|refine .x ?_|refine .y ?_|refine .z ?_|fail
  have hcl2:=CB fun x hx=>hfa.1 x (List.mem_of_mem_take (i:=j) hx)
  have htl2:(a.procs.take j).length≤1000:=by rw[List.length_take];omega
  refine .split (fun hh=>?_) (fun hh=>?_)
  ·have hj':j<a.procs.length:=by have:=of_decide_eq_true hh;omega
   obtain⟨q,hq⟩:∃q,a.procs[j]?=some q:=⟨_,List.getElem?_eq_getElem hj'⟩
   obtain⟨u1,u2,hp1,hp2,hp3⟩:=Px hpl hq
   obtain⟨x1,y1,rfl⟩:=hp2.form
   obtain⟨x2,y2,rfl⟩:=hp3.form
   have nb36:=(hB2.bw.k.same _ (lt_of_heap WR) trivial).trans WR
   have hfq:=hfa.1 q (List.mem_of_getElem? hq)
   have hlen2:=congrArg List.length hp1
   simp only[List.length_drop,List.length_cons]at hlen2
   have hl2:((pl++VZ).drop (0+j*4)).take 4=[κs q.name,.int .u32 q.n,.iface x1 y1,.iface x2 y2]:=by
    rw[Nat.zero_add,List.drop_append_of_le_length (by omega),hp1];rfl
   have ll2:=lt_of_heap nb36
   repeat' first|refine .x ?_|refine .y ?_|refine .z ?_|fail
   refine LdN.s (l':=[κs q.name,.int .u32 q.n,.iface x1 y1,.iface x2 y2]) ?_ nb36 (by rw[List.length_append];omega) hl2
   have hq1:=EP hfq.1
   have hq2:=EP hfq.2.1
   have hq3:=hfq.2.2.1
   have hq4:=hfq.2.2.2
   have hq5:=jQ q.n (by omega)
   repeat' first|refine .x ?_|refine .y ?_|refine .z ?_|fail
   have hw:IntKind.i64.wrap q.n=q.n:=yl (by omega) (by omega)
   rw[hw]
   refine Cl.w (fun w44=>Kp [] w36 w44∧w44.heap[w36.heap.size]?=some (cl [κs q.name,.int .u32 q.n,.iface x1 y1,.iface x2 y2] 205)) ⟨by exact kpA,by exact lookA⟩ ?_
   rintro w44 ⟨k44,n44⟩
   have l44:=lt_of_heap n44
   have hB44:=hB2.kp k44
   refine Cl.ret (SS hp3 (hs.al hB44.bw.k) hfq.2.1.1 hfq.2.1.2) ?_
   rintro _ w55 ⟨rfl,k55⟩
   have n55:=(k55.same _ l44 trivial).trans n44
   have hB55:=hB44.kp k55
   have l55:=lt_of_heap n55
   refine⟨?_,?_,?_,?_,?_⟩
   ·repeat' first|refine .x ?_|refine .y ?_|refine .z ?_|fail
    rfl
   ·repeat' first|refine .x ?_|refine .y ?_|refine .z ?_|fail
    rfl
   ·repeat' first|refine .x ?_|refine .y ?_|refine .z ?_|fail
    rfl
   ·repeat' first|refine .x ?_|refine .y ?_|refine .z ?_|fail
    try rw[hw]
   repeat' first|refine .x ?_|refine .y ?_|refine .z ?_|fail
   refine Cl.ret (SS hp2 (hs.al hB55.bw.k) hfq.1.1 hfq.1.2) ?_
   rintro _ w64 ⟨rfl,k64⟩
   have n64:=(k64.same _ l55 trivial).trans n55
   have hB64:=hB55.kp k64
   have l64:=lt_of_heap n64
   refine⟨?_,?_,?_,?_⟩
   ·repeat' first|refine .x ?_|refine .y ?_|refine .z ?_|fail
    rfl
   ·repeat' first|refine .x ?_|refine .y ?_|refine .z ?_|fail
    rfl
   ·repeat' first|refine .x ?_|refine .y ?_|refine .z ?_|fail
    try rw[hw]
   repeat' first|refine .x ?_|refine .y ?_|refine .z ?_|fail
   refine Cl.ret (Gm (hg.kp hB64.bw.k fun _ _=>trivial) (n:=q.n) (by omega)) ?_
   rintro _ w71 ⟨rfl,k71⟩
   have n71:=(k71.same _ l64 trivial).trans n64
   have hB71:=hB64.kp k71
   have l71:=lt_of_heap n71
   refine⟨?_,?_⟩
   ·repeat' first|refine .x ?_|refine .y ?_|refine .z ?_|fail
    rfl
   repeat' first|refine .x ?_|refine .y ?_|refine .z ?_|fail
   refine Cl.ret (Q4 hB71 _ (by simp only[List.length_append,List.length_cons,List.length_nil];omega)) ?_
   rintro v w76 ⟨hb76,e76⟩
   repeat' first|refine .x ?_|refine .y ?_|refine .z ?_|fail
   refine hC2 (qq - 1) _ _ (by omega) ⟨j+1,by omega,rfl,?_,?_⟩
   ·rw[Jw hq,← List.append_assoc]
    simpa only[Jz,List.append_assoc] using hb76
   ·rw[e76];exact((k44.tt k55).tt (k64.tt k71)).same _ (lt_of_heap n36) trivial|>.trans n36
  ·have hj':j=a.procs.length:=by have:=of_decide_eq_false hh;omega
   subst hj'
   rw[List.take_length]at hB2
   have hnl5:=jQ a.n (by omega)
   have hpl6:=CB hfa.1
   have hw:IntKind.i64.wrap a.n=a.n:=yl (by omega) (by omega)
   have l36:=lt_of_heap n36
   repeat' first|refine .x ?_|refine .y ?_|refine .z ?_|fail
   rw[hw]
   refine Cl.ret (Gm (hg.kp hB2.bw.k fun _ _=>trivial) (n:=a.n) (by omega)) ?_
   rintro _ w82 ⟨rfl,k82⟩
   repeat' first|refine .x ?_|refine .y ?_|refine .z ?_|fail
   refine Cl.ret (GZ (hB2.bw.kp k82) _ (by simp only[List.length_append,List.length_cons,List.length_nil];omega)) ?_
   intro v w86 hb86
   repeat' first|refine .x ?_|refine .y ?_|refine .z ?_|fail
   refine hC (m - 1) _ _ (by omega) ⟨i+1,_,by omega,rfl,?_⟩
   rw[LZ ha]
   rw[← hhead]at hb86
   simpa only[DV,List.append_assoc] using hb86
 ·have hi':i=vs.length:=by have:=of_decide_eq_false hh;omega
  subst hi'
  rw[List.take_length]at hB
  have hal':=EI hf
  have h16:=(hB.k.same _ hlt trivial).trans h
  have kd:Kp [] w16 w16.drew:=by exact kpA
  repeat' first|refine .x ?_|refine .y ?_|refine .z ?_|fail
  have hw:IntKind.i64.wrap n=n:=yl (by omega) (by omega)
  have hnl:=jQ n (by omega)
  rw[hw]
  refine Cl.ret (Nj (hB.kp kd) (by simp only[List.length_append];omega)) ?_
  rintro _ w93 ⟨rfl,k93⟩
  have h93:=(k93.same _ hlt trivial).trans h
  refine⟨?_,?_,?_⟩
  ·repeat' first|refine .x ?_|refine .y ?_|refine .z ?_|fail
   rfl
  ·repeat' first|refine .x ?_|refine .y ?_|refine .z ?_|fail
   try rw[hw]
  repeat' first|refine .x ?_|refine .y ?_|refine .z ?_|fail
  refine Cl.ret (Gm (hg.kp k93 fun _ _=>trivial) (n:=n) (by omega)) ?_
  rintro _ w98 ⟨rfl,k98⟩
  repeat' first|refine .x ?_|refine .y ?_|refine .z ?_|fail
  refine hR _ _ ⟨?_,k93.tt k98⟩
  rw[← hpre]
  simp[lV,κs]
end Go.W.T
namespace Go.W.T
open Go Go.W Go.M Go.Proofs
theorem PZ(x:Value)(w:World):(callMethod (.iface xu x) "String" #[]).run P w=.ok (.enter 369 #[x]) w:=by kernel_rfl
theorem P5(x:Value)(w:World):(callMethod (.iface xw x) "String" #[]).run P w=.ok (.enter 347 #[x]) w:=by kernel_rfl
theorem RU(x:Value)(w:World):(callMethod (.iface sO x) "String" #[]).run P w=.ok (.enter 349 #[x]) w:=by kernel_rfl
theorem Oe(x:Value)(w:World):(callMethod (.iface nS x) "String" #[]).run P w=.ok (.enter 351 #[x]) w:=by kernel_rfl
theorem PY(x:Value)(w:World):(callMethod (.iface qw x) "String" #[]).run P w=.ok (.enter 352 #[x]) w:=by kernel_rfl
theorem RS(x:Value)(w:World):(callMethod (.iface lQ x) "String" #[]).run P w=.ok (.enter 304 #[x]) w:=by kernel_rfl
def SK(d:Def):Prop:=d.name.length≤2000∧match d.k with
 |.const n => -9223372036854775808≤n∧n≤9223372036854775807
 |.alias t=>IE ⟨d.name,t⟩
 |.enum ns is=>ns.length≤1000∧ns.length=is.length∧0<ns.length∧(∀s∈ns,s.length≤2000)∧(∀n∈is,-9223372036854775808≤n∧n≤9223372036854775807)
 |.struct ds=>(∀d∈ds,IE d)∧ds.length≤1000
 |.union of nm ar els=>nm.length≤2000∧ar.length≤1000∧Fit of∧tsz of≤3∧(∀a∈ar,FitA a)∧(∀d,els=some d→IE d)
 |.prog n vs=>vs.length≤5∧(∀v∈vs,Zo v)∧0≤n∧n≤4294967295
theorem Xl{H:Hp}{d:Def}{v:Value}{w:World}{E:KE}{K:KV}(hd:iw H d v)(hs:Sub H w)(hg:Gl w)(hf:SK d)(hK:∀w',Kp [] w w'→K (κs (lV d)) w'):fH P v "String" #[] w E K:=by
 obtain⟨nm,at_,k⟩:=d
 obtain⟨hn,hf⟩:=hf
 cases k with
 |const n=>
  obtain⟨b,rfl,hb⟩:=hd
  refine fH.enter (PZ _ _) (Cl.ret (Lj (hs _ _ _ hb) hg hf hn) ?_)
  rintro _ w' ⟨rfl,k⟩;exact hK w' k
 |alias t=>
  obtain⟨b,u,rfl,hb,hu⟩:=hd
  refine fH.enter (P5 _ _) (Cl.ret (Ll (hs _ _ _ hb) hu hs hg hf) ?_)
  rintro _ w' ⟨rfl,k⟩;exact hK w' k
 |enum ns is=>
  obtain⟨b,u,x,rfl,hb,hu,hx⟩:=hd
  obtain⟨f1,f2,f3,f4,f5⟩:=hf
  refine fH.enter (RU _ _) (Cl.ret (Nv (hs _ _ _ hb) hu hx hs hg hn f1 f2 f3 f4 f5) ?_)
  rintro _ w' ⟨rfl,k⟩;exact hK w' k
 |struct ds=>
  obtain⟨b,u,l,rfl,hb,hl,hu⟩:=hd
  refine fH.enter (Oe _ _) (Cl.ret (I9 (hs _ _ _ hb) hl hu hs hg hf.1 hn hf.2) ?_)
  rintro _ w' ⟨rfl,k⟩;exact hK w' k
 |union of m ar els=>
  obtain⟨b,o,u,l,e,rfl,hb,ho,hl,hu,he⟩:=hd
  obtain⟨f1,f2,f3,f4,f5,f6⟩:=hf
  refine fH.enter (PY _ _) (Cl.ret (Lh (hs _ _ _ hb) ho hl hu he hs hg hn f1 f2 f3 f4 f5 f6) ?_)
  rintro _ w' ⟨rfl,k⟩;exact hK w' k
 |prog n vs=>
  obtain⟨b,u,l,rfl,hb,hl,hu⟩:=hd
  refine fH.enter (RS _ _) (Cl.ret (Ip (hs _ _ _ hb) hl hu hs hg hn (Nat.le_trans hf.1 (by decide)) hf.2.1 hf.2.2) ?_)
  rintro _ w' ⟨rfl,k⟩;exact hK w' k
theorem TU{H:Hp}:∀{ds:List Def} {l:List Value} {k:Nat} {d:Def},jM H ds l→ds[k]?=some d→∃v,l[k]?=some v∧iw H d v
 |[],_,_,_,_,h=>by cases h
 |a::r,v::l,0,d,h,hd=>by cases hd;exact⟨v,rfl,h.1⟩
 |a::r,v::l,k+1,d,h,hd=>TU (l:=l) (k:=k) h.2 hd
 |a::r,[],_,_,h,_=>h.elim
theorem JB:∀{l:List Def} {i:Nat} {d:Def},l[i]?=some d→fK (l.take (i+1))=fK (l.take i)++(lV d++[10])
 |[],_,_,h=>by cases h
 |a::r,0,d,h=>by cases h;simp[fK]
 |a::r,i+1,d,h=>by
  have:=JB (l:=r) (i:=i) (d:=d) h
  rw[List.take_succ_cons,List.take_succ_cons,fK,fK,this];simp only[List.append_assoc]
theorem TW{d:Def}(h:SK d):(lV d).length≤50000000:=by
 obtain⟨nm,at_,k⟩:=d
 obtain⟨hn,hf⟩:=h
 have hn:nm.length≤2000:=hn
 cases k with
 |const n=>have:=jQ n hf;simp only[lV,List.length_append,List.length_cons,List.length_nil];omega
 |alias t=>have:=oO (d:=⟨nm,t⟩) hf;simp only[lV,List.length_append,List.length_cons,List.length_nil];omega
 |enum ns is=>
  obtain⟨f1,f2,f3,f4,f5⟩:=hf
  have hj:=KD [44,32] 2030 (bW ns is) (yT f4 f5)
  rw[BG f2]at hj
  have:ns.length*(2030+2)≤1000*(2030+2):=Nat.mul_le_mul_right _ f1
  have hj:(Go.Lib.join (bW ns is) [44,32]).length≤ns.length*(2030+2):=hj
  simp only[lV,List.length_append,List.length_cons,List.length_nil];omega
 |struct ds=>have:=CE hf.1;have:=hf.2;simp only[lV,List.length_append,List.length_cons,List.length_nil];omega
 |union of m ar els=>
  obtain⟨f1,f2,f3,f4,f5,f6⟩:=hf
  have h1:=F9 f5
  have h2:=kQ of 0 f3
  have hel:(FY els).length≤6000:=by
   cases els with
   |none=>simp[FY]
   |some d=>have:=oO (f6 d rfl);simp only[FY,List.length_append,List.length_cons,List.length_nil];omega
  simp only[lV,List.length_append,List.length_cons,List.length_nil];omega
 |prog n vs=>
  have h1:=EI hf.2.1
  have h2:=hf.1
  have h3:=jQ n (by have:=hf.2.2;omega)
  simp only[lV,List.length_append,List.length_cons,List.length_nil];omega
theorem Gs:∀{l:List Def},(∀d∈l,SK d)→(fK l).length≤50000001*l.length
 |[],_=>Nat.zero_le _
 |d::r,h=>by
  have h1:=TW (h d (List.mem_cons_self ..))
  have h2:=Gs fun x hx=>h x (List.mem_cons_of_mem _ hx)
  simp only[fK,List.length_append,List.length_cons,List.length_nil];omega
theorem XQ{n0:Nat}{w:World}{ds:List Def}{v:Value}(h:Ez n0 w ds v)(hg:Gl w)(hf:∀d∈ds,SK d)(hk:ds.length≤69):Calls P Bh #[v] w (Ret fun r w'=>r=κs (fK ds)∧Kp [] w w'):=by
 obtain⟨H,l,o,hs,_,hds,hgw,_⟩:=h
 refine Ret.R fun R hR=>?_
 apply JK
 unfold Ad
 obtain⟨a,c,rfl⟩:=hgw.len
 refine .s ?_
 have hB0:=Bw.new w
 generalize w.alloc (cl [.pointer none,.slice none 0 0] 139)=w1 at *
 repeat' first|refine .x ?_|refine .y ?_|refine .z ?_|fail
 refine Lp.nat (fun m vals w'=>∃(i:Nat),m+i=ds.length∧vals=[i64 i]∧Bw w w' w.heap.size (fK (ds.take i))) (n:=ds.length) ⟨0,by omega,rfl,hB0⟩ ?_
 rintro m _ w5 jk C ⟨i,hi,rfl,hB⟩ hC
 repeat' first|refine .x ?_|refine .y ?_|refine .z ?_|fail
 have htl:(ds.take i).length≤69:=by rw[List.length_take];omega
 have hal:=Gs fun x hx=>hf x (List.mem_of_mem_take (i:=i) hx)
 refine .split (fun hh=>?_) (fun hh=>?_)
 ·have hi':i<ds.length:=by have:=of_decide_eq_true hh;omega
  obtain⟨d,hd⟩:∃d,ds[i]?=some d:=⟨_,List.getElem?_eq_getElem hi'⟩
  obtain⟨x,hx1,hx2⟩:=TU hds hd
  have hfd:=hf d (List.mem_of_getElem? hd)
  have hdl:=TW hfd
  obtain⟨q1,q2⟩:=hgw
  cases o with
  |none=>exact absurd q2.2 (by omega)
  |some bb=>
   obtain⟨rest,cap,e1,q3,q4⟩:=q2
   cases e1
   have q5:=(hB.k.same _ (lt_of_heap q3) trivial).trans q3
   have a1:(l++rest)[0+i*1]?=some x:=by
    rw[Nat.zero_add,Nat.mul_one,List.getElem?_append_left (by omega),hx1]
   repeat' first|refine .x ?_|refine .y ?_|refine .z ?_|fail
   refine Xl hx2 (hs.al hB.k) (hg.kp hB.k fun _ _=>trivial) hfd fun w12 k12=>?_
   repeat' first|refine .x ?_|refine .y ?_|refine .z ?_|fail
   refine Cl.ret (GZ (hB.kp k12) _ (by simp only[List.length_append,List.length_cons,List.length_nil];omega)) ?_
   intro v w15 hb15
   repeat' first|refine .x ?_|refine .y ?_|refine .z ?_|fail
   refine hC (m - 1) _ _ (by omega) ⟨i+1,by omega,rfl,?_⟩
   rw[JB hd];exact hb15
 ·have hi':i=ds.length:=by have:=of_decide_eq_false hh;omega
  subst hi'
  rw[List.take_length]at hB hal
  refine Cl.ret (Nj hB (by omega)) ?_
  rintro _ w18 ⟨rfl,k18⟩
  repeat' first|refine .x ?_|refine .y ?_|refine .z ?_|fail
  exact hR _ _ ⟨rfl,k18⟩
end Go.W.T
namespace Go.W.T
open Go Go.W Go.M Go.Proofs
theorem Ez.old{n:Nat}{w1 w:World}{ds:List Def}{v:Value}(h:Ez n w1 ds v)(k:DR n w1 w):Ez n w ds v:=by
 obtain⟨H,l,o,hs,hH,hds,hgw,ho⟩:=h
 have mv:∀{b x},n≤b→w1.heap[b]?=some x→w.heap[b]?=some x:=fun hb hx=>(k.2 _ hb (lt_of_heap hx)).trans hx
 refine⟨H,l,o,fun b x t hb=>mv (hH _ _ hb) (hs b x t hb),hH,hds,?_,ho⟩
 obtain⟨h1,h2⟩:=hgw
 refine⟨h1,?_⟩
 cases o with
 |none=>exact h2
 |some b=>
  obtain⟨rest,cap,h3,h4,h5⟩:=h2
  exact⟨rest,cap,h3,mv (ho b rfl) h4,h5⟩
theorem OV{w:World}{ds:List Def}{c:CS}{v:Value}(h:Xx w ds c v)(hg:Gl w)(hf:∀d∈ds,SK d)(hk:ds.length≤69):Calls P rZ #[v] w (Ret fun r w'=>r=κs (fK ds)∧Kp [] w w'):=by
 obtain⟨sb,dv,n,w1,w2,B,H,ρ,T,rfl,h2,h3,h4,h5,h6,h7⟩:=h
 refine Ret.R fun R hR=>?_
 apply Bc
 unfold rD
 repeat' first|refine .x ?_|refine .y ?_|refine .z ?_|fail
 refine Cl.ret (XQ (h3.old h4) hg hf hk) ?_
 rintro _ w5 ⟨rfl,k5⟩
 exact hR _ _ ⟨rfl,k5⟩
end Go.W.T
namespace Go.W.T
open Go Go.W Go.M Go.Proofs
theorem Ej{t:Ty}(h:NB t):Fit t∧tsz t≤3:=by
 cases t with
 |basic s=>
  simp only[NB,List.mem_cons,List.not_mem_nil,or_false]at h
  rcases h with rfl|rfl|rfl|rfl|rfl<;>exact⟨by simp[Fit],by simp[tsz]⟩
 |named s a=>
  have h:dV s:=h
  exact⟨Nat.le_trans h.2.2.1 (by decide),by simp[tsz]⟩
 |_=>exact h.elim
theorem N8{t:Ty}(h:NT t)(ho:okT t=true):Fit t∧tsz t≤3:=by
 cases t with
 |basic s=>exact Ej h
 |named s a=>exact Ej h
 |bytes x f n=>have:=JG (show okN f n=true from ho);exact⟨⟨this.1,this.2.1⟩,by simp[tsz]⟩
 |array u f n=>
  have ho:(FU u&&okN f n)=true:=ho
  rw[Bool.and_eq_true]at ho
  have:=JG ho.2
  have hu:=Ej (t:=u) h
  have h1:tsz u=1:=by cases u<;>first|rfl|exact absurd ho.1 (by simp[FU])
  exact⟨⟨hu.1,this.1,this.2.1⟩,by simp[tsz,h1]⟩
 |opt u=>
  have hu:=Ej (t:=u) h
  have h1:tsz u=1:=by
   have ho:FU u=true:=ho
   cases u<;>first|rfl|exact absurd ho (by simp[FU])
  exact⟨hu.1,by simp[tsz,h1]⟩
 |void=>exact h.elim
theorem Wh{d:Decl}(h:ND d)(ho:okT d.ty=true):IE d:=⟨(N8 h.2 ho).1,(N8 h.2 ho).2,Nat.le_trans h.1.2.2.1 (by decide)⟩
theorem Wi{d:Decl}(h:NA d)(ho:okT d.ty=true):IE d:=by
 rcases h with h|rfl
 ·exact Wh h ho
 ·exact⟨trivial,by simp[tsz],by simp⟩
theorem VY{t:Ty}(h:NS t):Zp t:=by
 rcases h with h|rfl
 ·exact Ej h
 ·exact⟨trivial,by simp[tsz]⟩
theorem pk_fit{d:Def}(h:PK d):SK d:=by
 obtain⟨nm,at_,k⟩:=d
 obtain⟨hn0,hk,E,he⟩:=h
 have hn:nm.length≤2000:=Nat.le_trans hn0.2.2.1 (by decide)
 refine⟨hn,?_⟩
 cases k with
 |const n=>
  have hk : -2147483648≤n∧n≤4294967295:=hk
  show -9223372036854775808≤n∧n≤9223372036854775807
  omega
 |alias t=>
  have he:iC t:=he
  exact⟨(N8 hk he.1).1,(N8 hk he.1).2,hn⟩
 |enum ns is=>
  obtain⟨k1,k2,k3⟩:=hk
  have hl:is.length≤12:=he.2
  exact⟨by omega,k2,k3,fun s hs=>Nat.le_trans (k1 s hs).2.2.1 (by decide),fun n hi=>by
   have:=MO he.1 n hi
   unfold least top at this;omega⟩
 |struct ds=>
  have hk:∀d∈ds,ND d:=hk
  have he1:∀d∈ds,iC d.ty:=he.1
  have he2:ds.length≤12:=he.2.2
  exact⟨fun d hd=>Wh (hk d hd) (he1 d hd).1,by omega⟩
 |union of m ar els=>
  obtain⟨k1,k2,k3,k4⟩:=hk
  obtain⟨e1,e2,e3,e4⟩:=he
  have ho:NB of:=by
   cases of with
   |basic s=>simp only[NO,NB,List.mem_cons,List.not_mem_nil,or_false]at k1 ⊢;rcases k1 with rfl|rfl|rfl<;>simp
   |named s a=>exact k1
   |_=>exact k1.elim
  refine⟨Nat.le_trans k2.2.2.1 (by decide),by omega,(Ej ho).1,(Ej ho).2,fun a ha=>⟨Wi (k3 a ha).1 (e2 a ha).1.1,?_,fun n hi=>?_⟩,fun d hd=>Wi (k4 d hd) (e4 d hd).1⟩
  ·have:=(e2 a ha).2;omega
  ·have:=(k3 a ha).2 n hi
   unfold least top at this;omega
 |prog n vs=>
  have hk:∀v∈vs,NV v:=hk
  obtain⟨e1,e2,e3⟩:=he
  have hi:0≤n∧n≤4294967295:=by simpa [inRange] using e1
  refine⟨by omega,fun v hv=>?_,hi⟩
  obtain⟨o1,o2,o3⟩:=e2 v hv
  obtain⟨n1,n2,n3⟩:=hk v hv
  have ho:0≤v.n∧v.n≤4294967295:=by simpa [inRange] using o3
  refine⟨fun q hq=>?_,by omega,Nat.le_trans n1.2.2.1 (by decide),ho⟩
  obtain⟨q1,q2,q3⟩:=n2 q hq
  have hq':0≤q.n∧q.n≤4294967295:=by simpa [inRange] using (o1 q hq).2.2
  exact⟨VY q2,VY q3,Nat.le_trans q1.2.2.1 (by decide),hq'⟩
theorem MB{txt:By}{ds:List Def}(h:parse txt=.ok ds):(∀d∈ds,SK d)∧ds.length≤69:=⟨fun d hd=>pk_fit ((JF h).1 d hd),(JF h).2⟩
theorem ErrAt.not_nil{w:World}{e a:Nat}{v:Value}(h:ErrAt w e a v):∃b,v=.iface 63 (pt b 0):=by
 obtain⟨b,rfl,_⟩:=h
 exact⟨_,rfl⟩
theorem XU{w:World}(hg:Gl w)(t:By):Calls P uo #[κs t] w (Law w):=by
 refine Law.R fun R hR=>?_
 apply Dj
 unfold tX
 repeat' first|refine .x ?_|refine .y ?_|refine .z ?_|fail
 refine .split (fun h=>?_) (fun h=>?_)
 ·exact hR _ _ rfl (Kp.refl _ _)
 have hlen:¬ (t.length:Int)>4000:=of_decide_eq_false h
 refine Cl.ret (Vu hg (fun ds h=>(Eg h).fine) (by omega)) ?_
 rintro v w4 ⟨k4,hg4,hr⟩
 unfold OA at hr
 have bad:∀{e a:Nat},(∃ev,v=.tuple #[.pointer none,ev]∧ErrAt w4 e a ev)→Ex v 0 fun x5=>Ex v 1 fun x6=>En .ifc true x6 fun x7=>If x7 (En .ptr false x5 fun x8=>R (.returned x8) w4) (En .ptr false x5 fun x9=>If x9 (R (.returned (.bool false)) w4) (Cl P 15 #[x5] w4 (pE R) fun x10 w11=>Ln true x10 fun x12=>Bi .gtr x12 (.int .i64 1200) fun x13=>If x13 (R (.returned (.bool true)) w11) (Cl P 14 #[x10] w11 (pE R) fun x14 w15=>Ex x14 0 fun x16=>Ex x14 1 fun x17=>En .ifc true x17 fun x18=>Gd x18 false w15 (fun K19=>K19 x16 w15) fun x20 w21=>Gd x18 false w21 (fun K22=>En .ptr false x20 fun x23=>K22 x23 w21) fun x24 w25=>Pk x18 (.bool true) x24 fun x26=>If x26 (R (.returned (.bool false)) w25) (Cl P 15 #[x16] w25 (pE R) fun x27 w28=>Bs .eql x10 x27 fun x29=>R (.returned x29) w28)))):=by
  rintro e a ⟨ev,rfl,he⟩
  obtain⟨b,rfl⟩:=he.not_nil
  repeat' first|refine .x ?_|refine .y ?_|refine .z ?_|fail
  exact hR _ _ rfl k4
 split at hr
 ·exact bad hr
 rename_i hl
 cases hp:parse t with
 |no e a=>rw[hp]at hr;exact bad hr
 |ok ds=>
  rw[hp]at hr
  simp only at hr
  cases hc:compile ds with
  |no e a=>rw[hc]at hr;exact bad hr
  |ok c=>
   rw[hc]at hr
   simp only at hr
   obtain⟨sv,names,rfl,hperm,hsp⟩:=hr
   have hfit:=MB hp
   obtain⟨sb,hsv⟩:∃b,sv=pt b 0:=by obtain⟨sb,dv,n,w1,w2,B,H,ρ,T,rfl,_⟩:=hsp;exact⟨_,rfl⟩
   subst hsv
   repeat' first|refine .x ?_|refine .y ?_|refine .z ?_|fail
   refine Cl.ret (OV hsp hg4 hfit.1 hfit.2) ?_
   rintro v w11 ⟨rfl,k11⟩
   have hpl:=Gs hfit.1
   have hpl':(fK ds).length≤50000001*69:=Nat.le_trans hpl (Nat.mul_le_mul_left _ hfit.2)
   repeat' first|refine .x ?_|refine .y ?_|refine .z ?_|fail
   refine .split (fun h=>?_) (fun h=>?_)
   ·exact hR _ _ rfl (k4.tt k11)
   have hlen2:¬ ((fK ds).length:Int)>1200:=of_decide_eq_false h
   obtain⟨ds',c',hp',hc',hpp⟩:=QP hp hc
   refine Cl.ret (Vu (hg4.kp0 k11) (fun ds h=>(Eg h).fine) (by omega)) ?_
   rintro v w15 ⟨k15,UX,hr⟩
   unfold OA at hr
   rw[if_neg (by omega),hp']at hr
   simp only[hc']at hr
   obtain⟨sv',names',rfl,hperm',hsp'⟩:=hr
   have ZE:=MB hp'
   obtain⟨sb',hsv⟩:∃b,sv'=pt b 0:=by obtain⟨sb,dv,n,w1,w2,B,H,ρ,T,rfl,_⟩:=hsp';exact⟨_,rfl⟩
   subst hsv
   repeat' first|refine .x ?_|refine .y ?_|refine .z ?_|fail
   refine Cl.ret (OV hsp' UX ZE.1 ZE.2) ?_
   rintro v w28 ⟨rfl,k28⟩
   repeat' first|refine .x ?_|refine .y ?_|refine .z ?_|fail
   refine hR _ _ ?_ (((k4.tt k11).tt k15).tt k28)
   rw[hpp]
   simp
end Go.W.T
