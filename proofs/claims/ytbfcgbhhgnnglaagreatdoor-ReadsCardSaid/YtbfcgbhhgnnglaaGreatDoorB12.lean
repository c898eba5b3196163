/- Texts of mine, one behind the other; nothing is assumed. -/
import Derived.Test.YtbfcgbhhgnnglaaGreatDoorB08
import Derived.Test.YtbfcgbhhgnnglaaGreatDoorB00
import Derived.Test.YtbfcgbhhgnnglaaGreatDoorB10
import Derived.Test.YtbfcgbhhgnnglaaGreatDoorB11
set_option autoImplicit true
set_option relaxedAutoImplicit true
set_option linter.unusedSimpArgs false
set_option linter.unusedVariables false
set_option maxRecDepth 100000
namespace Go.W.T
open Go Go.W Go.M Go.Proofs
abbrev Hp:=Nat->Option (List Value×TypeId)
def Sub(H:Hp)(w:World):Prop:=∀b l t,H b=some (l,t)->w.heap[b]?=some (cl l t)
def Hle(H H':Hp):Prop:=∀b x,H b=some x->H' b=some x
theorem Hle.refl(H:Hp):Hle H H:=λ_ _ h=>h
theorem Hle.trans(h:Hle a b)(k:Hle b c):Hle a c:=λi x hx=>k i x (h i x hx)
theorem Sub.kp(h:Sub H w)(k:Kp X w w')(hx:∀b x,H b=some x->Out X b):Sub H w':=
 λb l t hb=>(k.same b (lt_of_heap (h b l t hb)) (hx b _ hb)).trans (h b l t hb)
def Flt(e at_:Nat)(ch:List PanicEntry)(w:World):Prop:=
 ∃b,ch=[{ v:=.iface Aj (pt b 0),recovered:=false }]/\w.heap[b]?=some (cl [i64 e,i64 at_] yA)
theorem Yi(w:World)(e at_:Nat):Calls P 68 #[i64 e,i64 at_] w λen w'=>∃ch,en=.panicked ch/\Flt e at_ ch w'/\Kp [] w w':=by
 have hR:∀ch w',Flt e at_ ch w'->Kp [] w w'->(λen w'=>∃ch,en=.panicked ch/\Flt e at_ ch w'/\Kp [] w w':Ending->World->Prop) (.panicked ch) w':=λch w' h1 h2=>⟨ch,rfl,h1,h2⟩;generalize (λen w'=>∃ch,en=.panicked ch/\Flt e at_ ch w'/\Kp [] w w':Ending->World->Prop)=R at *;refine cf [] Tryz.func68 ?_
 repeat refine .s ?_
 exact hR _ _ ⟨_,rfl,bH ..⟩ ((Kp.refl _ _).alloc _)
def wdv(x:Wd):Value:=.agg #[i64 x.kind,.string (bs x.s),i64 x.at_,i64 x.n]
theorem yc(w:World)(x:Wd)(s:By):Calls P 100 #[wdv x,.string (bs s)] w λen w'=>en=.returned (.bool (x.is s))/\Kp [] w w':=by
 have hR:∀b w',b=x.is s->Kp [] w w'->(λen w'=>en=.returned (.bool (x.is s))/\Kp [] w w':Ending->World->Prop) (.returned (.bool b)) w':=λb w' h1 h2=>⟨by rw[h1],h2⟩;generalize (λen w'=>en=.returned (.bool (x.is s))/\Kp [] w w':Ending->World->Prop)=R at *;refine cf [] Tryz.func100 ?_;unfold wdv
 repeat' (first|refine .a ?_|refine .d ?_|refine .s ?_|refine .t ?_|refine .f ?_|((first|apply If.split|apply Gd.split|apply Gd.split')<;>intro _))
 all_goals (refine hR _ _ ?_ kpA)
 all_goals (simp_all [Wd.is];try omega)
def Kq(X:List (Nat×Nat))(w w':World):Prop:=Kp X w w'
theorem Kq.out(h:Kq X w w'):Kp X w w':=h
def Post{β:Type}(w:World)(m:Res β)(X:List (Nat×Nat))(good:β->Value->World->Prop):Ending->World->Prop:=λen w'=>
 Kp X w w'/\match m with
  |.ok b=>∃v,en=.returned v/\good b v w'
  |.no e a=>∃ch,en=.panicked ch/\Flt e a ch w'
theorem Post.R
  (h:∀(R:Ending->World->Prop) (M:Res β),M=m->(∀b v w',M=.ok b->Kp X w w'->good b v w'->R (.returned v) w')->(∀e a ch w',M=.no e a->Kp X w w'->Flt e a ch w'->R (.panicked ch) w')->Calls P f args w R):
  Calls P f args w (Post w m X good):=by
 refine h _ m rfl ?_ ?_
 .intro b v w' h1 h2 h3;refine⟨h2,?_⟩;rw[h1];exact⟨v,rfl,h3⟩
 .intro e a ch w' h1 h2 h3;refine⟨h2,?_⟩;rw[h1];exact⟨ch,rfl,h3⟩
theorem Cl.bind{α β:Type}{f:FuncId}{args:Array Value}{w0 w1:World}{m:Res α}{M:Res β}{k:α->Res β}{X X0:List (Nat×Nat)}{good:α->Value->World->Prop}{E:KE}{K:KV}
  (hM:M=m.andThen k) (hc:Calls P f args w1 (Post w1 m X good))
  (hno:∀e a ch w',M=.no e a->Kp X0 w0 w'->Flt e a ch w'->E ch w')
  (hK:∀a v w',M=k a->Kp X w1 w'->Kq X0 w0 w'->w1.heap.size<=w'.heap.size->good a v w'->K v w')
  (hkp:Kp X0 w0 w1:=by exact kpA)
  (hX:∀i,i<w0.heap.size->Out X0 i->Out X i:=by(intro i hi ho;first|exact trivial|(simp only[Out,and_true,true_and]at ho ⊢;omega))):Cl P f args w1 E K:=by
 refine Cl.by hc ?_ ?_ ?_
 .rintro v w' ⟨h1,h2⟩;cases hm:m with
  |ok a=>
   rw[hm]at h2 hM;obtain⟨v',hv,hg⟩:=h2;cases hv;exact hK a v w' hM h1 (hkp.trans h1 λi hi ho=>⟨ho,hX i hi ho⟩) h1.size hg
  |no e a=>
   rw[hm]at h2;obtain⟨ch,hv,_⟩:=h2;cases hv
 .rintro ch w' ⟨h1,h2⟩;cases hm:m with
  |ok a=>
   rw[hm]at h2;obtain⟨v',hv,_⟩:=h2;cases hv
  |no e a=>
   rw[hm]at h2 hM;obtain⟨ch',hv,hf⟩:=h2;cases hv;exact hno e a ch w' hM (hkp.trans h1 λi hi ho=>⟨ho,hX i hi ho⟩) hf
 .rintro w' ⟨h1,h2⟩;cases hm:m with
  |ok a=>rw[hm]at h2;obtain⟨_,hv,_⟩:=h2;cases hv
  |no e a=>rw[hm]at h2;obtain⟨_,hv,_⟩:=h2;cases hv
theorem Cl.jg{α β:Type}{f:FuncId}{args:Array Value}{w0 w1:World}{m:Res α}{M:Res β}{k:α->Res β}{X X0:List (Nat×Nat)}{good:α->Value->World->Prop}{E:KE}{K:KV}
  (hM:M=m.andThen k) (hc:Calls P f args w1 (Post w1 m X good))
  (hno:∀e a ch w',M=.no e a->Kp X0 w0 w'->Flt e a ch w'->E ch w')
  (hK:∀a v w',m=.ok a->M=k a->Kp X w1 w'->Kq X0 w0 w'->w1.heap.size<=w'.heap.size->good a v w'->K v w')
  (hkp:Kp X0 w0 w1:=by exact kpA)
  (hX:∀i,i<w0.heap.size->Out X0 i->Out X i:=by(intro i hi ho;first|exact trivial|(simp only[Out,and_true,true_and]at ho ⊢;omega))):Cl P f args w1 E K:=by
 refine Cl.by hc ?_ ?_ ?_
 .rintro v w' ⟨h1,h2⟩;cases hm:m with
  |ok a=>
   rw[hm]at h2 hM;obtain⟨v',hv,hg⟩:=h2;cases hv;exact hK a v w' hm hM h1 (hkp.trans h1 λi hi ho=>⟨ho,hX i hi ho⟩) h1.size hg
  |no e a=>
   rw[hm]at h2;obtain⟨ch,hv,_⟩:=h2;cases hv
 .rintro ch w' ⟨h1,h2⟩;cases hm:m with
  |ok a=>
   rw[hm]at h2;obtain⟨v',hv,_⟩:=h2;cases hv
  |no e a=>
   rw[hm]at h2 hM;obtain⟨ch',hv,hf⟩:=h2;cases hv;exact hno e a ch w' hM (hkp.trans h1 λi hi ho=>⟨ho,hX i hi ho⟩) hf
 .rintro w' ⟨h1,h2⟩;cases hm:m with
  |ok a=>rw[hm]at h2;obtain⟨_,hv,_⟩:=h2;cases hv
  |no e a=>rw[hm]at h2;obtain⟨_,hv,_⟩:=h2;cases hv
theorem Cl.plain
  (hc:Calls P f args w1 λen w'=>en=.returned x/\Kp X w1 w')
  (hK:∀w',Kp X w1 w'->Kq X0 w0 w'->w1.heap.size<=w'.heap.size->K x w')
  (hkp:Kp X0 w0 w1:=by exact kpA)
  (hX:∀i,i<w0.heap.size->Out X0 i->Out X i:=by(intro i hi ho;first|exact trivial|(simp only[Out,and_true,true_and]at ho ⊢;omega))):Cl P f args w1 E K:=by
 refine Cl.by hc ?_ ?_ ?_
 .rintro v w' ⟨h1,h2⟩;cases h1;exact hK w' h2 (hkp.trans h2 λi hi ho=>⟨ho,hX i hi ho⟩) h2.size
 .rintro ch w' ⟨h1,_⟩;cases h1
 .rintro w' ⟨h1,_⟩;cases h1
theorem Kp.below(h:RowKit.Below w.heap.size w w'):Kp [] w w':=⟨h.os,h.tape,h.output,h.size,λb hb _=>h.block b hb⟩
theorem Cl.same(hc:Calls P f args w λen w'=>en=.returned x/\w'=w)(hK:K x w):Cl P f args w E K:=by
 refine Cl.by hc ?_ ?_ ?_
 .rintro v w' ⟨h,rfl⟩;cases h;exact hK
 .rintro _ _ ⟨h,_⟩;cases h
 .rintro _ ⟨h,_⟩;cases h
theorem Cl.fail{β:Type}{w0 w1:World}{X0:List (Nat×Nat)}{M:Res β}{e a:Nat}{E:KE}{K:KV}
  (hM:M=.no e a) (hno:∀e a ch w',M=.no e a->Kp X0 w0 w'->Flt e a ch w'->E ch w') (hkp:Kp X0 w0 w1:=by exact kpA):Cl P 68 #[i64 e,i64 a] w1 E K:=by
 refine Cl.by (Yi w1 e a) ?_ ?_ ?_
 .rintro v w' ⟨ch,h,_⟩;cases h
 .rintro ch w' ⟨ch',h,hf,hk⟩;cases h;exact hno e a ch w' hM (hkp.trans hk λi hi ho=>⟨ho,trivial⟩) hf
 .rintro w' ⟨ch,h,_⟩;cases h
theorem _root_.And.s(hB:B)(hA:A:=by(repeat' (first|refine .s ?_|refine .t ?_));with_reducible rfl):A/\B:=⟨hA,hB⟩
abbrev _root_.And.q:=@And.s
abbrev NG:Nat:=12
structure Gl (w:World):Prop where
 props:Lib.TabIs P w "unicode.properties" .u8 Lib.propertiesTab
 pow:Lib.TabIs P w "internal/strconv.uint64pow10" .u64 Lib.pow10Tab
 maxLen:∃m,w.cell? ⟨4,0,none⟩=some (.int .i64 m)
 esyn:∃t v,w.heap[5]?=some (cl [.iface t v] UQ)
 erng:∃t v,w.heap[6]?=some (cl [.iface t v] UQ)
 size:NG<=w.heap.size
theorem Ym{w w':World}{nm:String}{g:Nat}(hg:P.globalNamed nm=some g)(h:w'.heap[g]?=w.heap[g]?):w'.var? P nm=w.var? P nm:=by
 unfold World.var?;rw[hg];simp only[Option.bind_some,h]
theorem Gl.kp{w w':World}{X:List (Nat×Nat)}(h:Gl w)(k:Kp X w w')(hx:∀i,i<NG->Out X i):Gl w':=by
 have hs:=h.size;have e:∀i,i<NG->w'.heap[i]?=w.heap[i]?:=λi hi=>k.same i omg (hx i hi);obtain⟨m,hm⟩:=h.maxLen;obtain⟨t5,v,hv⟩:=h.esyn;obtain⟨t6,u,hu⟩:=h.erng;refine⟨(Ym (g:=1) (by kernel_rfl) (e 1 dcd)).trans h.props,(Ym (g:=9) (by kernel_rfl) (e 9 dcd)).trans h.pow,⟨m,?_⟩,⟨t5,v,(e 5 dcd).trans hv⟩,⟨t6,u,(e 6 dcd).trans hu⟩,Nat.le_trans hs k.size⟩;rw[jM,e 4 dcd,<- jM];exact hm
end Go.W.T
