/- Texts of mine, one behind the other; nothing is assumed. -/
import Derived.Test.YtbfcgbhhgnnglaaGreatDoorB38
import Derived.Test.YtbfcgbhhgnnglaaGreatDoorB27
set_option autoImplicit true
set_option relaxedAutoImplicit true
set_option linter.unusedSimpArgs false
set_option linter.unusedVariables false
set_option maxRecDepth 100000
namespace Go.W.T
open Go Go.W Go.M Go.Proofs
section
variable {B M pb:Nat} {w:World} {p:RS}
theorem Bv(h:QSG G B M pb w p)(g:Gw w 3 1 v l.length (ints l) o)(hl:l.length<=900000)(hnm:p.names.length<=1000000):
  Calls P 126 #[pt pb 0,v] w (Ret λr w'=>∃v' o' w1,r=.tuple #[v',.int .i64 (aI p l).2.1]/\QTG G B M pb w (aI p l).2.2 w1/\Gw w1 3 1 v l.length (ints l) o/\Kp (own o) w1 w'/\Gw w' 3 1 v' (aI p l).1.length (ints (aI p l).1) o'/\Mv w1 o o'):=by
 refine Ret.R λR hR=>?_;refine cf [] Tryz.func126 ?_;unfold aI at hR;simp only at hR;refine Cl.ret (dM h 4 [61]) ?_;rintro _ w2 ⟨rfl,t2,q2⟩;have s2:=aT p 4 [61];generalize af p 4 [61]=p2 at *;refine Cl.ret (zS t2 0 4294967295 (by rw[s2.names];exact hnm)) ?_;rintro _ w4 ⟨rfl,t4,q4⟩;have vn:=value_num p2 (lo:=0) (hi:=4294967295) omg omg;generalize ak p2 0 4294967295=u at *;have g:=dZ g (q2.trans q4) dcd dcd dcd;refine gg ?_;refine Cl.ret (U5 g u.1 omg) ?_;rintro _ w8 ⟨rfl,rfl⟩;refine Jn.by (λvals w'=>vals=[]/\QTG G B M pb w8 (if u.2.2.e==0&&l.contains u.1 then aK u.2.2 6 u.2.1 else u.2.2) w') (λJ hJ=>?_) ?_
 .obtain⟨x,hx⟩:=id t4;have hp:=hx.hp;unfold aN at hp;refine gg ?_;refine Oo ?_;cases hb:(u.2.2.e==0&&l.contains u.1)with
  |true=>
   refine .t ?_;refine Cl.ret (kZ t4 6 u.2.1) ?_;rintro _ w55 ⟨rfl,t55⟩;refine hJ _ _ ⟨rfl,?_⟩;rw[hb,if_pos rfl];exact t55
  |false=>
   refine .f ?_;refine hJ _ _ ⟨rfl,?_⟩;rw[hb,if_neg smp];exact⟨t4,Qk.refl _ _⟩
 .rintro _ w20 jk ⟨rfl,t20,q20⟩;generalize (if u.2.2.e==0&&l.contains u.1 then aK u.2.2 6 u.2.1 else u.2.2)=p20 at *;refine Cl.ret (dM t20 4 [59]) ?_;rintro _ w23 ⟨rfl,t23,q23⟩;have g:=dZ g (q20.trans q23) dcd dcd dcd;refine Ag (n:=u.1) g omg ?_;intro v' w27 o' g27 mv27 k27;exact hR _ _ ⟨v',o',w23,rfl,⟨t23,((q2.trans q4).trans q20).trans q23⟩,g,k27,g27,mv27⟩
theorem U6(h:QS B M pb w p)(g:Gw w 9 1 v l.length (strs l) o)(ho:∀b,o=some b->M<=b)(hl:l.length<=900000)(hnm:p.names.length<=1000000):
  Calls P 184 #[pt pb 0,v] w (Ret λr w'=>∃v' o',r=.tuple #[v',.agg (List.toArray (aA (dO p l).2.1))]/\QS B M pb w' (dO p l).2.2/\Qe o B w w'/\Gw w' 9 1 v' (dO p l).1.length (strs (dO p l).1) o'/\Mv w o o'):=by
 refine Ret.R λR hR=>?_;refine cf [] Tryz.func184 ?_;unfold dO at hR;simp only at hR;refine .s ?_;refine Cl.w (λw9=>Kp [] w w9/\w9.heap[w.heap.size]?=some (cl z6 110)) ⟨kpA,lookA⟩ ?_;rintro w2 ⟨k2,n1⟩;have z2:=k2.size;have g:=g.kp k2 λ_ _=>trivial;refine Cl.ret (NP (h.ext k2) g false hnm omg) ?_;rintro _ w4 ⟨rfl,t4,q4⟩;have n1:=q4.ld n1;have g:=dZ g q4 dcd dcd dcd;have q04:Qk B w w4:=(Qk.kp k2).trans q4;have z4:=q04.size;have l1:=lt_of_heap n1;generalize dS p l false=x at *;unfold aA;refine gJ ?_;have k7:Kp [] w4 (ag (w4.alloc (cl z6 110)) w4.heap.size (cl (aA x.1) 110)):=by exact kpA
 have n5:(ag (w4.alloc (cl z6 110)) w4.heap.size (cl (aA x.1) 110)).heap[w4.heap.size]?=some (cl (aA x.1) 110):=by exact lookA
 unfold aA at n5 k7;generalize ag (w4.alloc (cl z6 110)) w4.heap.size (cl [.int .i64 x.1.kind,κs x.1.s,.int .i64 x.1.at_,.int .i64 x.1.en,.int .i64 x.1.n,.int .i64 x.1.e] 110)=w7 at *;have n1:=(k7.same _ l1 trivial).trans n1;have l1:=lt_of_heap n1;have l71:=l1;have l5:=lt_of_heap n5;have g:=g.kp k7 λ_ _=>trivial;refine nO ?_;refine⟨?_,?_⟩
 .refine .s ?_;rfl
 .refine Ap.w (λw9=>Kp [] w7 w9/\w9.heap[w7.heap.size]?=some (cl [κs x.1.s] 9)) ⟨kpA,lookA⟩ ?_;rintro w12 ⟨k12,n11⟩;have g12:=g.kp k12 λ_ _=>trivial;refine Ap.g g12 n11 rfl rfl ?_ omg;intro v' w15 o' g15 ho' k15;have n5:=(k15.same _ (lt_of_heap ((k12.same _ (lt_of_heap n5) trivial).trans n5)) (aF (fP g12 ((k12.same _ (lt_of_heap n5) trivial).trans n5) dcd))).trans ((k12.same _ (lt_of_heap n5) trivial).trans n5);have n1:=(k15.same _ (lt_of_heap ((k12.same _ (lt_of_heap n1) trivial).trans n1)) (aF (fP g12 ((k12.same _ (lt_of_heap n1) trivial).trans n1) dcd))).trans ((k12.same _ (lt_of_heap n1) trivial).trans n1);have t12:QS B M pb w12 x.2:=(t4.ext k7).ext k12;have t15:=t12.loc g12 dcd dcd dcd ho k15;have l5:=lt_of_heap n5;have l1:=lt_of_heap n1;have q12:Qk B w w12:=(q04.trans (Qk.kp k7)).trans (Qk.kp k12);refine⟨?_,?_⟩
  .refine .s ?_;rfl
  .have hne:o'≠some w.heap.size:=by
    rcases ho' with e|e
    .exact λe2=>by have:=fP g12 ((k12.same _ (lt_of_heap (w:=w7) asu) trivial).trans asu) (by decide:(9:TypeId)≠110) (e▸e2);exact this
    .exact λe2=>by rw[e]at e2;have:=k12.size;have e3:=Option.some.inj e2;omega
   have fin:∀w17,Kp [(w.heap.size,w.heap.size+1)] w15 w17->R (.returned (.tuple #[v',.agg (List.toArray (aA x.1))])) w17:=λw17 k17=>by
    refine hR _ _ ⟨v',o',rfl,t15.tmp n1 k17,?_,?_,?_⟩
    .refine((Qe.of q12).trans (Qe.own k15) λi e=>Or.inl e).trans (o':=some w.heap.size) (Qe.own ⟨k17.os,k17.tape,k17.output,k17.size,λb hb ho2=>k17.same b hb ⟨by have:=ho2.1;omega,trivial⟩⟩) λi e=>by cases e;exact Or.inr (Nat.le_refl _)
    .have e:strs (l++[x.1.s])=strs l++[κs x.1.s]:=by simp[strs]
     rw[List.length_append,e];exact g15.kp k17 λb hb=>⟨by have:b≠w.heap.size:=λe2=>hne (by rw[<- e2];exact hb);omega,trivial⟩
    .exact λb hb=>(FY (w:=w7) k12 ho' b hb).imp id λhh=>by have:=k7.size;omega
   refine gg ?_;exact fin _ kpA
theorem Y2(h:QS B M pb w p)(hl:p.rows.length<=1000000):Calls P 185 #[pt pb 0] w (Ret λv w'=>v=.tuple #[.int .i64 (fV p).1,κs (fV p).2.1]/\QT B M pb w (fV p).2.2 w'):=by
 refine Ret.R λR hR=>?_;refine cf [] Tryz.func185 ?_;unfold fV at hR;refine Cl.ret (rF h 2 [118,111,105,100]) ?_;rintro _ w2 ⟨rfl,rfl⟩;cases hi:is_ p 2 [118,111,105,100]with
 |true=>
  rw[hi,if_pos rfl]at hR;refine .t ?_;refine Cl.ret (jh h) ?_;rintro _ w' ⟨rfl,t⟩;exact hR _ _ ⟨rfl,t⟩
 |false=>
  rw[hi,if_neg smp]at hR;refine .f ?_;refine Cl.ret (Y4 h hl) ?_;rintro _ w' ⟨rfl,t⟩;refine gg ?_;exact hR _ _ ⟨rfl,t⟩
end
end Go.W.T
namespace Go.W.T
open Go Go.W Go.M Go.Proofs
section
variable {B M pb:Nat} {w:World} {p:RS}
theorem CX:∀{l:List eU} {c:List Value},eQ M w l c->c.length=l.length*8
 |[],c,h=>by
  obtain rfl:c=[]:=h;rfl
 |r::l,c,⟨nv,pv,rest,h1,h2,h3,h4⟩=>by
  rw[h1,List.length_append,CX h4,List.length_cons,Nat.succ_mul];show 8+_=_;omega
theorem NH:∀{l:List eU} {c:List Value} {i:Nat} {r:eU},eQ M w l c->l[i]?=some r ->
  ∃nv pv,IsI M w nv r.nums/\IsI M w pv r.parts/\∀j u,(nR r nv pv)[j]?=some u->c[i*8+j]?=some u
 |[],c,i,r,h,hi=>by simp at hi
 |a::l,c,0,r,⟨nv,pv,rest,h1,h2,h3,h4⟩,hi=>by
  obtain rfl:a=r:=by simpa using hi
  refine⟨nv,pv,h2,h3,λj u hj=>?_⟩;rw[h1,Nat.zero_mul,Nat.zero_add,List.getElem?_append_left (List.getElem?_eq_some_iff.mp hj).1];exact hj
 |a::l,c,i+1,r,⟨nv,pv,rest,h1,h2,h3,h4⟩,hi=>by
  obtain⟨nv',pv',x,y,z⟩:=NH h4 (show l[i]?=some r by simpa using hi);refine⟨nv',pv',x,y,λj u hj=>?_⟩;have e:(nR a nv pv).length=8:=rfl;rw[h1,List.getElem?_append_right (by rw[e,Nat.succ_mul];omega),e,show (i+1)*8+j - 8=i*8+j by rw[Nat.succ_mul];omega];exact z j u hj
theorem EK(h:QX B M pb w p x)(hi:p.rows[i]?=some r):
  ∃b rest cap nv pv,x.o1=some b/\x.rv=.slice (some ⟨b,0,none⟩) p.rows.length cap/\w.heap[b]?=some (cl (x.rc++rest) 115)/\IsI M w nv r.nums/\IsI M w pv r.parts/\∀j u,(nR r nv pv)[j]?=some u->(x.rc++rest)[0+i*8+j]?=some u:=by
 obtain⟨nv,pv,hn,hp,hc⟩:=NH h.rat hi;obtain⟨b,rest,cap,h1,h2,h3⟩:=Gw.some h.rows (by have:=(List.getElem?_eq_some_iff.mp hi).1;omega);refine⟨b,rest,cap,nv,pv,h1,h2,h3,hn,hp,λj u hj=>?_⟩;have h4:=hc j u hj;rw[Nat.zero_add,List.getElem?_append_left (List.getElem?_eq_some_iff.mp h4).1];exact h4
theorem IJ(h0:0<=n)(h:n<(l.length:Int)):l[n.toNat]?=some (Go.M.rowAt l n):=by
 unfold Go.M.rowAt;rw[List.getD_eq_getElem?_getD,List.getElem?_eq_getElem omg];rfl
theorem TJ(h:QS B M pb w p)(hv:Nv p)(hl:p.names.length<=1000000):Calls P 130 #[pt pb 0] w (Ret λv w'=>v=.tuple #[.int .i64 (dP p).1,κs (dP p).2.1]/\QT B M pb w (dP p).2.2 w'):=by
 refine Ret.R λR hR=>?_;refine cf [] Tryz.func130 ?_;obtain⟨x,hx⟩:=id h;have hp:=hx.hp;unfold aN at hp;have hlt:=lt_of_heap hp;unfold dP at hR;simp only at hR;refine gg ?_;refine Cl.w (λw9=>Kp [] w w9/\w9.heap[w.heap.size]?=some (cl (aA p.w) 110)) ⟨kpA,by unfold aA;exact lookA⟩ ?_;rintro w14 ⟨k14,n4⟩;have ZL:=hx.ext k14;have h14:QS B M pb w14 p:=⟨x,ZL⟩;refine Cl.ret (Bz ZL.names p.w.s hl) ?_;rintro _ w15 ⟨rfl,rfl⟩;have q14:Qk B w w15:=Qk.kp k14;have vP:=ZL.hp;unfold aN at vP;have hlt:=lt_of_heap vP;have l4:=lt_of_heap n4;unfold aA at n4;cases hb:(p.e==0&&p.w.kind==1)with
 |true=>
  rw[hb,if_pos rfl]at hR;have he:(p.e==0)=true:=by
   rw[Bool.and_eq_true]at hb;exact hb.1
  have hk:(p.w.kind==1)=true:=by
   rw[Bool.and_eq_true]at hb;exact hb.2
  cases hn:nix p.w.s p.names with
  |none=>
   have en:oD p.w.s p.names = -1:=by unfold oD;rw[hn]
   simp only[hn]at hR;rw[en];refine gg ?_;refine Cl.ret (kZ (h14.ext kpA) 7 p.w.at_) ?_;rintro _ w' ⟨rfl,t,k⟩;refine gg ?_;exact hR _ _ ⟨rfl,t,q14.trans ((Qk.kp kpA).trans k)⟩
  |some k=>
   have en:oD p.w.s p.names=((k:Nat):Int):=by unfold oD;rw[hn]
   simp only[hn]at hR;rw[en];have hkl:=EP hn;obtain⟨b2,uz,cap2,ho2,hv2,hb2,hc2⟩:=uK qV ZL.names (qg hkl);have c1:=hc2 1 _ rfl;have c2:=hc2 2 _ rfl;have hmem:=hv.names _ (yU hkl);have hys:=qg hkl;have d0:decide (((k:Nat):Int)<0)=false:=decide_eq_false omg;generalize cO p.names k=y at *;rw[hv2]at vP;cases hw:y.what != 1 with
   |true=>
    rw[hw,Bool.true_or,if_pos rfl]at hR;refine gg ?_;refine Cl.ret (kZ (h14.ext kpA) 7 p.w.at_) ?_;rintro _ w' ⟨rfl,t,k⟩;refine gg ?_;exact hR _ _ ⟨rfl,t,q14.trans ((Qk.kp kpA).trans k)⟩
   |false=>
    have hw1:y.what=1:=by simpa using hw
    obtain⟨r0,r1⟩:=hmem hw1;obtain⟨b1,nZ,cap1,nv,pv,ho1,hv1,hb1,_,_,hc1⟩:=EK ZL (IJ r0 r1);have c3:=hc1 0 _ rfl;rw[hw,Bool.false_or]at hR;generalize Go.M.rowAt p.rows y.n=r at *;have eyn:y.n=((y.n.toNat:Nat):Int):=omg;rw[eyn]at c2;rw[hv1]at vP;cases hk5:r.kind != 5 with
    |true=>
     rw[hk5,if_pos rfl]at hR;refine gg ?_;refine Cl.ret (kZ (h14.ext kpA) 7 p.w.at_) ?_;rintro _ w' ⟨rfl,t,k⟩;refine gg ?_;exact hR _ _ ⟨rfl,t,q14.trans ((Qk.kp kpA).trans k)⟩
    |false=>
     rw[hk5,if_neg smp]at hR;refine gg ?_;refine Cl.ret (jh (h14.ext kpA)) ?_;rintro _ w147 ⟨rfl,t,k⟩;have n4:=k.ld n4;obtain⟨x7,hx7⟩:=id t;have hx7n:Gw w147 117 4 x7.nv p.names.length (bV p.names) x7.o2:=hx7.names;have hp7:=hx7.hp;unfold aN at hp7;obtain⟨b3,rest3,cap3,ho3,hv3,hb3,hc3⟩:=uK qV hx7n hys;have c7:=hc3 2 _ rfl;rw[hv3]at hp7;refine gg ?_;exact hR _ _ ⟨rfl,t.ext kpA,(q14.trans ((Qk.kp kpA).trans k)).trans (Qk.kp kpA)⟩
 |false=>
  rw[hb,if_neg smp]at hR;have bad:∀w9,Kp [] w15 w9->R (.returned (.tuple #[.int .i64 0,κs []])) w9->True:=λ_ _ _=>trivial;clear bad;cases he:p.e==0 with
  |false=>
   rw[he,Bool.false_and,Bool.false_and,if_pos (by rfl)]at hR;refine gg ?_;refine Cl.ret (Au (h14.ext kpA)) ?_;rintro _ w' ⟨rfl,t,k⟩;refine gg ?_;exact hR _ _ ⟨rfl,t,q14.trans ((Qk.kp kpA).trans k)⟩
  |true=>
   rw[he,Bool.true_and]at hb;rw[he,Bool.true_and]at hR;cases hk:p.w.kind==2 with
   |false=>
    rw[hk,Bool.false_and,if_pos (by rfl)]at hR;refine gg ?_;refine Cl.ret (Au (h14.ext kpA)) ?_;rintro _ w' ⟨rfl,t,k⟩;refine gg ?_;exact hR _ _ ⟨rfl,t,q14.trans ((Qk.kp kpA).trans k)⟩
   |true=>
    rw[hk,Bool.true_and]at hR;cases hi:p.w.s==[105,110,116]with
    |true=>
     rw[hi,Bool.true_or,Bool.true_or,if_neg smp,if_pos rfl]at hR;refine gg ?_;refine Cl.ret (jh (h14.ext kpA)) ?_;rintro _ w229 ⟨rfl,t,k⟩;have n4:=k.ld n4;refine gg ?_;exact hR _ _ ⟨rfl,t,q14.trans ((Qk.kp kpA).trans k)⟩
    |false=>
    rw[hi,Bool.false_or]at hR;cases hu:p.w.s==[117,110,115,105,103,110,101,100]with
    |false=>
     rw[hu,Bool.false_or]at hR;cases ho:p.w.s==[98,111,111,108]with
     |false=>
      rw[ho,if_pos (by rfl)]at hR;refine gg ?_;rw[ho];refine .t ?_;refine Cl.ret (Au (h14.ext kpA)) ?_;rintro _ w' ⟨rfl,t,k⟩;refine gg ?_;exact hR _ _ ⟨rfl,t,q14.trans ((Qk.kp kpA).trans k)⟩
     |true=>
      rw[ho,if_neg smp,if_neg smp,if_pos rfl]at hR;refine gg ?_;rw[ho];refine .f ?_;refine Cl.ret (jh (h14.ext kpA)) ?_;rintro _ w229 ⟨rfl,t,k⟩;have n4:=k.ld n4;refine gg ?_;exact hR _ _ ⟨rfl,t,q14.trans ((Qk.kp kpA).trans k)⟩
    |true=>
     have ho:(p.w.s==[98,111,111,108])=false:=by
      have:=eq_of_beq hu;rw[this];rfl
     rw[hu,Bool.true_or,ho,if_neg smp,if_neg smp,if_neg smp]at hR;refine gg ?_;refine Cl.ret (jh (h14.ext kpA)) ?_;rintro _ w229 ⟨rfl,t,k⟩;have n4:=k.ld n4;have q229:Qk B w w229:=q14.trans ((Qk.kp kpA).trans k);generalize aB p=p2 at *;refine gg ?_;refine Cl.ret (rF t 2 [105,110,116]) ?_;rintro _ w235 ⟨rfl,rfl⟩;refine Jn.by (λvals w'=>vals=[]/\QT B M pb w235 (if is_ p2 2 [105,110,116]then aB p2 else p2) w') (λJ hJ=>?_) ?_
     .cases hq:is_ p2 2 [105,110,116]with
      |true=>
       refine .t ?_;refine Cl.ret (jh t) ?_;rintro _ w' ⟨rfl,t⟩;exact hJ _ _ ⟨rfl,by rw[hq,if_pos rfl];exact t⟩
      |false=>
       refine .f ?_;exact hJ _ _ ⟨rfl,by rw[hq,if_neg smp];exact⟨t,Qk.refl _ _⟩⟩
     .rintro _ w239 jk ⟨rfl,t,k⟩;exact hR _ _ ⟨rfl,t,q229.trans k⟩
theorem q_arm(h:QS B M pb w p)(g:Gw w 9 1 v l.length (strs l) o)(ho:∀b,o=some b->M<=b)(hl:l.length<=900000)(hs:Sz p n)(hn:n<=100000):
  Calls P 133 #[pt pb 0,v] w (Ret λr w'=>∃v' o',r=.tuple #[.int .i64 (jc p l).1,κs (jc p l).2.1,v']/\QS B M pb w' (jc p l).2.2.2/\Qe o B w w'/\Gw w' 9 1 v' (jc p l).2.2.1.length (strs (jc p l).2.2.1) o'/\Mv w o o'):=by
 refine Ret.R λR hR=>?_;refine cf [] Tryz.func133 ?_;unfold jc at hR;refine Cl.ret (rF h 2 [118,111,105,100]) ?_;rintro _ w2 ⟨rfl,rfl⟩;cases hi:is_ p 2 [118,111,105,100]with
 |true=>
  rw[hi,if_pos rfl]at hR;refine .t ?_;refine Cl.ret (jh h) ?_;rintro _ w4 ⟨rfl,t4,q4⟩;refine Cl.ret (dM t4 4 [59]) ?_;rintro _ w6 ⟨rfl,t6,q6⟩;exact hR _ _ ⟨v,o,rfl,t6,Qe.of (q4.trans q6),dZ g (q4.trans q6) dcd dcd dcd,Mv.refl _ _⟩
 |false=>
  rw[hi,if_neg smp]at hR;simp only at hR;refine .f ?_;refine Cl.ret (TK h g false (by have:=hs.names;omega) (by have:=hs.rows;omega) omg) ?_;rintro _ w8 ⟨rfl,t8,q8⟩;obtain⟨s8,l1,l2,l3⟩:=Nr hs l false;have tl:=hs.tl;generalize dD p l false=d at *;unfold aA;refine nO ?_;refine gJ ?_;refine Cl.w (λw12=>Kp [] w8 w12/\w12.heap[w8.heap.size]?=some (cl (aA d.2.2.2.1) 110)) ⟨kpA,by unfold aA;exact lookA⟩ ?_;rintro w15 ⟨k15,n13⟩;refine Cl.ret (dM (t8.ext k15) 4 [59]) ?_;rintro _ w17 ⟨rfl,t17,q17⟩;have n13:=q17.ld n13;generalize af d.2.2.2.2 4 [59]=p17 at *;have q017:=(q8.trans (Qk.kp k15)).trans q17;have g:=dZ g q017 dcd dcd dcd;unfold aA at n13;refine gJ ?_;refine OV (s:=d.2.2.2.1.s) g omg ?_;intro v' w23 o' g23 mv23 k23;have n13:=(k23.same _ (lt_of_heap n13) (aF (fP g n13 dcd))).trans n13;have t23:=t17.loc g dcd dcd dcd ho k23;have q023:Qe o B w2 w23:=(Qe.of q017).trans (Qe.own k23) λi e=>Or.inl e;refine gJ ?_;refine Bs.a (a:=d.2.1) (b:=d.2.2.2.1.s) ?_ omg;refine Bs.a (a:=d.2.1++d.2.2.2.1.s) (b:=d.2.2.1) ?_ (by simp only[List.length_append];omega);refine Bs.a (a:=d.2.1++d.2.2.2.1.s++d.2.2.1) (b:=[59,32]) ?_ lng;exact hR _ _ ⟨v',o',rfl,t23.ext kpA,q023.trans (o':=none) (Qe.of (Qk.kp kpA)) (λi e=>by cases e),g23.kp (X:=[]) kpA (λ_ _=>trivial),λb hb=>(mv23 b hb).imp id λhh=>by have:=q017.size;omega⟩
end
end Go.W.T
namespace Go.W.T
open Go Go.W Go.M Go.Proofs
section
variable {B M pb:Nat} {w:World} {p:RS}
theorem lN(h:Gw w e m v n l o)(g:Gw w e' m' v' n' l' o')(hne:e≠e'):∀b,o=some b->o'≠some b:=λb hb e2=>by
 obtain⟨_,r,cp,_,y,_⟩:=show Gw w e' m' v' n' l' (some b)from e2▸g
 exact fP h y hne hb
theorem P9(h:QS B M pb w p)(hs:Sz p n)(hn:n<=90000):Calls P 78 #[pt pb 0] w (Ret λv w'=>v=.tuple #[]/\QU B pb w (fC p) w'/\Sz (fC p) (n+150)):=by
 refine Ret.R λR hR=>?_;refine cf [3,4,5] Tryz.func78 ?_;have hR:∀w',QU B pb w (fC p) w'/\Sz (fC p) (n+150)->R (.returned (.tuple #[])) w':=λw' t=>hR _ _ ⟨rfl,t⟩;unfold fC at hR;simp only at hR;have h:=h.up;refine Cl.ret (dM h 2 [115,116,114,117,99,116]) ?_;rintro _ w2 ⟨rfl,t2,q2⟩;have s2:=dJ hs 2 [115,116,114,117,99,116];generalize af p 2 [115,116,114,117,99,116]=p2 at *;refine Cl.ret (rQ t2 2 (by have:=s2.names;omega)) ?_;rintro _ w4 ⟨rfl,t4,q4⟩;obtain⟨s4,l4⟩:=pW s2 2;have tl:=s2.tl;generalize az p2 2=d at *;unfold aA;refine gJ ?_;refine Cl.w (λw12=>Kp [] w4 w12/\w12.heap[w4.heap.size]?=some (cl (aA d.1) 110)) ⟨kpA,by unfold aA;exact lookA⟩ ?_;rintro w7 ⟨k7,n5⟩;refine Cl.ret (dM (t4.ext k7) 4 [123]) ?_;rintro _ w9 ⟨rfl,t9,q9⟩;have n5:=q9.ld n5;have s9:=dJ s4 4 [123];have q09:Qk B w w9:=((q2.trans q4).trans (Qk.kp k7)).trans q9;generalize af d.2 4 [123]=p9 at *;have z9:=q09.size;unfold aA at n5;refine gJ ?_;refine Bs.a (a:=[115,116,114,117,99,116,32]) (b:=d.1.s) ?_ lng;refine Bs.a (a:=[115,116,114,117,99,116,32]++d.1.s) (b:=[32,123,32]) ?_ lng;have ol:([115,116,114,117,99,116,32]++d.1.s++[32,123,32]).length<=1300:=by simp only[List.length_append,List.length_cons,List.length_nil];omega
 generalize ([115,116,114,117,99,116,32]++d.1.s++[32,123,32])=Dh at *;generalize hL:aO 14 p9 Dh [] []=L at *;refine Jn.by (λvals w'=>∃q out parts v o u,vals=[κs out,v,u]/\parts.length<=13/\out.length<=40000/\Gw w' 3 1 v parts.length (ints parts) o/\(∀b,o=some b->w9.heap.size<=b)/\QS B w.heap.size pb w' q/\Qk B w9 w'/\Sz q (n+30)/\L=(q,out,parts)) (λJ hJ=>?_) ?_
 .refine Lp.nat (λm vals w'=>∃q out parts v o names u o2,vals=[κs out,v,u]/\m+parts.length=14/\(parts.length<=12\/parts.length<=13/\q.e≠0)/\out.length<=1300+parts.length*2600/\Gw w' 3 1 v parts.length (ints parts) o/\(∀b,o=some b->w9.heap.size<=b)/\Gw w' 9 1 u names.length (strs names) o2/\(∀b,o2=some b->w9.heap.size<=b)/\names.length=parts.length/\QS B w.heap.size pb w' q/\Qk B w9 w'/\Sz q (n+1+2*parts.length)/\L=aO m q out parts names) (n:=14) ⟨p9,Dh,[],_,_,[],_,_,rfl,rfl,Or.inl smp,by simpa using ol,Gw.nil _ _ _,(λb hb=>by cases hb),Gw.nil _ _ _,(λb hb=>by cases hb),rfl,t9,Qk.refl _ _,s9.mono smp,hL.symm⟩ ?_;rintro m _ w16 jk C ⟨q,out,parts,v,o,names,u,o2,rfl,hm,hnl,hol,g,ho,g2,ho2,hnp,t,k16,sq,hx⟩ hC;have ZY:parts.length<=13:=omg;obtain⟨k,rfl⟩:∃k,m=k+1:=⟨m - 1,omg⟩;rw[aO]at hx;obtain⟨va,vc,rfl⟩:=g.len;obtain⟨ua,uc,rfl⟩:=g2.len;obtain⟨x,hx16⟩:=id t;have hp:=hx16.hp;unfold aN at hp;refine nO ?_;refine .s ?_;cases he:q.e==0 with
  |false=>
   rw[he,if_neg smp]at hx;refine gg ?_;exact hJ _ _ ⟨q,out,parts,_,o,_,rfl,omg,omg,g,ho,t,k16,sq.mono omg,hx⟩
  |true=>
   have Oe:parts.length<=12:=by
    rcases hnl with hh|⟨_,hh⟩
    .exact hh
    .exact absurd (by simpa using he) hh
   rw[he,if_pos rfl]at hx;simp only at hx;refine .t ?_;refine .t ?_;refine Cl.ret (wV t (parts.length:Nat) 12) ?_;rintro _ w27 ⟨rfl,t27,q27⟩;have s27:=uw sq (parts.length:Nat) 12;have hit:12<=parts.length->(aG q (parts.length:Nat) 12).e≠0:=λhh=>tH q omg;generalize aG q (parts.length:Nat) 12=p27 at *;have g2:=dZ g2 q27 dcd dcd dcd;refine Cl.ret (TK t27 g2 false (by have:=s27.names;omega) (by have:=s27.rows;omega) omg) ?_;rintro _ w29 ⟨rfl,t29,q29⟩;obtain⟨s29,l1,l2,l3⟩:=Nr s27 names false;have tl3:=s27.tl;have f29:=xF p27 names false;generalize dD p27 names false=y at *;unfold aA;refine nO ?_;refine gJ ?_;refine Cl.w (λw12=>Kp [] w29 w12/\w12.heap[w29.heap.size]?=some (cl (aA y.2.2.2.1) 110)) ⟨kpA,by unfold aA;exact lookA⟩ ?_;rintro w36 ⟨k36,n34⟩;refine Cl.ret (dM (t29.ext k36) 4 [59]) ?_;rintro _ w38 ⟨rfl,t38,q38⟩;have n34:=q38.ld n34;have s38:=dJ s29 4 [59];have f38:=f29.trans (ay y.2.2.2.2 4 [59]);generalize af y.2.2.2.2 4 [59]=p38 at *;have Y7:=(q29.trans (Qk.kp k36)).trans q38;have g2:=dZ g2 Y7 dcd dcd dcd;have g:=dZ g (q27.trans Y7) dcd dcd dcd;have q938:=k16.trans (q27.trans Y7);have z38:=q938.size;unfold aA at n34;refine Ag (n:=y.1) g omg ?_;intro v' w42 o' g42 mv42 k42;have q942:=q938.I4 k42 ho;have t42:=t38.loc g dcd dcd dcd (λb hb=>by have:=ho b hb;omega) k42;have n34:=(k42.same _ (lt_of_heap n34) (aF (fP g n34 dcd))).trans n34;have g2:=bP g2 g dcd k42;have ho:=mv42.geN ho z38;have z42:=q942.size;refine gJ ?_;refine OV (s:=y.2.2.2.1.s) g2 omg ?_;intro u' w48 o2' g48 mv48 k48;have q948:=q942.I4 k48 ho2;have t48:=t42.loc g2 dcd dcd dcd (λb hb=>by have:=ho2 b hb;omega) k48;have n34:=(k48.same _ (lt_of_heap n34) (aF (fP g2 n34 dcd))).trans n34;have g48i:=bP g42 g2 dcd k48;have ho2:=mv48.geN ho2 z42;refine Bs.a (a:=out) (b:=y.2.1) ?_ omg;refine gJ ?_;refine Bs.a (a:=out++y.2.1) (b:=y.2.2.2.1.s) ?_ (by simp only[List.length_append];omega);refine Bs.a (a:=out++y.2.1++y.2.2.2.1.s) (b:=y.2.2.1) ?_ (by simp only[List.length_append];omega);refine Bs.a (a:=out++y.2.1++y.2.2.2.1.s++y.2.2.1) (b:=[59,32]) ?_ lng;have ol2:(out++y.2.1++y.2.2.2.1.s++y.2.2.1++[59,32]).length<=1300+parts.length*2600+2600:=by simp only[List.length_append,List.length_cons,List.length_nil];omega
   generalize (out++y.2.1++y.2.2.2.1.s++y.2.2.1++[59,32])=qL at *;have ln2:(parts++[y.1]).length=parts.length+1:=by simp
   have ln3:(names++[y.2.2.2.1.s]).length=names.length+1:=by simp
   refine Cl.ret (rF t48 4 [125]) ?_;rintro _ w56 ⟨rfl,rfl⟩;cases hi:is_ p38 4 [125]with
   |true=>
    rw[hi,if_pos rfl]at hx;refine .t ?_;exact hJ _ _ ⟨p38,qL,parts++[y.1],_,_,_,rfl,omg,omg,g48i,ho,t48,q948,s38.mono omg,hx⟩
   |false=>
    rw[hi,if_neg smp]at hx;refine .f ?_;refine hC k _ _ omg ⟨p38,qL,parts++[y.1],_,_,names++[y.2.2.2.1.s],_,_,rfl,omg,?_,omg,g48i,ho,g48,ho2,omg,t48,q948,s38.mono omg,hx⟩;rcases Nat.lt_or_ge parts.length 12 with hh|hh
    .exact Or.inl omg
    .exact Or.inr ⟨omg,f38.ne (hit hh)⟩
 .rintro _ w85 jk ⟨q,out,parts,v,o,u,rfl,hnl,hol,g,ho,t,Y5,sq,rfl⟩;have n5:=Y5.ld n5;simp only at hR;refine .s ?_;obtain⟨va,vc,rfl⟩:=g.len;have iI:Lc w.heap.size w85.heap.size w85 (.slice va parts.length vc) parts:=⟨o,g,λb hb=>⟨by have:=ho b hb;omega,g.lt b hb⟩⟩;have Y9:=q09.trans Y5;refine Cl.ret (dM t 4 [125]) ?_;rintro _ w88 ⟨rfl,t88,q88⟩;have s88:=dJ sq 4 [125];generalize af q 4 [125]=p88 at *;refine Cl.ret (dM t88 4 [59]) ?_;rintro _ w90 ⟨rfl,t90,q90⟩;have s90:=dJ s88 4 [59];generalize af p88 4 [59]=p90 at *;have iI:=iI.kt (q88.trans q90);have n5:=(q88.trans q90).ld n5;refine .s ?_;refine Cl.ret (Ar (r:={ row0 with kind:=12,parts:=parts }) t90 (by have:=s90.rows;omega) Zy iI (by have:=Y9.size;omega)) ?_;rintro _ w93 ⟨rfl,t93,q93⟩;have s93:=wJ s90 { row0 with kind:=12,parts:=parts };have n5:=q93.ld n5;generalize dh p90 { row0 with kind:=12,parts:=parts }=r at *;refine gJ ?_;refine Cl.ret (NL t93 d.1.s r.1 (by have:=s93.names;omega)) ?_;rintro _ w97 ⟨rfl,t97,q97⟩;have s97:=Ik s93 d.1.s r.1;generalize dI r.2 d.1.s r.1=p97 at *;have q097:=(((Y9.trans q88).trans q90).trans q93).trans q97;have oz:=s97.out;obtain⟨x97,ZK⟩:=t97;have ZW:=ZK.hp;unfold aN at ZW;have hl97:=lt_of_heap ZW;refine nO ?_;refine Bs.a (a:=p97.out) (b:=out) ?_ omg;refine Bs.a (a:=p97.out++out) (b:=[125,59,10]) ?_ lng;refine gg ?_;refine ZK.fin (R:=R) (p':={ p97 with out:=p97.out++out++[125,59,10] }) (λw' t=>hR w' ⟨⟨t.1.up,q097.trans t.2⟩,(ED s97 (m:=5) lng).mono omg⟩) rfl rfl rfl rfl ⟨s97.ok.len,s97.ok.en0,s97.ok.en1,s97.ok.we⟩ s97.tl _ ?_ ?_
  .exact kpA
  .refine look_eq lookA ?_;rfl
end
end Go.W.T
namespace Go.W.T
open Go Go.W Go.M Go.Proofs
section
variable {B M pb:Nat} {w:World} {p:RS}
theorem pX(h:k<l.length):l[k]?=some (Go.M.rowAt l (k:Nat)):=by
 have:=IJ (l:=l) (n:=(k:Nat)) omg omg
 rwa [Int.toNat_natCast]at this
theorem abB(h:QS B M pb w p)(g:Gw w 3 1 v l.length (ints l) o)(ho:∀b,o=some b->M<=b)(hMs:M<=w.heap.size)(hl:l.length<=13)(hf:f<p.rows.length)(hv:Nv p)(hnm:p.names.length<=1000000):
  Calls P 132 #[pt pb 0,.int .i64 (f:Nat),v] w (Ret λr w'=>∃v' o',r=.tuple #[v',κs (gG p (f:Nat) l).2.1]/\QS B M pb w' (gG p (f:Nat) l).2.2/\Qe o B w w'/\Gw w' 3 1 v' (gG p (f:Nat) l).1.length (ints (gG p (f:Nat) l).1) o'/\Mv w o o'/\(gG p (f:Nat) l).2.1.length<=300):=by
 refine Ret.R λR hR=>?_;refine cf [2,8,9,10] Tryz.func132 ?_;unfold gG at hR;generalize hL:bz (f:Nat) 14 p l []=L at *;refine Jn.by (λvals w'=>∃nums out v' o' u1 u2 q,vals=[v',κs out,u1,u2]/\L=(nums,out,q)/\QS B M pb w' q/\Qe o B w w'/\Gw w' 3 1 v' nums.length (ints nums) o'/\Mv w o o'/\out.length<=300) (λJ hJ=>?_) ?_
 .refine Lp.nat (λm vals w'=>∃nums out v' o' u1 u2 q,vals=[v',κs out,u1,u2]/\m+nums.length=14+l.length/\(nums.length<=12\/nums.length=l.length)/\out.length+18*l.length<=18*nums.length/\L=bz (f:Nat) m q nums out/\QS B M pb w' q/\Qe o B w w'/\Gw w' 3 1 v' nums.length (ints nums) o'/\Mv w o o'/\Sb p q) (n:=14) ⟨l,[],v,o,_,_,p,rfl,rfl,Or.inr rfl,smp,hL.symm,h,Qe.of (Qk.refl _ _),g,Mv.refl _ _,Sb.refl _⟩ ?_;clear g h;rintro m _ w3 jk C ⟨nums,out,v',o',u1,u2,q,rfl,hm,hnl,hol,hx,t,q03,g,mv,sb⟩ hC;obtain⟨k,rfl⟩:∃k,m=k+1:=⟨m - 1,omg⟩;rw[bz]at hx;have hM':=mv.geN ho hMs;obtain⟨va,vc,rfl⟩:=g.len;obtain⟨x,hx3⟩:=id t;have hp:=hx3.hp;unfold aN at hp;refine gg ?_;cases he:q.e==0 with
  |false=>
   rw[he,if_neg smp]at hx;refine .f ?_;exact hJ _ _ ⟨nums,out,_,o',_,_,q,rfl,hx,t,q03,g,mv,omg⟩
  |true=>
   rw[he,if_pos rfl]at hx;simp only at hx;refine gg ?_;refine Cl.ret (wV t (nums.length:Nat) 12) ?_;rintro _ w15 ⟨rfl,t15,q15⟩;have b15:=sb.trans (CV q (nums.length:Nat) 12);have hit:12<=nums.length->(aG q (nums.length:Nat) 12).e≠0:=λhh=>tH q omg;generalize aG q (nums.length:Nat) 12=p15 at *;refine Cl.ret (dM t15 2 [99,97,115,101]) ?_;rintro _ w17 ⟨rfl,t17,q17⟩;have b17:=b15.trans (aT p15 2 [99,97,115,101]);have f17:=ay p15 2 [99,97,115,101];generalize af p15 2 [99,97,115,101]=p17 at *;refine Jn.by (λvals w'=>vals=[.int .i64 (if((f:Nat):Int)==1||((f:Nat):Int)==4 then 0 else -2147483648),.int .i64 (if((f:Nat):Int)==1 then 4294967295 else if((f:Nat):Int)==4 then 1 else 2147483647)]/\w'=w17) (λJ2 hJ2=>?_) ?_
   .cases h1:((f:Nat):Int)==1 with
    |true=>
     refine gg ?_;exact hJ2 _ _ ⟨by rw[h1];rfl,rfl⟩
    |false=>
     cases h4:((f:Nat):Int)==4 with
     |true=>
      refine gg ?_;exact hJ2 _ _ ⟨by rw[h1,h4];rfl,rfl⟩
     |false=>
      refine gg ?_;exact hJ2 _ _ ⟨by rw[h1,h4];rfl,rfl⟩
   .rintro _ w23 jk2 ⟨rfl,rfl⟩;have hlo:(-10000000000:Int)<(if((f:Nat):Int)==1||((f:Nat):Int)==4 then 0 else -2147483648):=by split<;>omega
    have hhi:(if((f:Nat):Int)==1 then 4294967295 else if((f:Nat):Int)==4 then 1 else 2147483647)<(10000000000:Int):=by
     split
     .omega
     .split<;>omega
    generalize (if((f:Nat):Int)==1||((f:Nat):Int)==4 then 0 else -2147483648:Int)=lo at *;generalize (if((f:Nat):Int)==1 then 4294967295 else if((f:Nat):Int)==4 then 1 else 2147483647:Int)=hi at *;refine .s ?_;refine Cl.ret (zS t17 lo hi (by rw[b17.names];exact hnm)) ?_;rintro _ w26 ⟨rfl,t26,q26⟩;have b26:=b17.trans (lI p17 lo hi);have f26:=f17.trans (fB p17 lo hi);have vn:=value_num p17 hlo hhi;generalize ak p17 lo hi=u at *;refine gg ?_;have q0326:=(q15.trans q17).trans q26;have g:=dZ g q0326 dcd dcd dcd;refine Jn.by (λvals w'=>vals=[]/\QT B M pb w26 (if u.2.2.e==0&&decide (((f:Nat):Int)>4)&&!((Go.M.rowAt u.2.2.rows (f:Nat)).nums.contains u.1)then aK u.2.2 8 u.2.1 else u.2.2) w') (λJ2 hJ2=>?_) ?_
    .obtain⟨x26,hx26⟩:=id t26;have hp26:=hx26.hp;unfold aN at hp26;cases he2:u.2.2.e==0 with
     |false=>
      rw[he2]at hJ2;refine gg ?_;exact hJ2 _ _ ⟨rfl,by rw[Bool.false_and,Bool.false_and,if_neg smp];exact⟨t26,Qk.refl _ _⟩⟩
     |true=>
      cases h4:decide (((f:Nat):Int)>4)with
      |false=>
       rw[he2,h4]at hJ2;refine gg ?_;exact hJ2 _ _ ⟨rfl,by rw[Bool.true_and,Bool.false_and,if_neg smp];exact⟨t26,Qk.refl _ _⟩⟩
      |true=>
       rw[he2,h4,Bool.true_and,Bool.true_and]at hJ2;have hf':f<u.2.2.rows.length:=by rw[b26.rows];exact hf
       obtain⟨b1,nZ,cap1,nv,pv,ho1,hv1,hb1,hin,_,hc1⟩:=EK hx26 (pX hf');have c3:=hc1 3 _ rfl;have hmem:Go.M.rowAt u.2.2.rows (f:Nat)∈p.rows:=by
        have:=List.mem_of_getElem? (pX hf')
        rwa [b26.rows]at this ⊢
       have few:=(hv.rows _ hmem).few.1;generalize Go.M.rowAt u.2.2.rows (f:Nat)=r at *;rw[hv1]at hp26;obtain⟨on,gn,_⟩:=hin;refine gg ?_;refine Cl.ret (U5 gn u.1 omg) ?_;rintro _ w50 ⟨rfl,rfl⟩;refine .s ?_;cases hc:r.nums.contains u.1 with
       |true=>
        refine .f ?_;exact hJ2 _ _ ⟨rfl,by rw[hc,if_neg smp];exact⟨t26,Qk.refl _ _⟩⟩
       |false=>
        refine .t ?_;refine Cl.ret (kZ t26 8 u.2.1) ?_;rintro _ w53 ⟨rfl,t53⟩;exact hJ2 _ _ ⟨rfl,by rw[hc,if_pos (by rfl)];exact t53⟩
    .rintro _ w54 jk3 ⟨rfl,t54,q54⟩;have b54:Sb p (if u.2.2.e==0&&decide (((f:Nat):Int)>4)&&!((Go.M.rowAt u.2.2.rows (f:Nat)).nums.contains u.1)then aK u.2.2 8 u.2.1 else u.2.2):=by
      split
      .exact b26.trans (gm _ _ _)
      .exact b26
     have f54:Fs p15 (if u.2.2.e==0&&decide (((f:Nat):Int)>4)&&!((Go.M.rowAt u.2.2.rows (f:Nat)).nums.contains u.1)then aK u.2.2 8 u.2.1 else u.2.2):=by
      split
      .exact f26.trans (jf _ _ _)
      .exact f26
     generalize (if u.2.2.e==0&&decide (((f:Nat):Int)>4)&&!((Go.M.rowAt u.2.2.rows (f:Nat)).nums.contains u.1)then aK u.2.2 8 u.2.1 else u.2.2)=p54 at *;have g:=dZ g q54 dcd dcd dcd;refine Cl.ret (U5 g u.1 omg) ?_;rintro _ w57 ⟨rfl,rfl⟩;refine Jn.by (λvals w'=>vals=[]/\QT B M pb w57 (if p54.e==0&&nums.contains u.1 then aK p54 6 u.2.1 else p54) w') (λJ2 hJ2=>?_) ?_
     .obtain⟨x54,hx54⟩:=id t54;have hp54:=hx54.hp;unfold aN at hp54;refine gg ?_;refine Oo ?_;cases hb:(p54.e==0&&nums.contains u.1)with
      |true=>
       refine .t ?_;refine Cl.ret (kZ t54 6 u.2.1) ?_;rintro _ w55 ⟨rfl,t55⟩;refine hJ2 _ _ ⟨rfl,?_⟩;rw[hb,if_pos rfl];exact t55
      |false=>
       refine .f ?_;refine hJ2 _ _ ⟨rfl,?_⟩;rw[hb,if_neg smp];exact⟨t54,Qk.refl _ _⟩
     .rintro _ w69 jk4 ⟨rfl,t69,q69⟩;have b69:Sb p (if p54.e==0&&nums.contains u.1 then aK p54 6 u.2.1 else p54):=by
       split
       .exact b54.trans (gm _ _ _)
       .exact b54
      have f69:Fs p15 (if p54.e==0&&nums.contains u.1 then aK p54 6 u.2.1 else p54):=by
       split
       .exact f54.trans (jf _ _ _)
       .exact f54
      generalize (if p54.e==0&&nums.contains u.1 then aK p54 6 u.2.1 else p54)=p69 at *;refine Cl.ret (dM t69 4 [58]) ?_;rintro _ w72 ⟨rfl,t72,q72⟩;have b72:=b69.trans (aT p69 4 [58]);have f72:=f69.trans (ay p69 4 [58]);generalize af p69 4 [58]=p72 at *;have g:=dZ g (q69.trans q72) dcd dcd dcd;have q072:Qe o B w w72:=q03.trans (o':=none) (Qe.of (((q0326.trans q54).trans q69).trans q72)) λi e=>by cases e
      refine Ag (n:=u.1) g omg ?_;intro v2 w76 o2 g76 mv76 k76;have t76:=t72.loc g dcd dcd dcd hM' k76;have q076:Qe o B w w76:=q072.trans (Qe.own k76) mv;have mv2:Mv w o o2:=mv.trans mv76 q072.size;refine Cl.ret (oN u.1 vn) ?_;rintro _ w78 ⟨rfl,k78⟩;have g78:=g76.kp k78 (λ_ _=>trivial);have t78:=t76.ext k78;have Za:Qe o B w w78:=q076.trans (o':=none) (Qe.of (Qk.kp k78)) λi e=>by cases e
      have il:=nC vn;refine Bs.a (a:=out) (b:=[99,97,115,101,32]) ?_ lng;refine Bs.a (a:=out++[99,97,115,101,32]) (b:=nI_ u.1) ?_ (by unfold nI_;simp only[List.length_append,List.length_cons,List.length_nil];omega);refine Bs.a (a:=out++[99,97,115,101,32]++nI_ u.1) (b:=[58,32]) ?_ (by unfold nI_;simp only[List.length_append,List.length_cons,List.length_nil];omega);have ol2:(out++[99,97,115,101,32]++nI_ u.1++[58,32]).length<=out.length+18:=by unfold nI_;simp only[List.length_append,List.length_cons,List.length_nil];omega
      generalize (out++[99,97,115,101,32]++nI_ u.1++[58,32])=qL at *;have ln2:(nums++[u.1]).length=nums.length+1:=by simp
      refine Cl.ret (rF t78 2 [99,97,115,101]) ?_;rintro _ w83 ⟨rfl,rfl⟩;refine .s ?_;cases hi2:is_ p72 2 [99,97,115,101]with
      |false=>
       rw[hi2,if_neg smp]at hx;refine .t ?_;exact hJ _ _ ⟨nums++[u.1],qL,_,_,_,_,p72,rfl,hx,t78,Za,g78,mv2,omg⟩
      |true=>
       rw[hi2,if_pos rfl]at hx;refine .f ?_;have hlt:nums.length<12:=by
        rcases Nat.lt_or_ge nums.length 12 with hh|hh
        .exact hh
        .have:=f72.ne (hit hh);unfold is_ at hi2;rw[Bool.and_eq_true,Bool.and_eq_true]at hi2;exact absurd (by simpa using hi2.1.1) this
       exact hC k _ _ omg ⟨nums++[u.1],qL,_,_,_,_,p72,rfl,omg,Or.inl omg,omg,hx,t78,Za,g78,mv2,b72⟩
 .rintro _ w89 jk ⟨nums,out,v',o',u1,u2,q,rfl,rfl,t,qe,g,mv,hol⟩;refine .s ?_;exact hR _ _ ⟨v',o',rfl,t,qe,g,mv,hol⟩
end
end Go.W.T
namespace Go.W.T
open Go Go.W Go.M Go.Proofs
section
variable {B M pb:Nat} {w:World} {p:RS}
theorem YE(h:Sz p n)(l:List By):Sz (jc p l).2.2.2 (n+2)/\(jc p l).2.1.length<=2*p.txt.length+40/\(jc p l).2.2.1.length<=l.length+1:=by
 unfold jc;split
 .exact⟨(dJ (jJ h) 4 [59]).mono omg,lng,by simp only;omega⟩
 .obtain⟨s1,l1,l2,l3⟩:=Nr h l false;simp only;refine⟨dJ s1 4 [59],?_,?_⟩
  .exact lng
  .exact lng
theorem QSG.ok'(h:QS B M pb w p):Ok p:=by
 obtain⟨x,h⟩:=h;exact h.ok
theorem Vz(h:w.heap[b]?=some (cl [u] e)):Gw w e 1 (.slice (some ⟨b,0,none⟩) 1 1) 1 [u] (some b):=⟨rfl,[],1,rfl,by simpa using h,rfl⟩
theorem abv(h:QS B M pb w p)(hv:Nv p)(hs:Sz p n)(hn:n<=90000):Calls P 79 #[pt pb 0] w (Ret λv w'=>v=.tuple #[]/\QU B pb w (mQ p) w'/\Sz (mQ p) (n+150)):=by
 refine Ret.R λR hR=>?_;refine cf [6,7,8,9,14] Tryz.func79 ?_;have hR:∀w',QU B pb w (mQ p) w'/\Sz (mQ p) (n+150)->R (.returned (.tuple #[])) w':=λw' t=>hR _ _ ⟨rfl,t⟩;unfold mQ at hR;simp only at hR;have h:=h.up;refine Cl.ret (dM h 2 [117,110,105,111,110]) ?_;rintro _ w2 ⟨rfl,t2,q2⟩;have s2:=dJ hs 2 [117,110,105,111,110];have v2:=(aU hv 2 [117,110,105,111,110]).nv;generalize af p 2 [117,110,105,111,110]=p2 at *;refine Cl.ret (rQ t2 2 (by have:=s2.names;omega)) ?_;rintro _ w4 ⟨rfl,t4,q4⟩;obtain⟨s4,l4⟩:=pW s2 2;have v4:=(jF v2).nv;have tl:=s2.tl;generalize az p2 2=d at *;unfold aA;refine gJ ?_;refine Cl.w (λw12=>Kp [] w4 w12/\w12.heap[w4.heap.size]?=some (cl (aA d.1) 110)) ⟨kpA,by unfold aA;exact lookA⟩ ?_;rintro w7 ⟨k7,n5⟩;refine Cl.ret (dM (t4.ext k7) 2 [115,119,105,116,99,104]) ?_;rintro _ w9 ⟨rfl,t9,q9⟩;have n5:=q9.ld n5;have s9:=dJ s4 2 [115,119,105,116,99,104];have v9:=(aU v4 2 [115,119,105,116,99,104]).nv;generalize af d.2 2 [115,119,105,116,99,104]=p9 at *;refine Cl.ret (dM t9 4 [40]) ?_;rintro _ w11 ⟨rfl,t11,q11⟩;have n5:=q11.ld n5;have s11:=dJ s9 4 [40];have v11:=(aU v9 4 [40]).nv;generalize af p9 4 [40]=p11 at *;refine Cl.ret (TJ t11 v11 (by have:=s11.names;omega)) ?_;rintro _ w13 ⟨rfl,t13,q13⟩;have n5:=q13.ld n5;have s13:=s11.sb (EI p11) t13.ok';obtain⟨g13,r13⟩:=EO v11;have v13:=g13.nv;clear g13;have nl:=TV p11;have wl:=s11.ok.len;have tl11:=s11.tl;generalize dP p11=y at *;obtain⟨y1,ys,yp⟩:=y;simp only at s13 v13 r13 nl t13 hR;obtain⟨r0,r1⟩:=r13;obtain⟨f,rfl⟩:∃f:Nat,y1=(f:Int):=⟨y1.toNat,omg⟩;refine gJ ?_;refine Cl.ret (TG t13) ?_;rintro _ w17 ⟨rfl,t17,q17⟩;have n5:=q17.ld n5;have s17:=UR s13;have b17:=uy yp;have v17:=(GY v13).nv;have ml:=Hy s13.ok;have tl13:=s13.tl;generalize fD yp=mm at *;have q0_17:=((((((q2.trans q4).trans (Qk.kp k7)).trans q9).trans q11).trans q13).trans q17);unfold aA;refine gJ ?_;have l5:=lt_of_heap n5;refine Cl.w (λw12=>Kp [] w17 w12/\w12.heap[w17.heap.size]?=some (cl (aA mm.1) 110)) ⟨kpA,by unfold aA;exact lookA⟩ ?_;rintro w20 ⟨k20,n18⟩;have n5:=(k20.same _ l5 trivial).trans n5;refine Cl.ret (dM (t17.ext k20) 4 [41]) ?_;rintro _ w22 ⟨rfl,t22,q22⟩;have s22:=dJ s17 4 [41];have b22:=b17.trans (aT mm.2 4 [41]);have v22:=(aU v17 4 [41]).nv;generalize af mm.2 4 [41]=p22 at *;refine Cl.ret (dM t22 4 [123]) ?_;rintro _ w24 ⟨rfl,t24,q24⟩;have s24:=dJ s22 4 [123];have b24:=b22.trans (aT p22 4 [123]);have v24:=(aU v22 4 [123]).nv;generalize af p22 4 [123]=p24 at *;have n5:=(q22.trans q24).ld n5;have n18:=(q22.trans q24).ld n18;have q024:Qk B w w24:=(q0_17.trans (Qk.kp k20)).trans (q22.trans q24);have z24:=q024.size;unfold aA at n5 n18;refine gJ ?_;refine Bs.a (a:=[117,110,105,111,110,32]) (b:=d.1.s) ?_ lng;refine Bs.a (a:=[117,110,105,111,110,32]++d.1.s) (b:=[32,115,119,105,116,99,104,32,40]) ?_ lng;refine Bs.a (a:=[117,110,105,111,110,32]++d.1.s++[32,115,119,105,116,99,104,32,40]) (b:=ys) ?_ lng;refine Bs.a (a:=[117,110,105,111,110,32]++d.1.s++[32,115,119,105,116,99,104,32,40]++ys) (b:=[32]) ?_ lng;refine gJ ?_;refine Bs.a (a:=[117,110,105,111,110,32]++d.1.s++[32,115,119,105,116,99,104,32,40]++ys++[32]) (b:=mm.1.s) ?_ lng;refine Bs.a (a:=[117,110,105,111,110,32]++d.1.s++[32,115,119,105,116,99,104,32,40]++ys++[32]++mm.1.s) (b:=[41,32,123,32]) ?_ lng;have ol:([117,110,105,111,110,32]++d.1.s++[32,115,119,105,116,99,104,32,40]++ys++[32]++mm.1.s++[41,32,123,32]).length<=3700:=by simp only[List.length_append,List.length_cons,List.length_nil];omega
 generalize ([117,110,105,111,110,32]++d.1.s++[32,115,119,105,116,99,104,32,40]++ys++[32]++mm.1.s++[41,32,123,32])=Dh at *;refine vI ?_;have k38:Kp [] w24 (w24.alloc (cl [κs mm.1.s] 9)):=by exact kpA
 have n37:(w24.alloc (cl [κs mm.1.s] 9)).heap[w24.heap.size]?=some (cl [κs mm.1.s] 9):=by exact lookA
 generalize w24.alloc (cl [κs mm.1.s] 9)=w38 at *;have g37:=Vz n37;have t38:=t24.ext k38;have hlw:w24.heap.size<w38.heap.size:=lt_of_heap n37;have hL0:∃L,aQ ((f:Nat):Int) 14 p24 [] [] [mm.1.s] Dh=L:=⟨_,rfl⟩;obtain⟨L,hL⟩:=hL0;rw[hL]at hR;refine Jn.by (λvals w'=>∃nums v1 o1 parts v2 o2 names v3 o3 out q,vals=[κs out,v1,v2,v3]/\L=(nums,parts,names,out,q)/\nums.length<=27/\parts.length<=27/\names.length<=40/\out.length<=90000/\Gw w' 3 1 v1 nums.length (ints nums) o1/\(∀b,o1=some b->w24.heap.size<=b)/\Gw w' 3 1 v2 parts.length (ints parts) o2/\(∀b,o2=some b->w24.heap.size<=b)/\Gw w' 9 1 v3 names.length (strs names) o3/\(∀b,o3=some b->w24.heap.size<=b)/\QS B w.heap.size pb w' q/\Qk B w24 w'/\Sz q (n+60)) (λJ hJ=>?_) ?_
 .refine Lp.nat (λm vals w'=>∃nums v1 o1 parts v2 o2 names v3 o3 out q,vals=[κs out,v1,v2,v3]/\14<=m+nums.length/\(nums.length<=12\/nums.length<=27/\q.e≠0)/\parts.length<=nums.length/\names.length<=nums.length+1/\out.length<=3700+2800*nums.length/\L=aQ ((f:Nat):Int) m q nums parts names out/\Gw w' 3 1 v1 nums.length (ints nums) o1/\(∀b,o1=some b->w24.heap.size<=b)/\Gw w' 3 1 v2 parts.length (ints parts) o2/\(∀b,o2=some b->w24.heap.size<=b)/\Gw w' 9 1 v3 names.length (strs names) o3/\(∀b,o3=some b->w24.heap.size<=b)/\(∀b,o2=some b->o1≠some b)/\QS B w.heap.size pb w' q/\Qk B w24 w'/\Sz q (n+1+2*nums.length)/\Nv q/\f<q.rows.length) (n:=14) ⟨[],_,_,[],_,_,[mm.1.s],_,_,Dh,p24,rfl,smp,Or.inl smp,smp,smp,by simpa using ol,hL.symm,Gw.nil _ _ _,(λb hb=>by cases hb),Gw.nil _ _ _,(λb hb=>by cases hb),g37,(λb hb=>by cases hb;exact Nat.le_refl _),(λb hb=>by cases hb),t38,Qk.kp k38,s24.mono smp,v24,by rw[b24.rows];omega⟩ ?_;rintro m _ w41 jk C ⟨nums,v1,o1,parts,v2,o2,names,v3,o3,out,q,rfl,hm,hnl,hpl,hnn,hol,hx,g1,ho1,g2,ho2,g3,ho3,hap,t,k41,sq,vq,hfr⟩ hC;have z41:=k41.size;obtain⟨va1,vc1,rfl⟩:=g1.len;obtain⟨va2,vc2,rfl⟩:=g2.len;obtain⟨va3,vc3,rfl⟩:=g3.len;obtain⟨x,hx41⟩:=id t;have hp:=hx41.hp;unfold aN at hp;refine nO ?_;refine .s ?_;cases he:q.e==0 with
  |false=>
   refine .f ?_;refine hJ _ _ ⟨nums,_,o1,parts,_,o2,names,_,o3,out,q,rfl,?_,omg,omg,omg,omg,g1,ho1,g2,ho2,g3,ho3,t,k41,sq.mono omg⟩;rw[hx];cases m with
   |zero=>rfl
   |succ m=>rw[aQ,if_neg (by rw[he];simp)]
  |true=>
   have Oe:nums.length<=12:=by
    rcases hnl with hh|⟨_,hh⟩
    .exact hh
    .exact absurd (by simpa using he) hh
   obtain⟨k,rfl⟩:∃k,m=k+1:=⟨m - 1,omg⟩;rw[aQ,if_pos he]at hx;simp only at hx;refine .t ?_;refine Cl.ret (abB t g1 (λb hb=>by have:=ho1 b hb;omega) omg omg hfr vq (by have:=sq.names;omega)) ?_;rintro _ w52 ⟨v1',o1',rfl,t52,q52,g1,mv1,lo1⟩;have few:=XH q ((f:Nat):Int) nums Oe;have more:=Uu q ((f:Nat):Int) nums (by simpa using he);have len26:(gG q ((f:Nat):Int) nums).1.length<=nums.length+14:=vz _ 14 q nums [];have b52:Sb q (gG q ((f:Nat):Int) nums).2.2:=oK _ 14 q nums [];have v52:=(Qp vq ((f:Nat):Int) nums).nv;generalize gG q ((f:Nat):Int) nums=c at *;have s52:=sq.sb b52 t52.ok';have z52:=q52.size;have g2':=q52.gw g2 dcd dcd dcd hap;have g3':=q52.gw g3 dcd dcd dcd (lN g3 (show Gw w41 3 1 (.slice va1 nums.length vc1) nums.length (ints nums) o1 by assumption) dcd);have hap':∀b,o2=some b->o1'≠some b:=λb hb e=>(mv1 b e).elim (hap b hb) λhge=>by have:=g2.lt b hb;omega
   have k52:=q52.qk k41 ho1;have ho1:=mv1.geN ho1 z41;refine gJ ?_;refine Cl.ret (q_arm t52 g3' (λb hb=>by have:=ho3 b hb;omega) omg s52 omg) ?_;rintro _ w56 ⟨v3',o3',rfl,t56,q56,g3n,mv3⟩;obtain⟨s56,al,nl2⟩:=YE s52 names;have tl52:=s52.tl;obtain⟨gv,_⟩:=Jf v52 names;have fa:=Ot c.2.2 names;generalize jc c.2.2 names=a at *;have v56:=gv.nv;have r56:=gv.le;rw[b52.rows]at r56;have g1:=q56.gw g1 dcd dcd dcd (lN g1 g3' dcd);have g2:=q56.gw g2' dcd dcd dcd (lN g2' g3' dcd);have k56:=q56.qk k52 ho3;have ho3:=mv3.geN ho3 k52.size;refine vI ?_;obtain⟨wa1,wc1,rfl⟩:=g1.len;refine Lp.nat (λm2 vals w'=>∃j v o,vals=[v]/\j+m2=c.1.length - parts.length/\Gw w' 3 1 v (parts++List.replicate j a.1).length (ints (parts++List.replicate j a.1)) o/\(∀b,o=some b->w24.heap.size<=b)/\(∀b,o=some b->o1'≠some b)/\Gw w' 3 1 (.slice wa1 c.1.length wc1) c.1.length (ints c.1) o1'/\Gw w' 9 1 v3' a.2.2.1.length (strs a.2.2.1) o3'/\QS B w.heap.size pb w' a.2.2.2/\Qk B w24 w') (n:=c.1.length - parts.length) ⟨0,_,o2,rfl,omg,by simpa using g2,ho2,hap',g1,g3n,t56,k56⟩ ?_;clear g2 g1 t56 k56 ho2 hap';rintro m2 _ w61 jk2 C2 ⟨j,v,o,rfl,hj,g2,ho2,hap,g1,g3,t,k61⟩ hC2;have z61:=k61.size;obtain⟨va,vc,rfl⟩:=g2.len;have plen:(parts++List.replicate j a.1).length=parts.length+j:=by simp
   refine .s ?_;refine .t ?_;refine .t ?_;refine .s ?_;refine .split (λhh=>?_) (λhh=>?_)
   .have hlt:=of_decide_eq_true hh;refine Ag (n:=a.1) g2 omg ?_;intro v' w70 o' g70 mv70 k70;rw[List.append_assoc,<- List.replicate_succ']at g70;exact hC2 (m2 - 1) _ _ omg ⟨j+1,v',o',rfl,omg,g70,mv70.geN ho2 z61,(λb hb=>(mv70 b hb).elim (hap b) λhge e=>by have:=g1.lt b e;omega),g1.kp k70 (λb hb=>aF λe=>hap b e hb),bP g3 g2 dcd k70,t.loc g2 dcd dcd dcd (λb hb=>by have:=ho2 b hb;omega) k70,k61.I4 k70 ho2⟩
   .have hge:=of_decide_eq_false hh;obtain rfl:j=c.1.length - parts.length:=omg;refine Bs.a (a:=out) (b:=c.2.1) ?_ omg;refine Bs.a (a:=out++c.2.1) (b:=a.2.1) ?_ (by simp only[List.length_append];omega);have ol2:(out++c.2.1++a.2.1).length<=3700+2800*nums.length+2800:=by simp only[List.length_append];omega
    generalize (out++c.2.1++a.2.1)=qL at *;generalize (parts++List.replicate (c.1.length - parts.length) a.1)=Zd at *;refine Cl.ret (rF t 2 [99,97,115,101]) ?_;rintro _ w74 ⟨rfl,rfl⟩;refine .s ?_;cases hi:is_ a.2.2.2 2 [99,97,115,101]with
    |false=>
     rw[hi,if_neg smp]at hx;refine .t ?_;exact hJ _ _ ⟨c.1,_,o1',Zd,_,o,a.2.2.1,_,o3',qL,a.2.2.2,rfl,hx,omg,omg,omg,omg,g1,ho1,g2,ho2,g3,ho3,t,k61,s56.mono omg⟩
    |true=>
     rw[hi,if_pos rfl]at hx;refine .f ?_;have hce:c.2.2.e=0:=by
      rcases Decidable.em (c.2.2.e=0)with hh|hh
      .exact hh
      .exact absurd (is_e hi) (fa.ne hh)
     have few:=few hce;exact hC k _ _ omg ⟨c.1,_,o1',Zd,_,o,a.2.2.1,_,o3',qL,a.2.2.2,rfl,omg,Or.inl few,omg,omg,omg,hx,g1,ho1,g2,ho2,g3,ho3,hap,t,k61,s56.mono omg,v56,omg⟩
 .rintro _ w80 jk ⟨nums,v1,o1,parts,v2,o2,names,v3,o3,out,q,rfl,rfl,hl1,hl2,hl3,hol,g1,ho1,g2,ho2,g3,ho3,t,k80,sq⟩;simp only at hR;refine .s ?_;obtain⟨va1,vc1,rfl⟩:=g1.len;obtain⟨va2,vc2,rfl⟩:=g2.len;refine Cl.ret (rF t 2 [100,101,102,97,117,108,116]) ?_;rintro _ w83 ⟨rfl,rfl⟩;refine Jn.by (λvals w'=>∃qL v3' els q2,vals=[κs qL,v3',.int .i64 els]/\(if is_ q 2 [100,101,102,97,117,108,116]then((jc (af (aB q) 4 [58]) names).1,out++([100,101,102,97,117,108,116,58,32]++(jc (af (aB q) 4 [58]) names).2.1),(jc (af (aB q) 4 [58]) names).2.2.2)else(-2,out,q):Int×By×RS)=(els,qL,q2)/\QS B w.heap.size pb w' q2/\Qk B w24 w'/\Sz q2 (n+62)/\Gw w' 3 1 (.slice va1 nums.length vc1) nums.length (ints nums) o1/\Gw w' 3 1 (.slice va2 parts.length vc2) parts.length (ints parts) o2/\qL.length<=100000) (λJ hJ=>?_) ?_
  .cases hd:is_ q 2 [100,101,102,97,117,108,116]with
   |false=>
    refine .f ?_;exact hJ _ _ ⟨out,_,-2,q,rfl,by rw[hd,if_neg smp],t,k80,sq.mono omg,g1,g2,omg⟩
   |true=>
    refine .t ?_;refine Cl.ret (jh t) ?_;rintro _ w86 ⟨rfl,t86,q86⟩;have s86:=jJ sq;generalize hn1:aB q=p86 at *;refine Cl.ret (dM t86 4 [58]) ?_;rintro _ w88 ⟨rfl,t88,q88⟩;have s88:=dJ s86 4 [58];generalize hn2:af p86 4 [58]=p88 at *;have g1:=dZ g1 (q86.trans q88) dcd dcd dcd;have g2:=dZ g2 (q86.trans q88) dcd dcd dcd;have g3:=dZ g3 (q86.trans q88) dcd dcd dcd;have k88:=k80.trans (q86.trans q88);have z88:=k88.size;refine Cl.ret (q_arm t88 g3 (λb hb=>by have:=ho3 b hb;omega) omg s88 omg) ?_;rintro _ w90 ⟨v3',o3',rfl,t90,q90,g3n,mv3⟩;obtain⟨s90,al,nl2⟩:=YE s88 names;have tl88:=s88.tl;generalize hn3:jc p88 names=a at *;have g1:=q90.gw g1 dcd dcd dcd (lN g1 g3 dcd);have g2:=q90.gw g2 dcd dcd dcd (lN g2 g3 dcd);have k90:=q90.qk k88 ho3;refine vI ?_;refine Bs.a (a:=out) (b:=[100,101,102,97,117,108,116,58,32]) ?_ lng;refine Bs.a (a:=out++[100,101,102,97,117,108,116,58,32]) (b:=a.2.1) ?_ lng;exact hJ _ _ ⟨out++[100,101,102,97,117,108,116,58,32]++a.2.1,_,a.1,a.2.2.2,rfl,by rw[hd,if_pos rfl];exact congrArg (λz=>(a.1,z,a.2.2.2)) (List.append_assoc out [100,101,102,97,117,108,116,58,32] a.2.1).symm,t90,k90,s90,g1,g2,lng⟩
  .rintro _ w99 jk2 ⟨qL,v3',els,q2,rfl,hy,t,k99,s99,g1,g2,hol2⟩;rw[hy]at hR;simp only at hR;have q099:=q024.trans k99;have n5:=k99.ld n5;have iI1:Lc w.heap.size w99.heap.size w99 (.slice va1 nums.length vc1) nums:=⟨o1,g1,λb hb=>⟨by have:=ho1 b hb;omega,g1.lt b hb⟩⟩;have iI2:Lc w.heap.size w99.heap.size w99 (.slice va2 parts.length vc2) parts:=⟨o2,g2,λb hb=>⟨by have:=ho2 b hb;omega,g2.lt b hb⟩⟩;refine .s ?_;refine Cl.ret (dM t 4 [125]) ?_;rintro _ w102 ⟨rfl,t102,q102⟩;have s102:=dJ s99 4 [125];generalize af q2 4 [125]=p102 at *;refine Cl.ret (dM t102 4 [59]) ?_;rintro _ w104 ⟨rfl,t104,q104⟩;have s104:=dJ s102 4 [59];generalize af p102 4 [59]=p104 at *;have iI1:=iI1.kt (q102.trans q104);have iI2:=iI2.kt (q102.trans q104);have n5:=(q102.trans q104).ld n5;refine .s ?_;refine Cl.ret (Ar (r:={ row0 with kind:=13,of:=(f:Nat),nums:=nums,parts:=parts,els:=els }) t104 (by have:=s104.rows;omega) iI1 iI2 (by have:=q099.size;omega)) ?_;rintro _ w107 ⟨rfl,t107,q107⟩;have s107:=wJ s104 { row0 with kind:=13,of:=(f:Nat),nums:=nums,parts:=parts,els:=els };have n5:=q107.ld n5;generalize dh p104 { row0 with kind:=13,of:=(f:Nat),nums:=nums,parts:=parts,els:=els }=r at *;refine gJ ?_;refine Cl.ret (NL t107 d.1.s r.1 (by have:=s107.names;omega)) ?_;rintro _ w111 ⟨rfl,t111,q111⟩;have TA:=Ik s107 d.1.s r.1;generalize dI r.2 d.1.s r.1=p111 at *;have q0111:=(((q099.trans q102).trans q104).trans q107).trans q111;have oz:=TA.out;obtain⟨VZ,hx111⟩:=t111;have hp111:=hx111.hp;unfold aN at hp111;have hl111:=lt_of_heap hp111;refine nO ?_;refine Bs.a (a:=p111.out) (b:=qL) ?_ omg;refine Bs.a (a:=p111.out++qL) (b:=[125,59,10]) ?_ lng;refine gg ?_;refine hx111.fin (R:=R) (p':={ p111 with out:=p111.out++qL++[125,59,10] }) (λw' t=>hR w' ⟨⟨t.1.up,q0111.trans t.2⟩,(ED TA (m:=11) lng).mono omg⟩) rfl rfl rfl rfl ⟨TA.ok.len,TA.ok.en0,TA.ok.en1,TA.ok.we⟩ TA.tl _ ?_ ?_
   .exact kpA
   .refine look_eq lookA ?_;rfl
end
end Go.W.T
namespace Go.W.T
open Go Go.W Go.M Go.Proofs
section
variable {B M pb:Nat} {w:World} {p:RS}
structure Qf (X:Nat->Prop) (B:Nat) (w w':World):Prop where
 os:w'.os=w.os
 tape:w'.tape=w.tape
 output:w'.output=w.output
 size:w.heap.size<=w'.heap.size
 low:∀b,b<B->b<w.heap.size->¬ X b->w'.heap[b]?=w.heap[b]?
 same:∀(b:Nat) (l:List Value) (t:TypeId),w.heap[b]?=some (cl l t)->t≠112->t≠115->t≠117->¬ X b->w'.heap[b]?=some (cl l t)
theorem Qf.of(k:Qk B w w'):Qf X B w w':=⟨k.os,k.tape,k.output,k.size,λb hb hs _=>k.low b hb hs,λb l t h h1 h2 h3 _=>k.same b l t h h1 h2 h3⟩
theorem Qf.ofe(k:Qe o B w w')(hX:∀b,o=some b->X b):Qf X B w w':=⟨k.os,k.tape,k.output,k.size,λb hb hs hn=>k.low b hb hs λe=>hn (hX b e),λb l t h h1 h2 h3 hn=>k.same b l t h h1 h2 h3 λe=>hn (hX b e)⟩
theorem Qf.trans(h:Qf X B a b)(k:Qf Y B b c)(hh:∀i,Y i->X i\/a.heap.size<=i):Qf X B a c:=
 ⟨k.os.trans h.os,k.tape.trans h.tape,k.output.trans h.output,Nat.le_trans h.size k.size,
  λi hi hs hn=>(k.low i hi (Nat.lt_of_lt_of_le hs h.size) λe=>(hh i e).elim hn omg).trans (h.low i hi hs hn),
  λi l t hi h1 h2 h3 hn=>k.same i l t (h.same i l t hi h1 h2 h3 hn) h1 h2 h3 λe=>(hh i e).elim hn (by have:=lt_of_heap hi;omega)⟩
theorem Qf.qk(h:Qk B w a)(k:Qf X B a c)(ho:∀b,X b->w.heap.size<=b):Qk B w c:=
 ⟨k.os.trans h.os,k.tape.trans h.tape,k.output.trans h.output,Nat.le_trans h.size k.size,
  λi hi hs=>(k.low i hi (Nat.lt_of_lt_of_le hs h.size) λe=>by have:=ho i e;omega).trans (h.low i hi hs),
  λi l t hi h1 h2 h3=>k.same i l t (h.same i l t hi h1 h2 h3) h1 h2 h3 λe=>by have:=ho i e;have:=lt_of_heap hi;omega⟩
theorem Qf.gw(k:Qf X B w w')(h:Gw w e m v n l o2)(h1:e≠112)(h2:e≠115)(h3:e≠117)(hn:∀b,o2=some b->¬ X b):Gw w' e m v n l o2:=by
 obtain⟨a,b⟩:=h;refine⟨a,?_⟩;cases o2 with
 |none=>exact b
 |some ob=>obtain⟨r,c,x,y,z⟩:=b;exact⟨r,c,x,k.same _ _ _ y h1 h2 h3 (hn ob rfl),z⟩
theorem xm(p:RS)(l:List Int) : -10000000000<(aI p l).2.1/\(aI p l).2.1<10000000000:=value_num (af p 4 [61]) (lo:=0) (hi:=4294967295) omg omg
theorem UT(h:Sz p n):Sz (fV p).2.2 (n+1)/\(fV p).2.1.length<=p.txt.length+14:=by
 unfold fV;split
 .exact⟨(jJ h).mono omg,lng⟩
 .exact UU h
theorem F5(g:α->α):∀(l:List α) (i:Nat),i<l.length->((l.take i).map g++l.drop i).modify i g=(l.take (i+1)).map g++l.drop (i+1)
 |[],i,h=>by simp at h
 |a::l,0,h=>by simp
 |a::l,i+1,h=>by
  have ih:=F5 g l i (by simpa using h);simp only[List.take_succ_cons,List.drop_succ_cons,List.map_cons,List.cons_append,List.modify_succ_cons]at ih ⊢;rw[ih]
theorem NT(x:PcR):(pcV x).length=5:=rfl
theorem VA{j:Nat}{u:Int}{g:PcR->PcR}(hg:∀x,pcV (g x)=(pcV x).set j (.int .i64 u))(hj:j<5){v:Value}{l:List PcR}{o:Option Nat}{A:World->Prop}(g0:Gw w 287 5 v l.length (bU l) o)(hl:l.length<=1000)
  (hK:∀w',Gw w' 287 5 v l.length (bU (l.map g)) o->Kp (own o) w w'->A w'):
  Lp [.int .i64 0] w λjk vals w88 C89=>V1 vals λv90=>Ln false v λx91=>Bi .lss v90 x91 λx92=>If x92 (IaS 5 v v90 λx93=>Fa x93 j λx94=>St x94 (.int .i64 u) w88 λw95=>Bi .add v90 (.int .i64 1) λx96=>C89 [x96] w95) (A w88):=by
 obtain⟨va,vc,rfl⟩:=g0.len;refine Lp.nat (λm vals w'=>∃i:Nat,m+i=l.length/\vals=[i64 i]/\Gw w' 287 5 (.slice va l.length vc) l.length (bU ((l.take i).map g++l.drop i)) o/\Kp (own o) w w') (n:=l.length) ⟨0,omg,rfl,by simpa using g0,Kp.refl _ _⟩ ?_;rintro m _ w88 jk C ⟨i,hi,rfl,gi,ki⟩ hC;refine gg ?_;refine .split (λhh=>?_) (λhh=>?_)
 .have hlt:i<l.length:=by have:=of_decide_eq_true hh;omega
  obtain⟨b,rest,cap,rfl,hv,hb⟩:=Gw.some gi omg;cases hv;have hl2:((l.take i).map g++l.drop i).length=l.length:=by simp only[List.length_append,List.length_map,List.length_take,List.length_drop];omega
  have hcl:(bU ((l.take i).map g++l.drop i)).length=l.length*5:=by unfold bU;rw[vW NT,hl2]
  have hlt2:i*5+j<(bU ((l.take i).map g++l.drop i)).length:=by rw[hcl];omega
  have hset:(bU ((l.take i).map g++l.drop i)++rest).take (0+i*5+j)++[.int .i64 u]++(bU ((l.take i).map g++l.drop i)++rest).drop (0+i*5+j+1)=bU ((l.take (i+1)).map g++l.drop (i+1))++rest:=by
   rw[Nat.zero_add,CQ (by rw[List.length_append];omega),List.set_append_left _ _ hlt2];congr 1;have h1:=JB (f:=pcV) (m:=5) (j:=j) (v:=.int .i64 u) (g:=g) NT hj hg (l:=(l.take i).map g++l.drop i) (k:=i) omg;have h2:((l.take i).map g++l.drop i).modify i g=(l.take (i+1)).map g++l.drop (i+1):=F5 g l i hlt;unfold bU;rw[h1,h2]
  have hb2:=hb;have hbl:=lt_of_heap hb;refine gg ?_;refine St.s ?_ hb rfl (by rw[List.length_append];omega) hset;refine gg ?_;refine hC (m - 1) _ _ omg ⟨i+1,omg,smp,?_,?_⟩
  .have hcl2:(bU ((l.take (i+1)).map g++l.drop (i+1))).length=l.length*5:=by
    unfold bU;rw[vW NT];congr 1;simp only[List.length_append,List.length_map,List.length_take,List.length_drop];omega
   obtain⟨e1,rest',cap',e2,e3,e4⟩:=gi;cases e2;have hr:rest'=rest:=by
    rw[hb]at e3;simp only[cl,Option.some.injEq,Obj.cells.injEq,and_true,true_and,List.toArray_inj]at e3;exact(List.append_cancel_left (congrArg Array.toList e3)).symm
   subst hr;exact⟨hcl2,rest',_,rfl,lookA,by rw[hcl2,<- hcl];exact e4⟩
  .exact Kp.viaX (Y:=own (some b)) (Kp.yS (Kp.refl _ _) (by simp only[own,Out,and_true];omega) _) (λ_ _ h=>h) ki
 .have hge:¬ i<l.length:=by have:=of_decide_eq_false hh;omega
  rw[List.drop_eq_nil_of_le omg,List.take_of_length_le omg,List.append_nil]at gi;exact hK _ gi ki
theorem WW{v1 v2:Value}{names:List By}{nums:List Int}{o1 o2:Option Nat}(h:QS B M pb w p)(g1:Gw w 9 1 v1 names.length (strs names) o1)(ho1:∀b,o1=some b->M<=b)(g2:Gw w 3 1 v2 nums.length (ints nums) o2)(ho2:∀b,o2=some b->M<=b)(hMs:M<=w.heap.size)(hl1:names.length<=100)(hl2:nums.length<=100){n:Nat}(hs:Sz p n)(hn:n<=90000):
  Calls P 125 #[pt pb 0,v1,v2] w (Ret λr w'=>∃v1' o1' v2' o2' v3 o3,r=.tuple #[v1',v2',v3,κs (aZ p names nums).2.2.2.1]/\QS B M pb w' (aZ p names nums).2.2.2.2/\Qf (λb=>o1=some b\/o2=some b) B w w'/\Gw w' 9 1 v1' (aZ p names nums).1.length (strs (aZ p names nums).1) o1'/\Mv w o1 o1'/\Gw w' 3 1 v2' (aZ p names nums).2.1.length (ints (aZ p names nums).2.1) o2'/\Mv w o2 o2'/\Gw w' 287 5 v3 (aZ p names nums).2.2.1.length (bU (aZ p names nums).2.2.1) o3/\Sz (aZ p names nums).2.2.2.2 (n+30)/\(aZ p names nums).2.2.2.1.length<=60000/\(aZ p names nums).2.2.1.length<=10):=by
 refine Ret.R λR hR=>?_;refine cf [11,12,13,14,24] Tryz.func125 ?_;unfold aZ at hR;simp only at hR;refine Cl.ret (dM h 2 [118,101,114,115,105,111,110]) ?_;rintro _ w2 ⟨rfl,t2,q2⟩;have s2:=dJ hs 2 [118,101,114,115,105,111,110];generalize af p 2 [118,101,114,115,105,111,110]=p2 at *;have g1:=dZ g1 q2 dcd dcd dcd;have g2:=dZ g2 q2 dcd dcd dcd;refine Cl.ret (U6 t2 g1 ho1 omg (by have:=s2.names;omega)) ?_;rintro _ w4 ⟨v1',o1',rfl,t4,q4,g1n,mv1⟩;have s4:Sz (dO p2 names).2.2 n:=Cc s2 names false;have ml:(dO p2 names).2.1.s.length<=p2.txt.length:=yP s2.ok names false;have tl2:=s2.tl;have g2:=q4.gw g2 dcd dcd dcd (lN g2 g1 dcd);generalize dO p2 names=d at *;have z2:=q2.size;have z4:=q4.size;have mv1:Mv w o1 o1':=(Mv.refl w o1).trans mv1 z2;have q04:Qf (λb=>o1=some b\/o2=some b) B w w4:=(Qf.of q2).trans (Y:=λb=>o1=some b\/o2=some b) (Qf.ofe q4 λb hb=>Or.inl hb) λi hi=>Or.inl hi;refine gJ ?_;unfold aA;refine gJ ?_;refine Cl.w (λw12=>Kp [] w4 w12/\w12.heap[w4.heap.size]?=some (cl (aA d.2.1) 110)) ⟨kpA,by unfold aA;exact lookA⟩ ?_;rintro w9 ⟨k9,n7⟩;refine Cl.ret (dM (t4.ext k9) 4 [123]) ?_;rintro _ w11 ⟨rfl,t11,q11⟩;have n7:=q11.ld n7;have s11:=dJ s4 4 [123];generalize af d.2.2 4 [123]=p11 at *;have Y6:Qk B w4 w11:=(Qk.kp k9).trans q11;have g1n:=dZ g1n Y6 dcd dcd dcd;have g2:=dZ g2 Y6 dcd dcd dcd;have z11:=Y6.size;unfold aA at n7;refine gJ ?_;refine Bs.a (a:=[118,101,114,115,105,111,110,32]) (b:=d.2.1.s) ?_ lng;refine Bs.a (a:=[118,101,114,115,105,111,110,32]++d.2.1.s) (b:=[32,123,32]) ?_ lng;have ol:([118,101,114,115,105,111,110,32]++d.2.1.s++[32,123,32]).length<=1300:=by simp only[List.length_append,List.length_cons,List.length_nil];omega
 generalize ([118,101,114,115,105,111,110,32]++d.2.1.s++[32,123,32])=Dh at *;generalize hL:dw 10 p11 Dh [] [] []=L at *;refine Jn.by (λvals w'=>∃out l v o u1 u2 q,vals=[κs out,v,u1,u2]/\L=(q,out,l)/\l.length<=10/\out.length<=50000/\Gw w' 287 5 v l.length (bU l) o/\(∀b,o=some b->w11.heap.size<=b)/\QS B M pb w' q/\Qk B w11 w'/\Sz q (n+25)) (λJ hJ=>?_) ?_
 .refine Lp.nat (λm vals w'=>∃out l v o words u1 r1 ns u2 r2 q,vals=[κs out,v,u1,u2]/\m+l.length=10/\(l.length<=8\/l.length<=9/\q.e≠0)/\words.length=l.length/\ns.length=l.length/\out.length<=1300+5000*l.length/\L=dw m q out l words ns/\Gw w' 287 5 v l.length (bU l) o/\(∀b,o=some b->w11.heap.size<=b)/\Gw w' 9 1 u1 words.length (strs words) r1/\(∀b,r1=some b->w11.heap.size<=b)/\Gw w' 3 1 u2 ns.length (ints ns) r2/\(∀b,r2=some b->w11.heap.size<=b)/\QS B M pb w' q/\Qk B w11 w'/\Sz q (n+2*l.length)) (n:=10) ⟨Dh,[],_,_,[],_,_,[],_,_,p11,rfl,rfl,Or.inl smp,rfl,rfl,by simpa using ol,hL.symm,Gw.nil _ _ _,(λb hb=>by cases hb),Gw.nil _ _ _,(λb hb=>by cases hb),Gw.nil _ _ _,(λb hb=>by cases hb),t11,Qk.refl _ _,s11.mono smp⟩ ?_;rintro m _ w18 jk C ⟨out,l,v,o,words,u1,r1,ns,u2,r2,q,rfl,hm,hll,hlw,hln,hol,hx,g,ho,gw,hr1,gn,hr2,t,k18,sq⟩ hC;have z18:=k18.size;obtain⟨k,rfl⟩:∃k,m=k+1:=⟨m - 1,omg⟩;rw[dw]at hx;obtain⟨va,vc,rfl⟩:=g.len;obtain⟨x,hx18⟩:=id t;have hp:=hx18.hp;unfold aN at hp;refine nO ?_;refine .s ?_;cases he:q.e==0 with
  |false=>
   rw[he,if_neg smp]at hx;refine .f ?_;exact hJ _ _ ⟨out,l,_,o,_,_,q,rfl,hx,omg,omg,g,ho,t,k18,sq.mono omg⟩
  |true=>
   have hl8:l.length<=8:=by
    rcases hll with hh|⟨_,hh⟩
    .exact hh
    .exact absurd (by simpa using he) hh
   rw[he,if_pos rfl]at hx;simp only at hx;refine .t ?_;refine .t ?_;refine Cl.ret (wV t (l.length:Nat) 8) ?_;rintro _ w30 ⟨rfl,t30,q30⟩;have s30:=uw sq (l.length:Nat) 8;have hit:8<=l.length->(aG q (l.length:Nat) 8).e≠0:=λhh=>tH q omg;generalize aG q (l.length:Nat) 8=p30 at *;refine Cl.ret (Y2 t30 (by have:=s30.rows;omega)) ?_;rintro _ w32 ⟨rfl,t32,q32⟩;obtain⟨s32,sl32⟩:=UT s30;have tl30:=s30.tl;have f32:=oZ p30;generalize fV p30=r at *;have q1832:=q30.trans q32;have k32:=k18.trans q1832;refine nO ?_;refine .s ?_;refine Cl.w (λw12=>Kp [] w32 w12/\w12.heap[w32.heap.size]?=some (cl z6 110)) ⟨kpA,lookA⟩ ?_;rintro w38 ⟨k38,n36⟩;have l36:=lt_of_heap n36;have Y8:=q1832.trans (Qk.kp k38);have gw38:=dZ gw Y8 dcd dcd dcd;have gn:=dZ gn Y8 dcd dcd dcd;have g:=dZ g Y8 dcd dcd dcd;refine Cl.ret (U6 (t32.ext k38) gw38 (λb hb=>by have:=hr1 b hb;omega) omg (by have:=s32.names;omega)) ?_;rintro _ w40 ⟨u1',r1',rfl,t40,q40,gw40,mvw⟩;have s40:Sz (dO r.2.2 words).2.2 (n+2*l.length+1):=Cc s32 words false;have ml2:(dO r.2.2 words).2.1.s.length<=r.2.2.txt.length:=yP s32.ok words false;have lw2:(dO r.2.2 words).1.length=words.length+1:=by unfold dO;simp
   have f40:Fs p30 (dO r.2.2 words).2.2:=f32.trans (zg r.2.2 words);have tl32:=s32.tl;generalize dO r.2.2 words=mm at *;have gn:=q40.gw gn dcd dcd dcd (lN gn gw38 dcd);have g:=q40.gw g dcd dcd dcd (lN g gw38 dcd);have n36:=q40.ld n36 (fP gw38 n36 dcd);have l36:=lt_of_heap n36;have k40:=q40.qk (k32.trans (Qk.kp k38)) hr1;have hr1:=mvw.geN hr1 (k32.trans (Qk.kp k38)).size;unfold aA;refine vI ?_;refine Cl.w (λw43=>Kp [(w32.heap.size,w32.heap.size+1)] w40 w43/\w43.heap[w32.heap.size]?=some (cl (aA mm.2.1) 110)) ⟨kpA,by unfold aA;exact lookA⟩ ?_;rintro w43 ⟨k43,m36⟩;have t43:=t40.tmp n36 k43;have k43':Qk B w11 w43:=k40.tmp k43 k32.size;have gw43:=gw40.kp k43 λb hb=>⟨by have:b≠w32.heap.size:=λe=>fP gw40 n36 dcd (hb.trans (by rw[e]));omega,trivial⟩;have gn:=gn.kp k43 λb hb=>⟨by have:b≠w32.heap.size:=λe=>fP gn n36 dcd (hb.trans (by rw[e]));omega,trivial⟩;have g:=g.kp k43 λb hb=>⟨by have:b≠w32.heap.size:=λe=>fP g n36 dcd (hb.trans (by rw[e]));omega,trivial⟩;refine Cl.ret (dM t43 4 [40]) ?_;rintro _ w45 ⟨rfl,t45,q45⟩;have s45:=dJ s40 4 [40];have f45:=f40.trans (ay mm.2.2 4 [40]);generalize af mm.2.2 4 [40]=p45 at *;refine Cl.ret (Y2 t45 (by have:=s45.rows;omega)) ?_;rintro _ w47 ⟨rfl,t47,q47⟩;obtain⟨s47,sl47⟩:=UT s45;have tl45:=s45.tl;have f47:=f45.trans (oZ p45);generalize fV p45=a at *;refine gJ ?_;refine Cl.ret (dM t47 4 [41]) ?_;rintro _ w51 ⟨rfl,t51,q51⟩;have s51:=dJ s47 4 [41];have f51:=f47.trans (ay a.2.2 4 [41]);generalize af a.2.2 4 [41]=p51 at *;have Qa:=(q45.trans q47).trans q51;have gn:=dZ gn Qa dcd dcd dcd;have g:=dZ g Qa dcd dcd dcd;have gw51:=dZ gw43 Qa dcd dcd dcd;have m36:=Qa.ld m36;have k51:=k43'.trans Qa;refine Cl.ret (Bv t51 gn omg (by have:=s51.names;omega)) ?_;rintro _ w53 ⟨u2',r2',w52,rfl,⟨t52,q52⟩,gn52,kn,gn53,mvn⟩;have s52:Sz (aI p51 ns).2.2 (n+2*l.length+1+1):=s51.sb (lJ p51 ns) t52.ok';have f52:=f51.trans (gQ p51 ns);have nn:=xm p51 ns;have ln2:(aI p51 ns).1.length=ns.length+1:=by unfold aI;simp
   generalize aI p51 ns=nu at *;have k52:=k51.trans q52;have z52:=k52.size;have t53:=t52.loc gn52 dcd dcd dcd (λb hb=>by have:=hr2 b hb;omega) kn;have k53:=k52.I4 kn hr2;have g:=bP (dZ g q52 dcd dcd dcd) gn52 dcd kn;have gw53:=bP (dZ gw51 q52 dcd dcd dcd) gn52 dcd kn;have m36:=q52.ld m36;have m36:=(kn.same _ (lt_of_heap m36) (aF (fP gn52 m36 dcd))).trans m36;have hr2:=mvn.geN hr2 k52.size;refine gJ ?_;refine Cl.ret (oN nu.2.1 nn) ?_;rintro _ w57 ⟨rfl,k57⟩;have t57:=t53.ext k57;have k57':=k53.trans (Qk.kp k57);have g:=g.kp k57 λ_ _=>trivial;have gw57:=gw53.kp k57 λ_ _=>trivial;have gn57:=gn53.kp k57 λ_ _=>trivial;have m36:=(k57.same _ (lt_of_heap m36) trivial).trans m36;have il:=nC nn;refine .s ?_;refine app_pc (x:=⟨0,0,nu.2.1,a.1,r.1⟩) g omg ?_;intro v' w62 o' g62 mv62 k62;have t62:=t57.loc g dcd dcd dcd (λb hb=>by have:=ho b hb;omega) k62;have k62':=k57'.I4 k62 ho;have gw62:=bP gw57 g dcd k62;have gn62:=bP gn57 g dcd k62;have m36:=(k62.same _ (lt_of_heap m36) (aF (fP g m36 dcd))).trans m36;have ho:=mv62.geN ho k57'.size;unfold aA at m36;refine Bs.a (a:=out) (b:=r.2.1) ?_ omg;refine Bs.a (a:=out++r.2.1) (b:=[32]) ?_ lng;refine gJ ?_;refine Bs.a (a:=out++r.2.1++[32]) (b:=mm.2.1.s) ?_ lng;refine Bs.a (a:=out++r.2.1++[32]++mm.2.1.s) (b:=[40]) ?_ lng;refine Bs.a (a:=out++r.2.1++[32]++mm.2.1.s++[40]) (b:=a.2.1) ?_ lng;refine Bs.a (a:=out++r.2.1++[32]++mm.2.1.s++[40]++a.2.1) (b:=[41,32,61,32]) ?_ lng;refine Bs.a (a:=out++r.2.1++[32]++mm.2.1.s++[40]++a.2.1++[41,32,61,32]) (b:=nI_ nu.2.1) ?_ (by unfold nI_;simp only[List.length_append,List.length_cons,List.length_nil];omega);refine Bs.a (a:=out++r.2.1++[32]++mm.2.1.s++[40]++a.2.1++[41,32,61,32]++nI_ nu.2.1) (b:=[59,32]) ?_ (by unfold nI_;simp only[List.length_append,List.length_cons,List.length_nil];omega);have ol2:(out++r.2.1++[32]++mm.2.1.s++[40]++a.2.1++[41,32,61,32]++nI_ nu.2.1++[59,32]).length<=1300+5000*l.length+5000:=by unfold nI_;simp only[List.length_append,List.length_cons,List.length_nil];omega
   generalize (out++r.2.1++[32]++mm.2.1.s++[40]++a.2.1++[41,32,61,32]++nI_ nu.2.1++[59,32])=qL at *;have ll2:(l++[(⟨0,0,nu.2.1,a.1,r.1⟩:PcR)]).length=l.length+1:=by simp
   refine Cl.ret (rF t62 4 [125]) ?_;rintro _ w74 ⟨rfl,rfl⟩;cases hi:is_ nu.2.2 4 [125]with
   |true=>
    rw[hi,if_pos rfl]at hx;refine .t ?_;exact hJ _ _ ⟨qL,_,_,o',_,_,nu.2.2,rfl,hx,omg,omg,g62,ho,t62,k62',s52.mono omg⟩
   |false=>
    rw[hi,if_neg smp]at hx;refine .f ?_;refine hC k _ _ omg ⟨qL,_,_,o',mm.1,_,r1',nu.1,_,r2',nu.2.2,rfl,omg,?_,omg,omg,omg,hx,g62,ho,gw62,hr1,gn62,hr2,t62,k62',s52.mono omg⟩;rcases Nat.lt_or_ge l.length 8 with hh|hh
    .exact Or.inl omg
    .exact Or.inr ⟨omg,f52.ne (hit hh)⟩
 .rintro _ w79 jk ⟨out,l,v,o,u1,u2,q,rfl,rfl,hll,hol,g,ho,t,k79,sq⟩;simp only at hR;refine .s ?_;have q479:=Y6.trans k79;have g1n:=dZ g1n k79 dcd dcd dcd;have g2:=dZ g2 k79 dcd dcd dcd;refine Cl.ret (dM t 4 [125]) ?_;rintro _ w82 ⟨rfl,t82,q82⟩;have s82:=dJ sq 4 [125];generalize af q 4 [125]=p82 at *;have g1n:=dZ g1n q82 dcd dcd dcd;have g2:=dZ g2 q82 dcd dcd dcd;have g:=dZ g q82 dcd dcd dcd;refine Cl.ret (Bv t82 g2 omg (by have:=s82.names;omega)) ?_;rintro _ w84 ⟨v2',o2',w83,rfl,⟨t83,q83⟩,g2a,kn,g2n,mv2⟩;have s83:Sz (aI p82 nums).2.2 (n+25):=s82.sb (lJ p82 nums) t83.ok';have nn:=xm p82 nums;generalize aI p82 nums=nu at *;have t84:=t83.loc g2a dcd dcd dcd ho2 kn;have g1n:=bP (dZ g1n q83 dcd dcd dcd) g2a dcd kn;have g:=bP (dZ g q83 dcd dcd dcd) g2a dcd kn;have q483:Qk B w4 w83:=(q479.trans q82).trans q83;have q083:Qf (λb=>o1=some b\/o2=some b) B w w83:=q04.trans (Y:=λ_=>False) (Qf.of q483) λi hi=>hi.elim;have q084:Qf (λb=>o1=some b\/o2=some b) B w w84:=q083.trans (Qf.ofe (Qe.own kn) λb hb=>Or.inr hb) λi hi=>Or.inl hi;have mv2:Mv w o2 o2':=(Mv.refl w o2).trans mv2 q083.size;have z84:=q084.size;have h411:=Y6.size;refine gJ ?_;refine VA (g:=λx:PcR=>({ x with fA:=nu.2.1 }:PcR)) (λx=>rfl) omg g omg ?_;intro w88 g88 k88;have ho':∀b,o=some b->w.heap.size<=b:=λb hb=>by have:=ho b hb;omega
  have t88:=t84.loc g dcd dcd dcd (λb hb=>by have:=ho' b hb;omega) k88;have g1n:=bP g1n g dcd k88;have g2n:=bP g2n g dcd k88;have q088:Qf (λb=>o1=some b\/o2=some b) B w w88:=q084.trans (Y:=λb=>o=some b) (Qf.ofe (Qe.own k88) λb hb=>hb) λi hi=>Or.inr (ho' i hi);refine Cl.ret (oN nu.2.1 nn) ?_;rintro _ w98 ⟨rfl,k98⟩;have il:=nC nn;refine Bs.a (a:=out) (b:=[125,32,61,32]) ?_ lng;refine Bs.a (a:=out++[125,32,61,32]) (b:=nI_ nu.2.1) ?_ (by unfold nI_;simp only[List.length_append,List.length_cons,List.length_nil];omega);refine Bs.a (a:=out++[125,32,61,32]++nI_ nu.2.1) (b:=[59,32]) ?_ (by unfold nI_;simp only[List.length_append,List.length_cons,List.length_nil];omega);refine hR _ _ ⟨_,o1',_,o2',_,o,rfl,t88.ext k98,q088.trans (Y:=λ_=>False) (Qf.of (Qk.kp k98)) (λi hi=>hi.elim),g1n.kp k98 (λ_ _=>trivial),mv1,g2n.kp k98 (λ_ _=>trivial),mv2,?_,s83.mono omg,?_,?_⟩
  .rw[List.length_map];exact g88.kp k98 λ_ _=>trivial
  .unfold nI_;exact lng
  .rw[List.length_map];exact hll
end
end Go.W.T
namespace Go.W
open Go
theorem Ap.srcM{e m bytes k:Nat}{zero v:Value}{s:List Value}{x:Value}{l:List Value}{w:World}{K:KV}{n:Nat}{o:Option Nat}(hm:0<m)
  (hg:Gw w e m v n l o) (hs:s.length=k*m)
  (hK:∀v' w' o',Gw w' e m v' (n+k) (l++s) o'->(o'=o\/o'=some w.heap.size)->Kp (own o) w w'->K v' w')
  (hsrc:fU m x w=some (k,s)) (hone:s.all (·.oneCell')=true) (hb:(n+k)*bytes<=140737488355328) (hz:zero.cells.size=m:=by rfl):Ap e m bytes zero v x w K:=by
 refine⟨?_⟩;obtain⟨hl,hg2⟩:=hg;have hlen:((l++s).length)=(n+k)*m:=by rw[List.length_append,hl,hs,Nat.add_mul]
 cases o with
 |none=>
  obtain⟨rfl,rfl⟩:=hg2;have hl0:l=[]:=List.length_eq_zero_iff.mp (by rw[hl,Nat.zero_mul]);subst hl0;unfold ApD;refine⟨k,s,hsrc,?_⟩
  by_cases h0:0+k<=0
  .rw[if_pos h0];obtain rfl:k=0:=omg;have hs0:s=[]:=List.length_eq_zero_iff.mp (by rw[hs,Nat.zero_mul]);subst hs0;exact hK _ _ none ⟨hlen,rfl,rfl⟩ (Or.inl rfl) (Kp.refl _ _)
  rw[if_neg h0];refine⟨by simpa using hb,[],0,by simp[fU],λc hc=>?_⟩;refine hK _ _ (some w.heap.size) ⟨hlen,(Builtin.zeroCells zero.cells (c - (0+k))).toList,c,?_,?_,?_⟩ (Or.inr rfl) ?_
  .simp
  .rw[iw (by rfl)];simp only[List.nil_append,Array.empty_append,cl];congr 2;apply Array.toList_inj.mp;simp only[Array.toList_append]
  .have hc':0+k<=c:=hc;rw[hlen,Array.length_toList,nJ,hz,<- Nat.add_mul];congr 1;omega
  .exact((Kp.refl _ _).drew).alloc _
 |some b=>
  obtain⟨rest,cap,rfl,hbb,hcap⟩:=hg2;unfold ApD;refine⟨k,s,hsrc,?_⟩
  by_cases hfit:n+k<=cap
  .rw[if_pos hfit];have hm2:(n+k)*m<=cap*m:=Nat.mul_le_mul_right m hfit;rw[Nat.add_mul]at hm2;have hsz:n*m+s.length<=(List.toArray (l++rest)).size:=by simp;omega
   have hadd:(Addr.add ⟨b,0,none⟩ (n*m))=⟨b,n*m,none⟩:=by rw[add_eq,Nat.zero_add]
   simp only[];rw[hadd,oI e s w b (n*m) 0 (List.toArray (l++rest)) hbb (by rw[Nat.add_zero];exact hsz) hone];refine hK _ _ (some b) ⟨hlen,rest.drop s.length,cap,rfl,?_,?_⟩ (Or.inl rfl) ?_
   .rw[mF hbb];congr 2;unfold putAt;congr 1;have e1:List.take (n*m) (l++rest)=l:=by rw[<- hl,List.take_left'];rfl
    have e2:List.drop (n*m+s.length) (l++rest)=rest.drop s.length:=by rw[<- hl,<- List.drop_drop,List.drop_left'];rfl
    simp only[Nat.add_zero,e1,e2,List.append_assoc]
   .rw[hlen,List.length_drop,Nat.add_mul];omega
   .exact Kp.yS (Kp.refl _ _) (by simp[own,Out]) _
  .rw[if_neg hfit];have hcn:eY w ⟨b,0,none⟩ 0 (n*m)=some l:=by
    rw[kR hbb (n*m) 0 (by rw[List.length_append];omega)];simp[<- hl]
   refine⟨hb,l,n,by simp only[fU,hcn];rfl,λc hc=>?_⟩;refine hK _ _ (some w.heap.size) ⟨hlen,(Builtin.zeroCells zero.cells (c - (n+k))).toList,c,rfl,?_,?_⟩ (Or.inr rfl) ?_
   .rw[iw (by rfl)];congr 2;apply Array.toList_inj.mp;simp only[Array.toList_append]
   .have hc':n+k<=c:=hc;rw[hlen,Array.length_toList,nJ,hz,<- Nat.add_mul];congr 1;omega
   .exact((Kp.refl _ _).drew).alloc _
theorem Ug(h:Gw w e m v n l o):fU m v w=some (n,l):=by
 obtain⟨hl,h2⟩:=h;cases o with
 |none=>
  obtain⟨rfl,rfl⟩:=h2;obtain rfl:l=[]:=List.length_eq_zero_iff.mp (by rw[hl,Nat.zero_mul]);rfl
 |some b=>
  obtain⟨rest,cap,rfl,hb,_⟩:=h2;simp only[fU];rw[kR hb (n*m) 0 (by rw[List.length_append];omega)];simp[<- hl]
end Go.W
namespace Go.W.T
open Go Go.W Go.M Go.Proofs
section
variable {B M pb:Nat} {w:World} {p:RS}
structure Ql (B:Nat) (w w':World):Prop where
 os:w'.os=w.os
 tape:w'.tape=w.tape
 output:w'.output=w.output
 size:w.heap.size<=w'.heap.size
 low:∀b,b<B->b<w.heap.size->w'.heap[b]?=w.heap[b]?
theorem Ql.of(k:Qk B w w'):Ql B w w':=⟨k.os,k.tape,k.output,k.size,k.low⟩
theorem Ql.trans(h:Ql B a b)(k:Ql B b c):Ql B a c:=⟨k.os.trans h.os,k.tape.trans h.tape,k.output.trans h.output,Nat.le_trans h.size k.size,λi hi hs=>(k.low i hi (Nat.lt_of_lt_of_le hs h.size)).trans (h.low i hi hs)⟩
theorem Ql.own(k:Kp (Go.W.own o) w w')(ho:∀b,o=some b->B<=b):Ql B w w':=⟨k.os,k.tape,k.output,k.size,λi hi hs=>k.same i hs (aF λe=>by have:=ho i e;omega)⟩
theorem Ql.refl(w:World):Ql B w w:=⟨rfl,rfl,rfl,Nat.le_refl _,λ_ _ _=>rfl⟩
abbrev QD(B pb:Nat)(w:World)(p':RS)(w':World):Prop:=QS B w'.heap.size pb w' p'/\Ql B w w'
theorem pc_one(l:List PcR):(bU l).all (·.oneCell')=true:=by
 induction l with
 |nil=>rfl
 |cons x l ih=>
  unfold bU at ih ⊢;rw[List.flatMap_cons,List.all_append,ih];rfl
theorem VS{v x:Value}{l r:List PcR}{o ox:Option Nat}{C:KV}(g:Gw w 287 5 v l.length (bU l) o)(gx:Gw w 287 5 x r.length (bU r) ox)(hl:l.length+r.length<=1000000)
  (hC:∀v' w' o',Gw w' 287 5 v' (l++r).length (bU (l++r)) o'->Mv w o o'->Kp (own o) w w'->C v' w'):Ap 287 5 40 (.agg #[.int .i64 0,.int .i64 0,.int .i64 0,.int .i64 0,.int .i64 0]) v x w C:=by
 refine Ap.srcM omg g (k:=r.length) (s:=bU r) (by unfold bU;rw[vW NT]) ?_ (Ug gx) (pc_one r) omg;intro v' w' o' g' ho' k;refine hC v' w' o' ?_ (FY (Kp.refl _ _) ho') k;have e:bU (l++r)=bU l++bU r:=by simp[bU]
 rw[List.length_append,e];exact g'
theorem P5(hb:w.heap.size<=b):∀{l:List eU} {c:List Value},eQ M w l c->Off b c
 |[],c,h,v,hv=>by
  obtain rfl:c=[]:=h;cases hv
 |r::l,c,⟨nv,pv,rest,h1,h2,h3,h4⟩,v,hv=>by
  intro a n k e;have ni:∀{u:Value} {m:List Int},IsI M w u m->u≠.slice (some ⟨b,a,none⟩) n k:=λ⟨o,g,_⟩ e=>by
   obtain⟨_,g2⟩:=g;cases o with
   |none=>obtain⟨g2,_⟩:=g2;rw[e]at g2;cases g2
   |some ob=>
    obtain⟨_,_,g2,g3,_⟩:=g2;rw[e]at g2;cases g2;have:=lt_of_heap g3;omega
  rw[h1]at hv;rcases List.mem_append.mp hv with hv|hv
  .unfold nR at hv;simp only[List.mem_cons,List.not_mem_nil,or_false]at hv;rcases hv with rfl|rfl|rfl|rfl|rfl|rfl|rfl|rfl
   .cases e
   .cases e
   .cases e
   .exact ni h2 e
   .exact ni h3 e
   .cases e
   .cases e
   .cases e
  .exact P5 hb h4 v hv a n k e
theorem Le(k:Kp (own o) w w'):∀{l:List eU} {c:List Value},eQ M w l c->(∀b,o=some b->Off b c)->eQ M w' l c
 |[],c,h,_=>h
 |r::l,c,⟨nv,pv,rest,h1,h2,h3,h4⟩,hoff=>by
  have ni:∀{u:Value} {m:List Int},IsI M w u m->u∈c->IsI M w' u m:=λ{u m} ⟨oi,g,hm⟩ hu=>by
   refine⟨oi,g.kp k λb hb=>aF λe=>?_,hm⟩;obtain⟨_,g2⟩:=g;subst hb;obtain⟨_,_,g2,_⟩:=g2;exact hoff b e u hu _ _ _ g2
  refine⟨nv,pv,rest,h1,ni h2 ?_,ni h3 ?_,Le k h4 λb hb v hv=>hoff b hb v (by rw[h1];exact List.mem_append_right _ hv)⟩
  .rw[h1];exact List.mem_append_left _ (by simp[nR])
  .rw[h1];exact List.mem_append_left _ (by simp[nR])
theorem QXG.YM(h:QX B M pb w1 p x)(ho:x.o4=o)(g:Gw w1 3 1 va l.length (ints l) o)(k:Kp (own o) w1 w2)(g':Gw w2 3 1 v' l'.length (ints l') o')(mv:Mv w1 o o')(hpc:∀b,x.o3=some b->o≠some b)
  (k3:Kp [(pb,pb+1)] w2 w3) (hp3:w3.heap[pb]?=some (cl (aN p { x with gv:=v' }) 112)):QX B w3.heap.size pb w3 { p with aj:=l' } { x with gv:=v',o4:=o' }/\Ql B w1 w3:=by
 subst ho;have l2:Ql B w1 w2:=Ql.own k h.b4;have ZV:w2.heap[pb]?=some (cl (aN p x) 112):=(k.same _ (lt_of_heap h.hp) (aF (fP g h.hp dcd))).trans h.hp;have q3:Qk B w2 w3:=Qk.out ZV h.b0 (Or.inl rfl) k3
 have hn:∀{e:TypeId} {m:Nat} {v:Value} {n:Nat} {l:List Value} {o:Option Nat},Gw w2 e m v n l o->e≠112->Gw w3 e m v n l o:=λhg hne=>hg.kp k3 λb hb=>⟨by
  have:b≠pb:=λe=>fP hg ZV hne (hb.trans (by rw[e]))
  omega,trivial⟩
 have z:=l2.size;have z3:=q3.size;have g3:=hn g' dcd;have p3:Gw w3 287 5 x.pv p.procs.length (bU p.procs) x.o3:=hn (h.procs.kp k λb hb=>aF (hpc b hb)) dcd;refine⟨⟨hp3,hn (bP h.rows g dcd k) dcd,?_,hn (bP h.names g dcd k) dcd,p3,g3,h.b0,h.b1,h.b2,h.b3,λb hb=>(mv b hb).elim (h.b4 b) λhge=>?_,p3.lt,g3.lt,λb hb=>(mv b hb).elim (h.d4 b) λhge=>P5 hge h.rat,trivial,⟨h.ok.len,h.ok.en0,h.ok.en1,h.ok.we⟩,h.tl⟩,l2.trans (Ql.of q3)⟩
 .exact((Le k h.rat h.d4).kt q3).up
 .have:=h.b0;have:=lt_of_heap h.hp;omega
theorem Bq(g:Gw w e m v n c0 o)(he:e≠3)(k:Kp (own o) w w'):∀{l:List eU} {c:List Value},eQ M w l c->eQ M w' l c
 |[],c,h=>h
 |r::l,c,⟨nv,pv,rest,h1,⟨oa,ga,ma⟩,⟨ob,gb,mb⟩,h4⟩=>⟨nv,pv,rest,h1,⟨oa,bP ga g he.symm k,ma⟩,⟨ob,bP gb g he.symm k,mb⟩,Bq g he k h4⟩
theorem QXG.ghost(h:QX B M pb w p x)(hG:G x.o4 x.rc):QXG G B M pb w p x:=⟨h.hp,h.rows,h.rat,h.names,h.procs,h.aj,h.b0,h.b1,h.b2,h.b3,h.b4,h.m3,h.m4,h.d4,hG,h.ok,h.tl⟩
theorem QXG.forget(h:QXG G B M pb w p x):QX B M pb w p x:=⟨h.hp,h.rows,h.rat,h.names,h.procs,h.aj,h.b0,h.b1,h.b2,h.b3,h.b4,h.m3,h.m4,h.d4,trivial,h.ok,h.tl⟩
theorem QXG.locP(h:QX B M pb w p x)(g:Gw w 287 5 v n l o)(hne:∀b,o=some b->x.o3≠some b)(k:Kp (own o) w w'):QX B M pb w' p x:=
 ⟨(k.same _ (lt_of_heap h.hp) (aF (fP g h.hp dcd))).trans h.hp,bP h.rows g dcd k,Bq g dcd k h.rat,bP h.names g dcd k,h.procs.kp k λb hb=>aF λe=>hne b e hb,bP h.aj g dcd k,h.b0,h.b1,h.b2,h.b3,h.b4,h.m3,h.m4,h.d4,h.gh,h.ok,h.tl⟩
theorem QXG.YN(h:QX B M pb w1 p x)(k:Kp (own x.o3) w1 w2)(g':Gw w2 287 5 v' l'.length (bU l') o')(mv:Mv w1 x.o3 o')
  (k3:Kp [(pb,pb+1)] w2 w3) (hp3:w3.heap[pb]?=some (cl (aN p { x with pv:=v' }) 112)):QX B w3.heap.size pb w3 { p with procs:=l' } { x with pv:=v',o3:=o' }/\Ql B w1 w3:=by
 have l2:Ql B w1 w2:=Ql.own k h.b3;have ZV:w2.heap[pb]?=some (cl (aN p x) 112):=(k.same _ (lt_of_heap h.hp) (aF (fP h.procs h.hp dcd))).trans h.hp;have q3:Qk B w2 w3:=Qk.out ZV h.b0 (Or.inl rfl) k3
 have hn:∀{e:TypeId} {m:Nat} {v:Value} {n:Nat} {l:List Value} {o:Option Nat},Gw w2 e m v n l o->e≠112->Gw w3 e m v n l o:=λhg hne=>hg.kp k3 λb hb=>⟨by
  have:b≠pb:=λe=>fP hg ZV hne (hb.trans (by rw[e]))
  omega,trivial⟩
 have z:=l2.size;have z3:=q3.size;have p3:=hn g' dcd;have g3:=hn (bP h.aj h.procs dcd k) dcd;refine⟨⟨hp3,hn (bP h.rows h.procs dcd k) dcd,?_,hn (bP h.names h.procs dcd k) dcd,p3,g3,h.b0,h.b1,h.b2,λb hb=>(mv b hb).elim (h.b3 b) λhge=>?_,h.b4,p3.lt,g3.lt,h.d4,trivial,⟨h.ok.len,h.ok.en0,h.ok.en1,h.ok.we⟩,h.tl⟩,l2.trans (Ql.of q3)⟩
 .exact((Bq h.procs dcd k h.rat).kt q3).up
 .have:=h.b0;have:=lt_of_heap h.hp;omega
theorem YC(h:Sz p n)(hm:n<=m)(hl:l.length<=m)(hc:c.length<=m):Sz { p with aj:=l,procs:=c } m:=by
 obtain⟨a,b,c,d,e,f,g,h,i⟩:=h;exact⟨by show p.rows.length<=_;omega,by show p.names.length<=_;omega,by show 0<=p.consts/\p.consts<=_;omega,by show 0<=p.types/\p.types<=_;omega,hl,hc,by show p.out.length<=_;omega,⟨h.len,h.en0,h.en1,h.we⟩,i⟩
theorem WZ(h:QS B M pb w p)(hs:Sz p n)(hn:n<=80000):Calls P 73 #[pt pb 0] w (Ret λv w'=>v=.tuple #[]/\QD B pb w (iy p) w'/\Sz (iy p) (n+300)):=by
 refine Ret.R λR hR=>?_;refine cf [3,4,5,6,11] Tryz.func73 ?_;have hR:∀w',QD B pb w (iy p) w'/\Sz (iy p) (n+300)->R (.returned (.tuple #[])) w':=λw' t=>hR _ _ ⟨rfl,t⟩;unfold iy at hR;simp only at hR;have h:=h.up;obtain⟨x,hx⟩:=id h;have hob:B<=w.heap.size:=by have:=hx.b0;have:=lt_of_heap hx.hp;omega
 have hp:=hx.hp;unfold aN at hp;obtain⟨ga,gc,hgv⟩:=hx.aj.len;rw[hgv]at hp;refine vI ?_;refine .t ?_;refine Cl.ret (wV h (p.aj.length:Nat) 4) ?_;rintro _ w6 ⟨rfl,t6,q6⟩;have s6:=uw hs (p.aj.length:Nat) 4;generalize aG p (p.aj.length:Nat) 4=p6 at *;refine Cl.ret (dM t6 2 [112,114,111,103,114,97,109]) ?_;rintro _ w8 ⟨rfl,t8,q8⟩;have s8:=dJ s6 2 [112,114,111,103,114,97,109];generalize af p6 2 [112,114,111,103,114,97,109]=p8 at *;refine Cl.ret (rQ t8 2 (by have:=s8.names;omega)) ?_;rintro _ w10 ⟨rfl,t10,q10⟩;obtain⟨s10,l10⟩:=pW s8 2;have tl:=s8.tl;generalize az p8 2=d at *;unfold aA;refine gJ ?_;refine Cl.w (λw12=>Kp [] w10 w12/\w12.heap[w10.heap.size]?=some (cl (aA d.1) 110)) ⟨kpA,by unfold aA;exact lookA⟩ ?_;rintro w13 ⟨k13,n11⟩;refine Cl.ret (dM (t10.ext k13) 4 [123]) ?_;rintro _ w15 ⟨rfl,t15,q15⟩;have n11:=q15.ld n11;have s15:=dJ s10 4 [123];have q015:Qk B w w15:=(((q6.trans q8).trans q10).trans (Qk.kp k13)).trans q15;generalize af d.2 4 [123]=p15 at *;have z15:=q015.size;unfold aA at n11;refine gJ ?_;refine Bs.a (a:=[112,114,111,103,114,97,109,32]) (b:=d.1.s) ?_ lng;refine Bs.a (a:=[112,114,111,103,114,97,109,32]++d.1.s) (b:=[32,123,32]) ?_ lng;have ol:([112,114,111,103,114,97,109,32]++d.1.s++[32,123,32]).length<=1300:=by simp only[List.length_append,List.length_cons,List.length_nil];omega
 generalize ([112,114,111,103,114,97,109,32]++d.1.s++[32,123,32])=Dh at *;generalize hL:dK 6 p15 Dh [] [] []=L at *;refine Jn.by (λvals w'=>∃out l v o u1 u2 q,vals=[κs out,u1,u2,v]/\L=(q,out,l)/\l.length<=50/\out.length<=400000/\Gw w' 287 5 v l.length (bU l) o/\(∀b,o=some b->w15.heap.size<=b)/\QS B w.heap.size pb w' q/\Qk B w15 w'/\Sz q (n+200)) (λJ hJ=>?_) ?_
 .refine Lp.nat (λm vals w'=>∃out l v o names u1 r1 nums u2 r2 q,vals=[κs out,u1,u2,v]/\m+nums.length=6/\(nums.length<=4\/nums.length<=5/\q.e≠0)/\names.length=nums.length/\l.length<=10*nums.length/\out.length<=1300+61000*nums.length/\L=dK m q out l names nums/\Gw w' 287 5 v l.length (bU l) o/\(∀b,o=some b->w15.heap.size<=b)/\Gw w' 9 1 u1 names.length (strs names) r1/\(∀b,r1=some b->w15.heap.size<=b)/\Gw w' 3 1 u2 nums.length (ints nums) r2/\(∀b,r2=some b->w15.heap.size<=b)/\QS B w.heap.size pb w' q/\Qk B w15 w'/\Sz q (n+1+30*nums.length)) (n:=6) ⟨Dh,[],_,_,[],_,_,[],_,_,p15,rfl,rfl,Or.inl smp,rfl,smp,by simpa using ol,hL.symm,Gw.nil _ _ _,(λb hb=>by cases hb),Gw.nil _ _ _,(λb hb=>by cases hb),Gw.nil _ _ _,(λb hb=>by cases hb),t15,Qk.refl _ _,s15.mono smp⟩ ?_;rintro m _ w22 jk C ⟨out,l,v,o,names,u1,r1,nums,u2,r2,q,rfl,hm,hll,hlw,hln,hol,hx2,g,ho,gw,hr1,gn,hr2,t,k22,sq⟩ hC;have z22:=k22.size;obtain⟨k,rfl⟩:∃k,m=k+1:=⟨m - 1,omg⟩;rw[dK]at hx2;obtain⟨va,vc,rfl⟩:=gn.len;obtain⟨y,hy22⟩:=id t;have hp22:=hy22.hp;unfold aN at hp22;refine nO ?_;refine .s ?_;cases he:q.e==0 with
  |false=>
   rw[he,if_neg smp]at hx2;refine .f ?_;exact hJ _ _ ⟨out,l,_,o,_,_,q,rfl,hx2,omg,omg,g,ho,t,k22,sq.mono omg⟩
  |true=>
   have hl4:nums.length<=4:=by
    rcases hll with hh|⟨_,hh⟩
    .exact hh
    .exact absurd (by simpa using he) hh
   rw[he,if_pos rfl]at hx2;simp only at hx2;refine .t ?_;refine .t ?_;refine Cl.ret (wV t (nums.length:Nat) 4) ?_;rintro _ w34 ⟨rfl,t34,q34⟩;have s34:=uw sq (nums.length:Nat) 4;have hit:4<=nums.length->(aG q (nums.length:Nat) 4).e≠0:=λhh=>tH q omg;generalize aG q (nums.length:Nat) 4=p34 at *;have k34:=k22.trans q34;have gw:=dZ gw q34 dcd dcd dcd;have gn:=dZ gn q34 dcd dcd dcd;have g:=dZ g q34 dcd dcd dcd;refine Cl.ret (WW t34 gw (λb hb=>by have:=hr1 b hb;omega) gn (λb hb=>by have:=hr2 b hb;omega) (by have:=k34.size;omega) omg omg s34 omg) ?_;rintro _ w36 ⟨u1',r1',u2',r2',v3,o3,rfl,t36,q36,gw36,mvw,gn36,mvn,g3,s36,ol36,pl36⟩;have f36:=xB p34 names nums;have nl1:(aZ p34 names nums).1.length=names.length+1:=by unfold aZ dO;simp
   have nl2:(aZ p34 names nums).2.1.length=nums.length+1:=by unfold aZ aI;simp
   generalize aZ p34 names nums=vv at *;have g36:=q36.gw g dcd dcd dcd (λb hb hX=>hX.elim (lN g gw dcd b hb) (lN g gn dcd b hb));have k36:=q36.qk k34 (λb hb=>hb.elim (hr1 b) (hr2 b));have hr1:=mvw.geN hr1 k34.size;have hr2:=mvn.geN hr2 k34.size;refine nO ?_;refine VS g36 g3 omg ?_;intro v' w42 o' g42 mv42 k42;have t42:=t36.loc g36 dcd dcd dcd (λb hb=>by have:=ho b hb;omega) k42;have k42':=k36.I4 k42 ho;have gw42:=bP gw36 g36 dcd k42;have gn42:=bP gn36 g36 dcd k42;have ho:=mv42.geN ho k36.size;refine Bs.a (a:=out) (b:=vv.2.2.2.1) ?_ omg;have ol2:(out++vv.2.2.2.1).length<=1300+61000*nums.length+61000:=by simp only[List.length_append];omega
   generalize (out++vv.2.2.2.1)=qL at *;have ll2:(l++vv.2.2.1).length<=10*nums.length+10:=by simp only[List.length_append];omega
   refine Cl.ret (rF t42 4 [125]) ?_;rintro _ w45 ⟨rfl,rfl⟩;cases hi:is_ vv.2.2.2.2 4 [125]with
   |true=>
    rw[hi,if_pos rfl]at hx2;refine .t ?_;exact hJ _ _ ⟨qL,_,_,o',_,_,vv.2.2.2.2,rfl,hx2,omg,omg,g42,ho,t42,k42',s36.mono omg⟩
   |false=>
    rw[hi,if_neg smp]at hx2;refine .f ?_;refine hC k _ _ omg ⟨qL,_,_,o',vv.1,_,r1',vv.2.1,_,r2',vv.2.2.2.2,rfl,omg,?_,omg,omg,omg,hx2,g42,ho,gw42,hr1,gn42,hr2,t42,k42',s36.mono omg⟩;rcases Nat.lt_or_ge nums.length 4 with hh|hh
    .exact Or.inl omg
    .exact Or.inr ⟨omg,f36.ne (hit hh)⟩
 .rintro _ w50 jk ⟨out,l,v,o,u1,u2,q,rfl,rfl,hll,hol,g,ho,t,k50,sq⟩;clear hx hp hgv;simp only at hR;refine .s ?_;refine Cl.ret (dM t 4 [125]) ?_;rintro _ w53 ⟨rfl,t53,q53⟩;have s53:=dJ sq 4 [125];generalize af q 4 [125]=p53 at *;have q053:=(q015.trans k50).trans q53;have g:=dZ g q53 dcd dcd dcd;obtain⟨x5,hx5⟩:=t53;have hp5:=hx5.hp;unfold aN at hp5;refine vI ?_;refine Cl.ret (Bv (G:=λo _=>o=x5.o4) ⟨x5,hx5.ghost rfl⟩ hx5.aj (by have:=s53.aj;omega) (by have:=s53.names;omega)) ?_;rintro _ w58 ⟨v',o',w57,rfl,⟨⟨x1,hx1⟩,q57⟩,g57,kn,gn,mvn⟩;have ho4:x1.o4=x5.o4:=hx1.gh;have hx1:=hx1.forget;have s57:Sz (aI p53 p53.aj).2.2 (n+200):=s53.sb (lJ p53 p53.aj) hx1.ok;have b57:=lJ p53 p53.aj;have nn:=xm p53 p53.aj;have nl:(aI p53 p53.aj).1.length=p53.aj.length+1:=by unfold aI;simp
  generalize aI p53 p53.aj=nu at *;have pl:=s53.aj;have g:=dZ g q57 dcd dcd dcd;have g58:=bP g g57 dcd kn;have hp1:=hx1.hp;have hp1:=(kn.same _ (lt_of_heap hp1) (aF (fP g57 hp1 dcd))).trans hp1;unfold aN at hp1;have hl1:=lt_of_heap hp1;obtain⟨ga,gc,rfl⟩:=gn.len;refine nO ?_;refine .s ?_;have k63:Kp [(pb,pb+1)] w58 (ag w58 pb (cl (aN nu.2.2 { x1 with gv:=.slice ga nu.1.length gc }) 112)):=by exact kpA
  have hp63:(ag w58 pb (cl (aN nu.2.2 { x1 with gv:=.slice ga nu.1.length gc }) 112)).heap[pb]?=some (cl (aN nu.2.2 { x1 with gv:=.slice ga nu.1.length gc }) 112):=by exact lookA
  unfold aN at k63 hp63;generalize hw63:ag w58 pb (cl [κs nu.2.2.txt,.int .i64 nu.2.2.w.kind,κs nu.2.2.w.s,.int .i64 nu.2.2.w.at_,.int .i64 nu.2.2.w.en,.int .i64 nu.2.2.w.n,.int .i64 nu.2.2.w.e,x1.rv,x1.nv,x1.pv,κs nu.2.2.out,.int .i64 nu.2.2.e,.int .i64 nu.2.2.at_,.int .i64 nu.2.2.consts,.int .i64 nu.2.2.types,.slice ga nu.1.length gc] 112)=w63 at *;obtain⟨h63,l63⟩:=hx1.YM ho4 g57 kn gn mvn (lN hx1.procs g57 dcd) k63 hp63;have g63:=g58.kp k63 λb hb=>⟨by have:b≠pb:=λe=>fP g58 hp1 dcd (hb.trans (by rw[e]));omega,trivial⟩;have hne:∀b,o=some b->x1.o3≠some b:=λb hb e=>by have:=hx1.m3 b e;have:=ho b hb;omega
  have l063:Ql B w w63:=(Ql.of (q053.trans q57)).trans l63;clear hw63;refine VA (g:=λx:PcR=>({ x with prog:=nu.2.1 }:PcR)) (λx=>rfl) omg g63 omg ?_;intro w65 g65 k65;have h65:=h63.locP g63 hne k65;have l065:Ql B w w65:=l063.trans (Ql.own k65 λb hb=>by have:=ho b hb;omega);have g65':Gw w65 287 5 v (l.map λx:PcR=>({ x with prog:=nu.2.1 }:PcR)).length (bU (l.map λx:PcR=>({ x with prog:=nu.2.1 }:PcR))) o:=by rw[List.length_map];exact g65
  have lml:(l.map λx:PcR=>({ x with prog:=nu.2.1 }:PcR)).length=l.length:=List.length_map _;generalize (l.map λx:PcR=>({ x with prog:=nu.2.1 }:PcR))=lm at *;have Oc:=h65.hp;unfold aN at Oc;refine nO ?_;have h65p:Gw w65 287 5 x1.pv nu.2.2.procs.length (bU nu.2.2.procs) x1.o3:=h65.procs;have cl57:=s57.procs;refine VS h65p g65' omg ?_;intro v2 w79 o2 g79 mv79 k79;have hp79:=(k79.same _ (lt_of_heap Oc) (aF (fP h65p Oc dcd))).trans Oc;have hl79:=lt_of_heap hp79;obtain⟨pa,pc,rfl⟩:=g79.len;refine nO ?_;have k83:Kp [(pb,pb+1)] w79 (ag w79 pb (cl (aN { nu.2.2 with aj:=nu.1 } { x1 with gv:=.slice ga nu.1.length gc,o4:=o',pv:=.slice pa (nu.2.2.procs++lm).length pc }) 112)):=by exact kpA
  have hp83:(ag w79 pb (cl (aN { nu.2.2 with aj:=nu.1 } { x1 with gv:=.slice ga nu.1.length gc,o4:=o',pv:=.slice pa (nu.2.2.procs++lm).length pc }) 112)).heap[pb]?=some (cl (aN { nu.2.2 with aj:=nu.1 } { x1 with gv:=.slice ga nu.1.length gc,o4:=o',pv:=.slice pa (nu.2.2.procs++lm).length pc }) 112):=by exact lookA
  unfold aN at k83 hp83;generalize hw83:ag w79 pb (cl [κs nu.2.2.txt,.int .i64 nu.2.2.w.kind,κs nu.2.2.w.s,.int .i64 nu.2.2.w.at_,.int .i64 nu.2.2.w.en,.int .i64 nu.2.2.w.n,.int .i64 nu.2.2.w.e,x1.rv,x1.nv,.slice pa (nu.2.2.procs++lm).length pc,κs nu.2.2.out,.int .i64 nu.2.2.e,.int .i64 nu.2.2.at_,.int .i64 nu.2.2.consts,.int .i64 nu.2.2.types,.slice ga nu.1.length gc] 112)=w83 at *;obtain⟨h83,l83⟩:=h65.YN k79 g79 mv79 k83 hp83;clear hw83;have l083:=l065.trans l83;refine Cl.ret (oN nu.2.1 nn) ?_;rintro _ w85 ⟨rfl,k85⟩;have il:=nC nn;have h85:=h83.ext k85;have WH:Sz { nu.2.2 with aj:=nu.1,procs:=nu.2.2.procs++lm } (n+255):=YC s57 omg omg (by simp only[List.length_append];omega);have oz:=s57.out;have hp85:=h85.hp;unfold aN at hp85;have hl85:=lt_of_heap hp85;refine nO ?_;refine Bs.a (a:=nu.2.2.out) (b:=out) ?_ omg;refine Bs.a (a:=nu.2.2.out++out) (b:=[125,32,61,32]) ?_ lng;refine Bs.a (a:=nu.2.2.out++out++[125,32,61,32]) (b:=nI_ nu.2.1) ?_ (by unfold nI_;simp only[List.length_append,List.length_cons,List.length_nil];omega);refine Bs.a (a:=nu.2.2.out++out++[125,32,61,32]++nI_ nu.2.1) (b:=[59,10]) ?_ (by unfold nI_;simp only[List.length_append,List.length_cons,List.length_nil];omega);refine gg ?_;refine h85.fin (R:=R) (p':={ nu.2.2 with aj:=nu.1,procs:=nu.2.2.procs++lm,out:=nu.2.2.out++out++[125,32,61,32]++nI_ nu.2.1++[59,10] }) (λw' t=>hR w' ⟨⟨QSG.up t.1,l083.trans ((Ql.of (Qk.kp k85)).trans (Ql.of t.2))⟩,(ED WH (m:=41) (by unfold nI_;simp only[List.length_append,List.length_cons,List.length_nil];omega)).mono omg⟩) rfl rfl rfl rfl ⟨WH.ok.len,WH.ok.en0,WH.ok.en1,WH.ok.we⟩ WH.tl _ ?_ ?_
  .exact kpA
  .refine look_eq lookA ?_;rfl
end
end Go.W.T
