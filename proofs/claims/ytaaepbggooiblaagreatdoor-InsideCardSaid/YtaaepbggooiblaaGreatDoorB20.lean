/- Texts of mine, one behind the other; nothing is assumed. -/
import Derived.Test.YtaaepbggooiblaaGreatDoorB19
set_option linter.unusedSimpArgs false
set_option linter.unusedVariables false
set_option maxRecDepth 4000
namespace Go.W.T
open Go Go.W Go.M Go.Proofs
theorem RF{w:World}{b:Nat}{x y:Value}{rest:List Value}{t:TypeId}(h:w.heap[b]?=some (cl (x::y::rest) t)):(loadVar 194 ⟨b,0,none⟩).run P w=.ok (.agg #[x,y]) w:=by
 have hc:cu w ⟨b,0,none⟩ 0 2=some [x,y]:=by
  rw[rO h 2 0 (by simp)];rfl
 obtain⟨i,hi,hn⟩:∃i,P.info? 194=some i∧i.size=2:=by
  have hb:(match P.info? 194 with|some i=>i.size==2|none=>false)=true:=by kernel_rfl
  split at hb
  ·rename_i i h;exact⟨i,h,by simpa using hb⟩
  ·cases hb
 have hu:∃fs,P.underlying 194=some (.struct fs):=by
  have hb:(match P.underlying 194 with|some (.struct _)=>true|_=>false)=true:=by kernel_rfl
  split at hb
  ·rename_i h;exact⟨_,h⟩
  ·cases hb
 obtain⟨fs,hu⟩:=hu
 simp[loadVar,zF hu,run_sizeOf hi,hn,mg hc]
theorem lH{t:TypeId}{b:Nat}{w:World}{x y:Value}{rest:List Value}{tt:TypeId}{E:KE}{K:KV}
  (ht:(callMethod (.iface t (pt b 0)) "Where" #[]).run P w=((do let v ← loadVar 194 ⟨b,0,none⟩;callFunc 305 #[v]):Sem Next).run P w)
  (h:w.heap[b]?=some (cl (x::y::rest) tt)) (hK:Cl P 305 #[.agg #[x,y]] w E K):ny P (.iface t (pt b 0)) "Where" #[] w E K:=by
 refine⟨?_⟩
 unfold Lj
 refine⟨?_⟩
 unfold Fh
 have h2:((do let v ← loadVar 194 ⟨b,0,none⟩;callFunc 305 #[v]):Sem Next).run P w=.ok (.enter 305 #[.agg #[x,y]]) w:=by
  have hp:oW P 305=true:=by kernel_rfl
  simp[RF h,ni hp]
 rw[ht,h2]
 exact hK
theorem Bg{H:Hp}{d:Def}{v:Value}{w:World}{E:KE}{K:KV}(hd:fQ H d v)(hs:Sub H w)(hK:Cl P 305 #[.agg #[.string (bs d.name),i64 (d.at_:Nat)]] w E K):ny P v "Where" #[] w E K:=by
 obtain⟨nm,at_,dk⟩:=d
 cases dk with
 |const n=>obtain⟨b,rfl,h2⟩:=hd;exact lH (by kernel_rfl) (hs _ _ _ h2) hK
 |alias t=>obtain⟨b,u,rfl,h2,h3⟩:=hd;exact lH (by kernel_rfl) (hs _ _ _ h2) hK
 |enum ns is=>obtain⟨b,u,x,rfl,h2,h3,h4⟩:=hd;exact lH (by kernel_rfl) (hs _ _ _ h2) hK
 |struct ds=>obtain⟨b,u,l,rfl,h2,h3,h4⟩:=hd;exact lH (by kernel_rfl) (hs _ _ _ h2) hK
 |union of n ar els=>obtain⟨b,o,u,l,e,rfl,h2,_⟩:=hd;exact lH (by kernel_rfl) (hs _ _ _ h2) hK
 |prog n vs=>obtain⟨b,u,l,rfl,h2,h3,h4⟩:=hd;exact lH (by kernel_rfl) (hs _ _ _ h2) hK
theorem Gy{w:World}(x:ByteArray)(y:Int):Calls P pY #[.agg #[.string x,.int .i64 y]] w (Ret fun v w'=>v=.tuple #[.string x,.int .i64 y]∧Kp [] w w'):=by
 refine Ret.R fun R hR=>?_
 apply zJ
 unfold pq
 repeat' first|refine .x ?_|refine .y ?_|refine .z ?_|fail
 exact hR _ _ ⟨rfl,by exact kpA⟩
theorem CR.Np{B:Nat}{H:Hp}{ρ:aN}{T:List Nat}{w w':World}{c:CS}{l:List (By×Nat)}(h:CR B H ρ T w c)(k:Kp [(B+5,B+6)] w w')(hm:∃es ck,w'.heap[B+5]?=some (.map es ck)∧MK κs es ck (l.map fun x=>(x.1,i64 (x.2:Nat)))):
  CR B H ρ T w' { c with start:=l }:=by
 have hl:=h.lt
 have hB:=h.hB
 have hs:∀i,i<B+7→i≠B+5→w'.heap[i]?=w.heap[i]?:=fun i hi hn=>k.same i (by omega) ⟨by omega,trivial⟩
 have hk:∀b,ρ b≠(0,0)→Out [(B+5,B+6)] b:=fun b hb=>⟨by have:=h.ge b hb;omega,trivial⟩
 obtain⟨v,cells,o,a1,a2,a3,a4⟩:=h.L
 obtain⟨v2,o2,b1,b2,b3⟩:=h.calls
 obtain⟨es,ck,d1,d2⟩:=h.procs
 obtain⟨es3,ck3,m3,e1,e2,e3⟩:=h.bM
 obtain⟨es4,ck4,m4,f1,f2,f3⟩:=h.defs
 exact { gl:=h.gl.kp k (fun i hi=>⟨by omega,trivial⟩),hB:=hB,sub:=h.sub.kp k (fun b x hx=>⟨by have:=h.dom b x hx;omega,trivial⟩),dom:=h.dom,lt:=by have:=k.size;omega,
         free := fun b hb => h.free b (by have := k.size; omega), low := h.low,
         L := ⟨v, cells, o, (hs _ (by omega) (by omega)).trans a1, a2.kp k (fun b hb => hk b (by rw [a4 b hb]; simp)), a3, a4⟩,
         calls := ⟨v2, o2, (hs _ (by omega) (by omega)).trans b1, b2.kp k (fun b hb => hk b (by rw [b3 b hb]; simp)), b3⟩,
         jU := h.jU, tabs := fun i b l hb hl => by obtain ⟨x1, x2⟩ := h.tabs i b l hb hl; exact ⟨x1.kp k (hk b (by rw [x2]; simp)), x2⟩,
         types := (by obtain ⟨te, tc, t1, t2⟩ := h.types; exact ⟨te, tc, (hs _ (by omega) (by omega)).trans t1, t2⟩), procs := ⟨es, ck, (hs _ (by omega) (by omega)).trans d1, d2⟩,
         bM := ⟨es3, ck3, m3, (hs _ (by omega) (by omega)).trans e1, e2, e3.kp k (fun b hb _ _ => hk b hb)⟩,
         defs := ⟨es4, ck4, m4, (hs _ (by omega) (by omega)).trans f1, f2, f3⟩, start := hm, uF := h.uF }
theorem CR.Wh{B:Nat}{H:Hp}{ρ:aN}{T:List Nat}{w w':World}{c:CS}{l:List (By×Def)}(h:CR B H ρ T w c)(k:Kp [(B+4,B+5)] w w')(hm:∃es ck m,w'.heap[B+4]?=some (.map es ck)∧MK κs es ck m∧xw H m l):
  CR B H ρ T w' { c with defs:=l }:=by
 have hl:=h.lt
 have hB:=h.hB
 have hs:∀i,i<B+7→i≠B+4→w'.heap[i]?=w.heap[i]?:=fun i hi hn=>k.same i (by omega) ⟨by omega,trivial⟩
 have hk:∀b,ρ b≠(0,0)→Out [(B+4,B+5)] b:=fun b hb=>⟨by have:=h.ge b hb;omega,trivial⟩
 obtain⟨v,cells,o,a1,a2,a3,a4⟩:=h.L
 obtain⟨v2,o2,b1,b2,b3⟩:=h.calls
 obtain⟨es,ck,d1,d2⟩:=h.procs
 obtain⟨es3,ck3,m3,e1,e2,e3⟩:=h.bM
 obtain⟨es5,ck5,g1,g2⟩:=h.start
 exact { gl:=h.gl.kp k (fun i hi=>⟨by omega,trivial⟩),hB:=hB,sub:=h.sub.kp k (fun b x hx=>⟨by have:=h.dom b x hx;omega,trivial⟩),dom:=h.dom,lt:=by have:=k.size;omega,
         free := fun b hb => h.free b (by have := k.size; omega), low := h.low,
         L := ⟨v, cells, o, (hs _ (by omega) (by omega)).trans a1, a2.kp k (fun b hb => hk b (by rw [a4 b hb]; simp)), a3, a4⟩,
         calls := ⟨v2, o2, (hs _ (by omega) (by omega)).trans b1, b2.kp k (fun b hb => hk b (by rw [b3 b hb]; simp)), b3⟩,
         jU := h.jU, tabs := fun i b l hb hl => by obtain ⟨x1, x2⟩ := h.tabs i b l hb hl; exact ⟨x1.kp k (hk b (by rw [x2]; simp)), x2⟩,
         types := (by obtain ⟨te, tc, t1, t2⟩ := h.types; exact ⟨te, tc, (hs _ (by omega) (by omega)).trans t1, t2⟩), procs := ⟨es, ck, (hs _ (by omega) (by omega)).trans d1, d2⟩,
         bM := ⟨es3, ck3, m3, (hs _ (by omega) (by omega)).trans e1, e2, e3.kp k (fun b hb _ _ => hk b hb)⟩,
         start := ⟨es5, ck5, (hs _ (by omega) (by omega)).trans g1, g2⟩, defs := hm, uF := h.uF }
theorem Nr(m:List (By×Nat))(a:By)(v:Nat):qH (m.map fun x=>(x.1,i64 (x.2:Nat))) a (i64 (v:Nat))=(aY m a v).map fun x=>(x.1,i64 (x.2:Nat)):=Ak (f:=fun k:Nat=>i64 (k:Nat)) m a v
theorem xw.put{H:Hp}{a:By}{v:Value}{d:Def}(hd:fQ H d v):∀{m:List (By×Value)} {l:List (By×Def)},xw H m l→xw H (qH m a v) (aY l a d)
 |[],[],_=>⟨rfl,hd,trivial⟩
 |x::m,y::l,h=>by
  obtain⟨h1,h2,h3⟩:=h
  unfold qH aY
  rw[h1]
  cases a==y.1 with
  |true=>exact⟨rfl,hd,h3⟩
  |false=>exact⟨h1,h2,xw.put hd h3⟩
 |[],_::_,h=>h.elim
 |_::_,[],h=>h.elim
theorem iC.at{H:Hp}:∀{ds:List Decl} {l:List Value} (k:Nat) (hk:k<ds.length),iC H ds l →
  ∃t,0+k*2+2≤l.length∧(l.drop (0+k*2)).take 2=[.string (bs ds[k].name),t]∧iM H ds[k].ty t
 |a::ar,s::t::r,0,_,h=>⟨t,by simp,by rw[h.1];rfl,h.2.1⟩
 |a::ar,s::t::r,k+1,hk,h=>by
  obtain⟨t',h1,h2,h3⟩:=iC.at k (by simpa using hk) h.2.2
  refine⟨t',by simp only[List.length_cons];omega,?_,h3⟩
  have e:0+(k+1)*2=(0+k*2)+2:=by omega
  rw[e];exact h2
 |[],_ ,_,hk,_=>absurd hk (by simp)
 |_::_,[],_,_,h=>h.elim
 |_::_,[_],_,_,h=>h.elim
theorem DY(a:By):∀(es:List MapEntry) (m:List (By×Value)) (v:Value) (i:Nat),es.map (fun e=>(e.key,e.val))=(m++[(a,v)]).map (fun x=>(κs x.1,x.2))→m.lookup a=none →
  Instr.findNow .string (κs a) es i=some (some (i+m.length,v))∧es.length=m.length+1∧(es.take m.length).map (fun e=>(e.key,e.val))=m.map (fun x=>(κs x.1,x.2))
 |[],m,v,i,h,_=>by simp at h
 |e::es,[],v,i,h,_=>by
  simp only[List.nil_append,List.map_cons,List.map_nil,List.cons.injEq,Prod.mk.injEq,List.map_eq_nil_iff]at h
  obtain⟨⟨h1,h2⟩,rfl⟩:=h
  refine⟨?_,rfl,rfl⟩
  unfold Instr.findNow
  rw[h1,Keyed.same (d:=.string) (κ:=κs),beq_self_eq_true,h2]
  rfl
 |e::es,x::m,v,i,h,hl=>by
  simp only[List.cons_append,List.map_cons,List.cons.injEq,Prod.mk.injEq]at h
  obtain⟨⟨h1,h2⟩,h3⟩:=h
  rw[List.lookup_cons]at hl
  cases hb:a==x.1 with
  |true=>rw[hb]at hl;cases hl
  |false=>
   rw[hb]at hl
   obtain⟨q1,q2,q3⟩:=DY a es m v (i+1) h3 hl
   refine⟨?_,by simp[q2],by simp[h1,h2,q3]⟩
   unfold Instr.findNow
   rw[h1,Keyed.same (d:=.string) (κ:=κs),hb]
   show Instr.findNow .string (κs a) es (i+1)=_
   rw[q1]
   congr 3
   simp only[List.length_cons]
   omega
theorem UM{w:World}{b:Nat}{es:Array MapEntry}{ck:Nat}{m:List (By×Value)}{a:By}{v:Value}{E:KE}{K:KV}(hm:MK κs es ck (m++[(a,v)]))(hl:m.lookup a=none)(h:w.heap[b]?=some (.map es ck))
  (hK:∀es',MK κs es' ck m→K (.tuple #[]) (ah w b (.map es' ck))):F9 P (builtin .delete #[112,9] 0 #[false,false] #[.map (some b),.string (bs a)]) w E K:=by
 obtain⟨q1,q2,q3⟩:=DY a es.toList m v 0 hm.1 hl
 have hu:P.underlying 112=some (.map 9 3):=by kernel_rfl
 have hs:P.underlying 9=some .string:=by kernel_rfl
 have hk:MapKept.IsKey .string (κs a):=by trivial
 have hr:(builtin .delete #[112,9] 0 #[false,false] #[.map (some b),.string (bs a)]).run P w=.ok (.value (.tuple #[])) (ah w b (.map (es.eraseIdxIfInBounds m.length) ck)):=by
  have hg:(getObj b).run P w=.ok (.map es ck) w:=by simp[getObj,Sem.run,h]
  have hf:=MapKept.run_findKey (P:=P) (w:=w) (kt:=9) hs q1
  have hc:=MapKept.run_checkKey (P:=P) (w:=w) (kt:=9) hs hk es.isEmpty 9999
  have hset:∀o:Obj,(setObj b o).run P w=.ok () (ah w b o):=fun o=>by simp[setObj,Sem.run,h,ah]
  simp[builtin,Builtin.delete_,run_underlying hu,hg,hc,hf,hset,Result.andThen]
 refine⟨?_⟩
 unfold Fh
 rw[hr]
 refine hK _ ⟨?_,MapKept.stamped_erase hm.2 _⟩
 have hlen:m.length<es.size:=by simpa using (by omega:m.length<es.toList.length)
 unfold Array.eraseIdxIfInBounds
 rw[dif_pos hlen,Array.toList_eraseIdx,List.eraseIdx_eq_take_drop_succ,List.map_append,q3,List.drop_of_length_le (by omega)]
 simp
set_option maxHeartbeats 1000000 in
theorem Tm{B:Nat}{H:Hp}{ρ:aN}{T:List Nat}{w:World}{c:CS}{d:Def}{v:Value}(h:CR B H ρ T w c)(hd:fQ H d v)(hnp:∀n vs,d.k≠.prog n vs)(hnew:c.start.lookup d.name=none)
  (hok:∀o nm ar els,d.k=.union o nm ar els→lT c o=true) (hsm:jE d=true) (hN:(eH d c).L.length≤1000000) (hN0:c.L.length<1000000):
  Calls P mQ #[pt (B+6) 0,v] w (Ret fun _ w'=>CG6 B H ρ T w (eH d c) w'):=by
 refine Ret.R fun R hR=>?_
 apply xU
 unfold mf
 have hl:=h.lt
 refine Bg hd h.sub ?_
 refine Cl.ret (Gy _ _) ?_
 rintro _ w1 ⟨rfl,k1⟩
 have h1:=h.ext k1
 have hl1:=h1.lt
 obtain⟨vL,cells,o,a1,a2,a3,a4⟩:=h1.L
 obtain⟨v2,o2,b1,b2,b3⟩:=h1.calls
 obtain⟨es,ck,g1,g2⟩:=h1.start
 obtain⟨la,lc,rfl⟩:=a2.len
 repeat' first|refine .x ?_|refine .y ?_|refine .z ?_|fail
 refine Mu.str g2 (by exact lookA) fun es' ck' hm'=>?_
 rw[Nr]at hm'
 have h2:=(h1.ext (w':=w1.drew) (by exact kpA)).Np (l:=aY c.start d.name c.L.length) (w':=ah w1.drew (B+5) (.map es' ck')) (by exact kpA) ⟨es',ck',aj rfl (by simp only[size_drew];omega),hm'⟩
 have k2:Kd 6 B ρ w (ah w1.drew (B+5) (.map es' ck')):=(Kp.kc0 k1:Kd 6 B ρ w w1).trans (Kp.kc (X:=[(B+5,B+6)]) (by exact kpA) (fun i hi hx=>⟨by omega,trivial⟩)) (Rx.refl _ _)
 have m2:(ah w1.drew (B+5) (.map es' ck')).heap[B+5]?=some (.map es' ck'):=aj rfl (by simp only[size_drew];omega)
 have zz:w.heap.size≤(ah w1.drew (B+5) (.map es' ck')).heap.size:=k2.size
 generalize ah w1.drew (B+5) (.map es' ck')=w2 at *
 obtain⟨c1,hc1⟩:∃X:CS,X={ c with start:=aY c.start d.name c.L.length }:=⟨_,rfl⟩
 rw[← hc1]at h2
 have hLe:c1.L=c.L:=by rw[hc1]
 have fin:∀cX:CS,eH d c=cX.put (ins 7)→cX.L.length<1000000→∀w3,CG6 B H ρ T w cX w3→Cl P 53 #[pt (B+6) 0,CW (ins 7) (.map none) (.map none)] w3 (pE R) fun x79 w80=>R (.returned (.tuple #[])) w80:=by
  intro cX hcX hlen w3 hg
  obtain⟨ρ3,D3,q1,q2,q3⟩:=hg
  refine Cl.ret (nC q3 rfl rfl hlen) ?_
  rintro v w4 ⟨rfl,hg4⟩
  refine hR _ _ ?_
  rw[hcX]
  exact CG6.trans q1 q2 hg4.up
 refine Jn.by (fun vals w'=>∃vv,vals=[vv]∧eH d c=(bodyC d c).put (ins 7)∧(bodyC d c).L.length<1000000∧CG6 B H ρ T w (bodyC d c) w') (fun J hJ=>?_) ?_
 ·obtain⟨nm,at_,dk⟩:=d
  cases dk with
  |prog n vs=>exact absurd rfl (hnp n vs)
  |const n=>
   obtain⟨b,rfl,hd1⟩:=hd
   dsimp only at hnew hm'
   have hmx:MK κs es' ck' ((c.start.map fun x=>(x.1,i64 (x.2:Nat)))++[(nm,i64 (c.L.length:Nat))]):=by
    rw[Ua hnew,List.map_append]at hm';exact hm'
   obtain⟨v5,o5,b5,b6,b7⟩:=h2.calls
   repeat' first|refine .x ?_|refine .y ?_|refine .z ?_|fail
   refine UM hmx (by rw[ku (fun k:Nat=>i64 (k:Nat)),hnew];rfl) m2 fun es3 hm3=>?_
   refine hR _ _ ⟨ρ,[],k2.trans (Kp.kc (X:=[(B+5,B+6)]) (by exact kpA) (fun i hi hx=>⟨by omega,trivial⟩)) (Rx.refl _ _),Rx.refl _ _,?_⟩
   have h3:=h2.Np (l:=c.start) (w':=ah w2 (B+5) (.map es3 ck')) (by exact kpA) ⟨es3,ck',aj rfl (by have:=h2.lt;omega),hm3⟩
   rw[List.append_nil]
   have:({ c1 with start:=c.start }:CS)=c:=by rw[hc1]
   rw[this]at h3
   exact h3
  |alias t=>
   obtain⟨b,u,rfl,hd1,ht⟩:=hd
   have hd2:=h2.sub _ _ _ hd1
   have hlb:(bodyC ⟨nm,at_,.alias t⟩ c).L.length+1≤1000000:=by rw[← aX _ (ins 7)];exact hN
   have he:bodyC ⟨nm,at_,.alias t⟩ c=lower t c1:=by rw[hc1];rfl
   rw[he]at hlb
   obtain⟨ti,tu,rfl⟩:=ht.form
   repeat' first|refine .x ?_|refine .y ?_|refine .z ?_|fail
   refine Cl.ret (iT t h2 ht (by rw[bF]at hlb;omega)) ?_
   rintro v w3 hg
   refine hJ _ _ ⟨_,rfl,rfl,by rw[he];omega,?_⟩
   rw[he]
   exact CG6.trans (D:=[]) k2 (Rx.refl _ _) (by rw[List.append_nil];exact hg.up)
  |enum ns is=>
   obtain⟨b,u,xv,rfl,hd1,hs1,hs2⟩:=hd
   have hd2:=h2.sub _ _ _ hd1
   obtain⟨ib,ir,ic,rfl,hib⟩:=hs2
   have hib2:=h2.sub _ _ _ hib
   have WT:is.length<1000000:=of_decide_eq_true hsm
   have hlb:(bodyC ⟨nm,at_,.enum ns is⟩ c).L.length+1≤1000000:=by rw[← aX _ (ins 7)];exact hN
   have he:bodyC ⟨nm,at_,.enum ns is⟩ c=(c1.iy (members is)).put { ins 4 with table:=some c1.tabs.length }:=by rw[hc1];rfl
   have hl2:=h2.lt
   repeat' first|refine .x ?_|refine .y ?_|refine .z ?_|fail
   refine Cl.ret (Jk is hib2 WT) ?_
   rintro v w3 ⟨rfl,k3,tm3⟩
   have h3:=(h2.ext k3).iy (a:=w2.heap.size) (by omega) (h2.free _ (Nat.le_refl _)) tm3
   repeat' first|refine .x ?_|refine .y ?_|refine .z ?_|fail
   refine Cl.ret (nC (i:={ ins 4 with table:=some c1.tabs.length }) (f:=.map (some w2.heap.size)) (g:=.map none) h3 ⟨_,by rw[← h2.jU,List.getElem?_append_right (Nat.le_refl _),Nat.sub_self];rfl,rfl⟩ rfl (by show c1.L.length<_;rw[hLe];exact hN0)) ?_
   rintro v w4 ⟨rfl,hg⟩
   refine hJ _ _ ⟨_,rfl,rfl,by omega,?_⟩
   rw[he]
   exact CG6.trans (D:=[]) k2 (Rx.refl _ _) (by rw[List.append_nil];exact CG6.trans (D:=[w2.heap.size]) (Kp.kc0 k3) (Dw (Nat.le_refl _)) hg.up)
  |struct ds=>
   obtain⟨b,u,l,rfl,hd1,hdl,hs1⟩:=hd
   have hd2:=h2.sub _ _ _ hd1
   obtain⟨pb,pr,pc,rfl,hpb⟩:=hs1
   have hpd:=h2.dom _ _ hpb
   have WT:ds.length<1000000:=of_decide_eq_true hsm
   have hlb:(bodyC ⟨nm,at_,.struct ds⟩ c).L.length+1≤1000000:=by rw[← aX _ (ins 7)];exact hN
   have he:bodyC ⟨nm,at_,.struct ds⟩ c=mi (c1.put { ins 11 with n:=ds.length }) ds:=by rw[hc1];rfl
   have hlb2:c.L.length+1+dD ds+1≤1000000:=by rw[he,xM,aX,hLe]at hlb;exact hlb
   repeat' first|refine .x ?_|refine .y ?_|refine .z ?_|fail
   refine Cl.ret (nC (i:={ ins 11 with n:=ds.length }) (f:=.map none) (g:=.map none) h2 rfl rfl (by rw[hLe];exact hN0)) ?_
   rintro v w3 ⟨rfl,ρ3,D3,k3,r3,h3⟩
   have hd3:=h3.sub _ _ _ hd1
   have z3:=k3.size
   repeat' first|refine .x ?_|refine .y ?_|refine .z ?_|fail
   refine Lp.nat (n:=ds.length) (fun n vals w'=>∃(k:Nat) (ρ':aN) (D:List Nat),vals=[i64 (k:Nat)]∧k+n=ds.length∧Kd 5 B ρ3 w3 w'∧Rx ρ3 ρ' w3.heap.size∧CR B H ρ' (T++D3++D) w' (mi (c1.put { ins 11 with n:=ds.length }) (ds.take k))) ?_ ?_
   ·exact⟨0,ρ3,[],rfl,by omega,Kd.refl _ _ _ _,Rx.refl _ _,by rw[List.append_nil,List.take_zero];exact h3⟩
   rintro n _ wL jk2 C ⟨k,ρ',D,rfl,hkn,kL,rL,hL⟩ hC
   have zL:=kL.size
   have hpL:=hL.sub _ _ _ hpb
   have hlL:=hL.lt
   repeat' first|refine .x ?_|refine .y ?_|refine .z ?_|fail
   refine .split (fun hc=>?_) (fun hc=>?_)
   ·have hlt:k<ds.length:=by have:=of_decide_eq_true hc;omega
    obtain⟨tv,q1,q2,q3⟩:=hdl.at k hlt
    obtain⟨ti,tu,rfl⟩:=q3.form
    have hpblt:=lt_of_heap hpL
    refine .s ?_
    refine LdN.s ?_ hpL (by rw[List.length_append];omega) ((dU q1).trans q2)
    repeat' first|refine .x ?_|refine .y ?_|refine .z ?_|fail
    refine Cl.w (fun w9=>Kp [] wL w9) (by exact kpA) ?_
    intro w5 k5
    have hsz:dD (ds.drop k)=tsz ds[k].ty+dD (ds.drop (k+1)):=by rw[List.drop_eq_getElem_cons hlt,dD]
    have htk:=DD ds k
    refine Cl.ret (iT ds[k].ty (hL.ext k5) q3 (by rw[xM,aX,hLe];omega)) ?_
    rintro v w6 ⟨ρ6,D6,k6,r6,h6⟩
    repeat' first|refine .x ?_|refine .y ?_|refine .z ?_|fail
    have ek:ds.take k++[ds[k]]=ds.take (k+1):=by rw[List.take_add_one,List.getElem?_eq_getElem hlt];rfl
    refine hC (n - 1) _ _ (by omega) ⟨k+1,ρ6,D++D6,rfl,by omega,(kL.kp k5).trans k6 rL,fun b hb=>(r6 b (by have:=k5.size;omega)).trans (rL b hb),?_⟩
    rw[← ek,FP,← List.append_assoc];exact h6
   ·have hge:k=ds.length:=by have:=of_decide_eq_false hc;omega
    subst hge
    rw[List.take_length]at hL
    refine hJ _ _ ⟨_,rfl,rfl,by omega,?_⟩
    rw[he]
    exact CG6.trans (D:=[]) k2 (Rx.refl _ _) (by rw[List.append_nil];exact CG6.trans (k3.up (by omega)) r3 ⟨ρ',D,kL.up (by omega),rL,hL⟩)
  |union o nm2 ar els=>
   obtain⟨b,ov,u,l,e,rfl,hd1,ho,ha,hs1,hels⟩:=hd
   have hsm2:ar.length<1000000∧∀a∈ar,a.nums.length<1000000:=by
    have:(decide (ar.length<1000000)&&ar.all fun a=>decide (a.nums.length<1000000))=true:=hsm
    rw[Bool.and_eq_true,List.all_eq_true]at this
    exact⟨of_decide_eq_true this.1,fun a ha=>of_decide_eq_true (this.2 a ha)⟩
   have hlb:(bodyC ⟨nm,at_,.union o nm2 ar els⟩ c).L.length+1≤1000000:=by rw[← aX _ (ins 7)];exact hN
   have he:bodyC ⟨nm,at_,.union o nm2 ar els⟩ c=vC o ar els c1:=by rw[hc1];rfl
   have hok1:lT c1 o=true:=by rw[hc1];exact hok o nm2 ar els rfl
   have QA:QT H els e:=by
    cases els with
    |none=>exact hels
    |some x=>exact hels
   repeat' first|refine .x ?_|refine .y ?_|refine .z ?_|fail
   refine Cl.ret (SX h2 hd1 ho ha hs1 QA hok1 hsm2.2 (by rw[← he];omega) hsm2.1) ?_
   rintro v w3 hg
   refine hJ _ _ ⟨_,rfl,rfl,by omega,?_⟩
   rw[he]
   exact CG6.trans (D:=[]) k2 (Rx.refl _ _) (by rw[List.append_nil];exact hg)
 ·rintro _ w3 jk ⟨vv,rfl,he,hlen,hg⟩
  repeat' first|refine .x ?_|refine .y ?_|refine .z ?_|fail
  exact fin _ he hlen w3 hg
end Go.W.T
namespace Go.W.T
open Go Go.W Go.M Go.Proofs
theorem Kd.kpx{m B:Nat}{ρ:aN}{a b c:World}{X:List (Nat×Nat)}(h:Kd m B ρ a b)(k:Kp X b c)(hx:∀i,i<a.heap.size→(i<B∨B+7≤i)→Out X i):Kd m B ρ a c:=
 ⟨k.os.trans h.os,k.tape.trans h.tape,k.output.trans h.output,Nat.le_trans h.size k.size,fun i hi ho=>(k.same i (Nat.lt_of_lt_of_le hi h.size) (hx i hi (ho.imp id And.left))).trans (h.same i hi ho)⟩
theorem Qb{B:Nat}{H:Hp}{ρ:aN}{T:List Nat}{w:World}{c:CS}{t:Ty}{v:Value}(h:CR B H ρ T w c)(ht:iM H t v)(hN:c.L.length+zo t≤1000000):
  Calls P qw #[pt (B+6) 0,v] w (Ret fun r w'=>r=.tuple #[i64 (c.L.length:Nat),.bool (t==.void)]∧CG B H ρ T w (iD t c) w'):=by
 refine Ret.R fun R hR=>?_
 apply zZ
 unfold pX
 unfold zo at hN
 obtain⟨vL,cells,o,a1,a2,a3,a4⟩:=h.L
 obtain⟨v2,o2,b1,b2,b3⟩:=h.calls
 obtain⟨la,lc,rfl⟩:=a2.len
 have hl:=h.lt
 have ht0:=ht
 cases t with
 |basic s=>
  have hv:v=_:=ht;subst hv
  repeat' first|refine .x ?_|refine .y ?_|refine .z ?_|fail
  refine Cl.w (fun w9=>Kp [] w w9) (by exact kpA) ?_
  intro w1 k1
  refine Cl.ret (iT _ (h.ext k1) ht0 (by omega)) ?_
  rintro r w2 ⟨ρ2,D2,k2,r2,h2⟩
  repeat' first|refine .x ?_|refine .y ?_|refine .z ?_|fail
  refine Cl.ret (nC (i:=ins 16) (f:=.map none) (g:=.map none) h2 rfl rfl (by rw[bF];omega)) ?_
  rintro r3 w3 ⟨rfl,hg⟩
  exact hR _ _ ⟨rfl,CG.pre (Kp.kc0 k1) (CG.trans k2 r2 hg)⟩
 |named s a=>
  obtain⟨b,rfl,hb⟩:=ht
  repeat' first|refine .x ?_|refine .y ?_|refine .z ?_|fail
  refine Cl.w (fun w9=>Kp [] w w9) (by exact kpA) ?_
  intro w1 k1
  refine Cl.ret (iT _ (h.ext k1) ht0 (by omega)) ?_
  rintro r w2 ⟨ρ2,D2,k2,r2,h2⟩
  repeat' first|refine .x ?_|refine .y ?_|refine .z ?_|fail
  refine Cl.ret (nC (i:=ins 16) (f:=.map none) (g:=.map none) h2 rfl rfl (by rw[bF];omega)) ?_
  rintro r3 w3 ⟨rfl,hg⟩
  exact hR _ _ ⟨rfl,CG.pre (Kp.kc0 k1) (CG.trans k2 r2 hg)⟩
 |bytes a b n=>
  have hv:v=_:=ht;subst hv
  repeat' first|refine .x ?_|refine .y ?_|refine .z ?_|fail
  refine Cl.w (fun w9=>Kp [] w w9) (by exact kpA) ?_
  intro w1 k1
  refine Cl.ret (iT _ (h.ext k1) ht0 (by omega)) ?_
  rintro r w2 ⟨ρ2,D2,k2,r2,h2⟩
  repeat' first|refine .x ?_|refine .y ?_|refine .z ?_|fail
  refine Cl.ret (nC (i:=ins 16) (f:=.map none) (g:=.map none) h2 rfl rfl (by rw[bF];omega)) ?_
  rintro r3 w3 ⟨rfl,hg⟩
  exact hR _ _ ⟨rfl,CG.pre (Kp.kc0 k1) (CG.trans k2 r2 hg)⟩
 |array t f n=>
  obtain⟨u,rfl,hu⟩:=ht
  repeat' first|refine .x ?_|refine .y ?_|refine .z ?_|fail
  refine Cl.w (fun w9=>Kp [] w w9) (by exact kpA) ?_
  intro w1 k1
  refine Cl.ret (iT _ (h.ext k1) ht0 (by omega)) ?_
  rintro r w2 ⟨ρ2,D2,k2,r2,h2⟩
  repeat' first|refine .x ?_|refine .y ?_|refine .z ?_|fail
  refine Cl.ret (nC (i:=ins 16) (f:=.map none) (g:=.map none) h2 rfl rfl (by rw[bF];omega)) ?_
  rintro r3 w3 ⟨rfl,hg⟩
  exact hR _ _ ⟨rfl,CG.pre (Kp.kc0 k1) (CG.trans k2 r2 hg)⟩
 |opt t=>
  obtain⟨u,rfl,hu⟩:=ht
  repeat' first|refine .x ?_|refine .y ?_|refine .z ?_|fail
  refine Cl.w (fun w9=>Kp [] w w9) (by exact kpA) ?_
  intro w1 k1
  refine Cl.ret (iT _ (h.ext k1) ht0 (by omega)) ?_
  rintro r w2 ⟨ρ2,D2,k2,r2,h2⟩
  repeat' first|refine .x ?_|refine .y ?_|refine .z ?_|fail
  refine Cl.ret (nC (i:=ins 16) (f:=.map none) (g:=.map none) h2 rfl rfl (by rw[bF];omega)) ?_
  rintro r3 w3 ⟨rfl,hg⟩
  exact hR _ _ ⟨rfl,CG.pre (Kp.kc0 k1) (CG.trans k2 r2 hg)⟩
 |void=>
  have hv:v=_:=ht;subst hv
  repeat' first|refine .x ?_|refine .y ?_|refine .z ?_|fail
  refine Cl.w (fun w9=>Kp [] w w9) (by exact kpA) ?_
  intro w1 k1
  refine Cl.ret (iT _ (h.ext k1) ht0 (by omega)) ?_
  rintro r w2 ⟨ρ2,D2,k2,r2,h2⟩
  repeat' first|refine .x ?_|refine .y ?_|refine .z ?_|fail
  refine Cl.ret (nC (i:=ins 16) (f:=.map none) (g:=.map none) h2 rfl rfl (by rw[bF];omega)) ?_
  rintro r3 w3 ⟨rfl,hg⟩
  exact hR _ _ ⟨rfl,CG.pre (Kp.kc0 k1) (CG.trans k2 r2 hg)⟩
theorem CR.TY{B:Nat}{H:Hp}{ρ:aN}{T:List Nat}{w w':World}{c:CS}{l:List ((Int×Int×Int)×(Nat×Nat×Bool×Bool))}(h:CR B H ρ T w c)(k:Kp [(B+1,B+2)] w w')
  (hm:∃es ck,w'.heap[B+1]?=some (.map es ck)∧MK κc es ck (l.map fun x=>(x.1,Qo x.2))∧∀x∈l,Si x.1):CR B H ρ T w' { c with procs:=l }:=by
 have hl:=h.lt
 have hB:=h.hB
 have hs:∀i,i<B+7→i≠B+1→w'.heap[i]?=w.heap[i]?:=fun i hi hn=>k.same i (by omega) ⟨by omega,trivial⟩
 have hk:∀b,ρ b≠(0,0)→Out [(B+1,B+2)] b:=fun b hb=>⟨by have:=h.ge b hb;omega,trivial⟩
 obtain⟨v,cells,o,a1,a2,a3,a4⟩:=h.L
 obtain⟨v2,o2,b1,b2,b3⟩:=h.calls
 obtain⟨es3,ck3,m3,e1,e2,e3⟩:=h.bM
 obtain⟨es4,ck4,m4,f1,f2,f3⟩:=h.defs
 obtain⟨es5,ck5,g1,g2⟩:=h.start
 exact { gl:=h.gl.kp k (fun i hi=>⟨by omega,trivial⟩),hB:=hB,sub:=h.sub.kp k (fun b x hx=>⟨by have:=h.dom b x hx;omega,trivial⟩),dom:=h.dom,lt:=by have:=k.size;omega,
         free := fun b hb => h.free b (by have := k.size; omega), low := h.low,
         L := ⟨v, cells, o, (hs _ (by omega) (by omega)).trans a1, a2.kp k (fun b hb => hk b (by rw [a4 b hb]; simp)), a3, a4⟩,
         calls := ⟨v2, o2, (hs _ (by omega) (by omega)).trans b1, b2.kp k (fun b hb => hk b (by rw [b3 b hb]; simp)), b3⟩,
         jU := h.jU, tabs := fun i b l hb hl => by obtain ⟨x1, x2⟩ := h.tabs i b l hb hl; exact ⟨x1.kp k (hk b (by rw [x2]; simp)), x2⟩,
         types := (by obtain ⟨te, tc, t1, t2⟩ := h.types; exact ⟨te, tc, (hs _ (by omega) (by omega)).trans t1, t2⟩), procs := hm,
         bM := ⟨es3, ck3, m3, (hs _ (by omega) (by omega)).trans e1, e2, e3.kp k (fun b hb _ _ => hk b hb)⟩,
         start := ⟨es5, ck5, (hs _ (by omega) (by omega)).trans g1, g2⟩, defs := ⟨es4, ck4, m4, (hs _ (by omega) (by omega)).trans f1, f2, f3⟩, uF := h.uF }
theorem fH.lookup{w:World}{ρ:aN}(g:Int):∀{m:List (Int×Value)} {l:List (Int×List Int)},fH w ρ m l →
  (m.lookup g=none∧l.lookup g=none)∨∃v x,m.lookup g=some v∧l.lookup g=some x∧∃o,Gw w rX 1 v x.length (x.map (Value.int .u32)) o∧∀b,o=some b→ρ b=(4,ie g)
 |[],[],_=>Or.inl ⟨rfl,rfl⟩
 |x::m,y::l,h=>by
  obtain⟨h1,h2,h3⟩:=h
  rw[List.lookup_cons,List.lookup_cons,h1]
  cases hb:g==y.1 with
  |true=>
   have e:g=y.1:=by simpa using hb
   obtain⟨o,q1,q2⟩:=h2
   exact Or.inr ⟨_,_,rfl,rfl,o,q1,fun b hb=>by rw[e];exact q2 b hb⟩
  |false=>exact fH.lookup g h3
 |[],_::_,h=>h.elim
 |_::_,[],h=>h.elim
theorem fH.keep{w w':World}{ρ ρ':aN}{X:List (Nat×Nat)}{g:Int}(k:Kp X w w')(hX:∀b p,p≠g→ρ b=(4,ie p)→Out X b)(hr:∀b,b<w.heap.size→ρ' b=ρ b):∀{m:List (Int×Value)} {l:List (Int×List Int)},fH w ρ m l→(∀x∈m,x.1≠g)→fH w' ρ' m l
 |[],[],_,_=>trivial
 |x::m,y::l,h,hn=>by
  obtain⟨h1,⟨o,h2,h3⟩,h4⟩:=h
  have hy:y.1≠g:=by rw[← h1];exact hn x (by simp)
  exact⟨h1,⟨o,h2.kp k (fun b hb=>hX b y.1 hy (h3 b hb)),fun b hb=>(hr b (h2.lt b hb)).trans (h3 b hb)⟩,fH.keep k hX hr h4 (fun x hx=>hn x (by simp[hx]))⟩
 |[],_::_,h,_=>h.elim
 |_::_,[],h,_=>h.elim
theorem fH.put{w w':World}{ρ ρ':aN}{X:List (Nat×Nat)}{g:Int}{v':Value}{l':List Int}(k:Kp X w w')(hX:∀b p,p≠g→ρ b=(4,ie p)→Out X b)(hr:∀b,b<w.heap.size→ρ' b=ρ b)
  (hnew:∃o,Gw w' rX 1 v' l'.length (l'.map (Value.int .u32)) o∧∀b,o=some b→ρ' b=(4,ie g)):∀{m:List (Int×Value)} {l:List (Int×List Int)},fH w ρ m l→(m.map (·.1)).Nodup→fH w' ρ' (qH m g v') (aY l g l')
 |[],[],_,_=>⟨rfl,hnew,trivial⟩
 |x::m,y::l,h,hn=>by
  obtain⟨h1,⟨o,h2,h3⟩,h4⟩:=h
  simp only[List.map_cons,List.nodup_cons]at hn
  unfold qH aY
  rw[h1]
  cases hb:g==y.1 with
  |true=>
   have e:g=y.1:=by simpa using hb
   refine⟨rfl,hnew,fH.keep k hX hr h4 (fun z hz e2=>hn.1 ?_)⟩
   rw[h1,← e,← e2]
   exact List.mem_map.mpr ⟨z,hz,rfl⟩
  |false=>
   have hy:y.1≠g:=fun e=>by rw[e,beq_self_eq_true]at hb;cases hb
   exact⟨h1,⟨o,h2.kp k (fun b hb=>hX b y.1 hy (h3 b hb)),fun b hb=>(hr b (h2.lt b hb)).trans (h3 b hb)⟩,fH.put k hX hr hnew h4 hn.2⟩
 |[],_::_,h,_=>h.elim
 |_::_,[],h,_=>h.elim
theorem MK.nodup{es:Array MapEntry}{ck:Nat}{k:IntKind}{m:List (Int×Value)}(h:MK (κi k) es ck m):(m.map (·.1)).Nodup:=by
 have h1:=h.2.2.2
 have h2:es.toList.map (·.key)=(m.map (·.1)).map (κi k):=by
  have:=congrArg (List.map Prod.fst) h.1
  rw[List.map_map,List.map_map]at this
  rw[List.map_map]
  exact this
 rw[h2]at h1
 unfold List.Nodup at h1 ⊢
 rw[List.pairwise_map]at h1
 exact h1.imp fun hab e=>hab (by rw[e])
theorem CR.We{B:Nat}{H:Hp}{ρ:aN}{T:List Nat}{w w':World}{c:CS}{o o':Option Nat}{v':Value}{g:Int}{l':List Int}{es es':Array MapEntry}{ck ck':Nat}{m:List (Int×Value)}(h:CR B H ρ T w c)
  (hm0:w.heap[B+2]?=some (.map es ck)) (hm:MK (κi .u32) es ck m) (hv:fH w ρ m c.bM) (ho:∀b,o=some b→ρ b=(4,ie g))
  (k:Kp ((B+2,B+3)::own o) w w') (hc:w'.heap[B+2]?=some (.map es' ck')) (hm':MK (κi .u32) es' ck' (qH m g v')) (hg':Gw w' rX 1 v' l'.length (l'.map (Value.int .u32)) o')
  (hoo:o'=o∨∃b,o'=some b∧w.heap.size≤b):CR B H (dV ρ o' (4,ie g)) T w' { c with bM:=aY c.bM g l' }:=by
 have hl:=h.lt
 have hB:=h.hB
 have hz:=k.size
 have hge:=h.ge
 have hown:∀b,ρ b≠(4,ie g)→Out (own o) b:=fun b hb=>aB fun e=>hb (ho b e)
 have hlow:∀b,b<B+7→Out (own o) b:=fun b hb=>hown b (by rw[h.low b hb];simp)
 have hs:∀i,i<B+7→i≠B+2→w'.heap[i]?=w.heap[i]?:=fun i hi hn=>k.same i (by omega) ⟨by omega,hlow i hi⟩
 have hr:Rx ρ (dV ρ o' (4,ie g)) w.heap.size:=rG ho hoo
 have hkeep:∀b,B+7≤b→ρ b≠(4,ie g)→Out ((B+2,B+3)::own o) b:=fun b hb hn=>⟨by omega,hown b hn⟩
 obtain⟨v,cells,o1,a1,a2,a3,a4⟩:=h.L
 obtain⟨v2,o2,b1,b2,b3⟩:=h.calls
 obtain⟨es2,ck2,d1,d2⟩:=h.procs
 obtain⟨es4,ck4,m4,f1,f2,f3⟩:=h.defs
 obtain⟨es5,ck5,g1,g2⟩:=h.start
 exact { gl:=h.gl.kp k (fun i hi=>⟨by omega,hlow i (by omega)⟩),hB:=hB,sub:=h.sub.kp k (fun b x hx=>by have:=h.dom b x hx;exact⟨by omega,hlow b (by omega)⟩),dom:=h.dom,lt:=by omega,
         free := fun b hb => by
           unfold dV
           rw [if_neg (fun e => by have := hg'.lt b e; omega)]
           exact h.free b (by omega),
         low := fun b hb => (hr b (by omega)).trans (h.low b hb),
         L := ⟨v, cells, o1, (hs _ (by omega) (by omega)).trans a1, a2.kp k (fun b hb => hkeep b (hge b (by rw [a4 b hb]; simp)) (by rw [a4 b hb]; simp)), a3, fun b hb => (hr b (a2.lt b hb)).trans (a4 b hb)⟩,
         calls := ⟨v2, o2, (hs _ (by omega) (by omega)).trans b1, b2.kp k (fun b hb => hkeep b (hge b (by rw [b3 b hb]; simp)) (by rw [b3 b hb]; simp)), fun b hb => (hr b (b2.lt b hb)).trans (b3 b hb)⟩,
         jU := h.jU,
         tabs := fun i b l hb hl => by
           obtain ⟨x1, x2⟩ := h.tabs i b l hb hl
           exact ⟨x1.kp k (hkeep b (hge b (by rw [x2]; simp)) (by rw [x2]; simp)), (hr b x1.lt).trans x2⟩,
         types := (by obtain ⟨te, tc, t1, t2⟩ := h.types; exact ⟨te, tc, (hs _ (by omega) (by omega)).trans t1, t2⟩), procs := ⟨es2, ck2, (hs _ (by omega) (by omega)).trans d1, d2⟩,
         bM := ⟨es', ck', _, hc, hm', fH.put k (fun b p hp hb => hkeep b (hge b (by rw [hb]; simp)) (by rw [hb]; intro e; exact hp (YX (by simpa using e)))) hr ⟨o', hg', fun b hb => xJ hb⟩ hv (MK.nodup hm)⟩,
         defs := ⟨es4, ck4, m4, (hs _ (by omega) (by omega)).trans f1, f2, f3⟩, start := ⟨es5, ck5, (hs _ (by omega) (by omega)).trans g1, g2⟩, uF := h.uF }
theorem dR.at{H:Hp}:∀{qs:List rP} {l:List Value} (k:Nat) (hk:k<qs.length),dR H qs l →
  ∃a t,0+k*4+4≤l.length∧(l.drop (0+k*4)).take 4=[.string (bs qs[k].name),.int .u32 qs[k].n,a,t]∧iM H qs[k].arg a∧iM H qs[k].res t
 |q::qs,s::n::a::t::r,0,_,h=>⟨a,t,by simp,by rw[h.1,h.2.1];rfl,h.2.2.1,h.2.2.2.1⟩
 |q::qs,s::n::a::t::r,k+1,hk,h=>by
  obtain⟨a',t',h1,h2,h3,h4⟩:=dR.at k (by simpa using hk) h.2.2.2.2
  refine⟨a',t',by simp only[List.length_cons];omega,?_,h3,h4⟩
  have e:0+(k+1)*4=(0+k*4)+4:=by omega
  rw[e];exact h2
 |[],_ ,_,hk,_=>absurd hk (by simp)
 |_::_,[],_,_,h=>h.elim
 |_::_,[_],_,_,h=>h.elim
 |_::_,[_,_],_,_,h=>h.elim
 |_::_,[_,_,_],_,_,h=>h.elim
theorem jl.at{H:Hp}:∀{vs:List uz} {l:List Value} (k:Nat) (hk:k<vs.length),jl H vs l →
  ∃q,0+k*3+3≤l.length∧(l.drop (0+k*3)).take 3=[.string (bs vs[k].name),.int .u32 vs[k].n,q]∧∃pl,dR H vs[k].procs pl∧SlF H aP vs[k].procs.length pl q
 |v::vs,s::n::q::r,0,_,h=>⟨q,by simp,by rw[h.1,h.2.1];rfl,h.2.2.1⟩
 |v::vs,s::n::q::r,k+1,hk,h=>by
  obtain⟨q',h1,h2,h3⟩:=jl.at k (by simpa using hk) h.2.2.2
  refine⟨q',by simp only[List.length_cons];omega,?_,h3⟩
  have e:0+(k+1)*3=(0+k*3)+3:=by omega
  rw[e];exact h2
 |[],_ ,_,hk,_=>absurd hk (by simp)
 |_::_,[],_,_,h=>h.elim
 |_::_,[_],_,_,h=>h.elim
 |_::_,[_,_],_,_,h=>h.elim
set_option maxHeartbeats 2000000 in
theorem OJ{B gb:Nat}{H:Hp}{ρ:aN}{T:List Nat}{w:World}{c:CS}{gn:By}{gat:Nat}{g:Int}{vs:List uz}{l:List Value}{sv:Value}(h:CR B H ρ T w c)
  (hg:H gb=some ([.string (bs gn),i64 (gat:Nat),.int .u32 g,sv],aU)) (hv:jl H vs l) (hs:SlF H ay vs.length l sv) (hgu:inU g)
  (hvl:vs.length<1000000) (hvs:∀v∈vs,v.procs.length<1000000∧inU v.n∧∀q∈v.procs,inU q.n) (hvn:∀x∈c.bM,x.2.length<1000000) (hN:(fP g c vs).L.length≤1000000):
  Calls P lG #[pt (B+6) 0,pt gb 0] w (Ret fun _ w'=>CG6 B H ρ T w (fP g c vs) w'):=by
 refine Ret.R fun R hR=>?_
 apply wQ
 unfold kV
 rw[AY]at hN
 obtain⟨sb,sr,sc,rfl,hsb⟩:=hs
 have hg0:=h.sub _ _ _ hg
 have hgd:=h.dom _ _ hg
 have hsd:=h.dom _ _ hsb
 repeat' first|refine .x ?_|refine .y ?_|refine .z ?_|fail
 refine Lp.nat (n:=vs.length) (fun n vals w'=>∃(k:Nat) (vv:Value) (ρ':aN) (D:List Nat),vals=[i64 (k:Nat),vv]∧k+n=vs.length∧Kd 6 B ρ w w'∧Rx ρ ρ' w.heap.size∧CR B H ρ' (T++D) w' (fP g c (vs.take k)) ∧
  ∀x∈(fP g c (vs.take k)).bM,x.2.length<1000000+k) ?_ ?_
 ·exact⟨0,undef,ρ,[],rfl,by omega,Kd.refl _ _ _ _,Rx.refl _ _,by rw[List.append_nil,List.take_zero];exact h,by rw[List.take_zero];exact hvn⟩
 rintro n _ wL jk C ⟨k,vv,ρ',D,rfl,hkn,kL,rL,hL,YY⟩ hC
 have zL:=kL.size
 have hgL:=hL.sub _ _ _ hg
 have hsL:=hL.sub _ _ _ hsb
 have hlL:=hL.lt
 have hsblt:=lt_of_heap hsL
 have hgblt:=lt_of_heap hgL
 repeat' first|refine .x ?_|refine .y ?_|refine .z ?_|fail
 refine .split (fun hc=>?_) (fun hc=>?_)
 ·have hlt:k<vs.length:=by have:=of_decide_eq_true hc;omega
  obtain⟨qv,a1,a2,pl,a3,a4⟩:=hv.at k hlt
  obtain⟨pb,pr,pc,rfl,hpb⟩:=a4
  obtain⟨u1,u2,u3⟩:=hvs vs[k] (List.getElem_mem hlt)
  obtain⟨xk,hxk⟩:∃X,X=fP g c (vs.take k):=⟨_,rfl⟩
  rw[← hxk]at hL YY
  have hxl:xk.L.length+lQ (vs.drop k)=c.L.length+lQ vs:=by
   rw[hxk,AY]
   have:=Fv vs k
   omega
  obtain⟨vL,yg,lo,q1,q2,q3,q4⟩:=hL.L
  obtain⟨v2,o2,q5,q6,q7⟩:=hL.calls
  obtain⟨es,ck,m,e1,e2,e3⟩:=hL.bM
  refine .s ?_
  refine LdN.s ?_ hsL (by rw[List.length_append];omega) ((dU a1).trans a2)
  repeat' first|refine .x ?_|refine .y ?_|refine .z ?_|fail
  have hlk:∃vx lx ox,(m.lookup g).getD (.slice none 0 0)=vx∧(xk.bM.lookup g).getD []=lx∧Gw wL rX 1 vx lx.length (lx.map (Value.int .u32)) ox∧(∀b,ox=some b→ρ' b=(4,ie g))∧lx.length<1000000+k:=by
   rcases e3.lookup g with⟨x1,x2⟩|⟨v,x,x1,x2,o,x3,x4⟩
   ·exact⟨_,_,none,rfl,rfl,by rw[x1,x2];exact Gw.nil _ _ _,by simp,by rw[x2];simp;omega⟩
   ·refine⟨_,_,o,rfl,rfl,by rw[x1,x2];exact x3,x4,by rw[x2];exact YY (g,x) (by
     have:=List.lookup_eq_some_iff.mp x2
     obtain⟨l1,l2,hh,_⟩:=this
     rw[hh];simp)⟩
  obtain⟨vx,lx,ox,hvx,hlx,gx,rx,hlxl⟩:=hlk
  refine Lk.int0 e2 (by exact lookA) ?_
  rw[hvx]
  obtain⟨ax,cx,rfl⟩:=gx.len
  repeat' first|refine .x ?_|refine .y ?_|refine .z ?_|fail
  refine⟨Lk.int0 e2 (by exact lookA) hvx,?_⟩
  refine Ap.w (fun w9=>Kp [] wL w9∧w9.heap[wL.heap.size]?=some (cl [.string (bs vs[k].name),.int .u32 vs[k].n,.slice (some ⟨pb,0,none⟩) vs[k].procs.length pc] ay)∧w9.heap[wL.heap.size+1]?=some (cl [.int .u32 vs[k].n] rX)) ⟨by exact kpA,by exact lookA,by exact lookA⟩ ?_
  rintro w1 ⟨k1,vb1,n1⟩
  have z1:=lt_of_heap n1
  refine Ap.g (gx.kp k1 (fun _ _=>trivial)) n1 rfl rfl ?_ (by omega)
  intro v' w2 o' g2 ho' k2
  have z2:=k2.size
  have oge:∀b,ox=some b→B+7≤b∧b<wL.heap.size:=fun b hb=>⟨hL.ge b (by rw[rx b hb];simp),gx.lt b hb⟩
  have st2:∀b,b<w1.heap.size→(b<B+7∨wL.heap.size≤b)→w2.heap[b]?=w1.heap[b]?:=fun b hb hx=>k2.same b hb (aB fun e=>by have:=oge b e;omega)
  have cm2:w2.heap[B+6]?=some (cl [pt (B+3) 0,.map (some (B+4)),.map (some (B+5)),v2] dJ):=(st2 _ (by omega) (by omega)).trans ((k1.same _ (by omega) trivial).trans q5)
  have cd2:w2.heap[B+3]?=some (cl [vL,.map (some B),.map (some (B+1)),.map (some (B+2))] gU):=(st2 _ (by omega) (by omega)).trans ((k1.same _ (by omega) trivial).trans q1)
  have gb2:w2.heap[gb]?=some (cl [.string (bs gn),i64 (gat:Nat),.int .u32 g,.slice (some ⟨sb,0,none⟩) vs.length sc] aU):=(st2 _ (by omega) (by omega)).trans ((k1.same _ (by omega) trivial).trans hgL)
  have vb2:w2.heap[wL.heap.size]?=some (cl [.string (bs vs[k].name),.int .u32 vs[k].n,.slice (some ⟨pb,0,none⟩) vs[k].procs.length pc] ay):=(st2 _ (by omega) (by omega)).trans vb1
  have mp2:w2.heap[B+2]?=some (.map es ck):=(st2 _ (by omega) (by omega)).trans ((k1.same _ (by omega) trivial).trans e1)
  obtain⟨ax',cx',rfl⟩:=g2.len
  repeat' first|refine .x ?_|refine .y ?_|refine .z ?_|fail
  refine Mu.int e2 mp2 fun es' ck' hm'=>?_
  repeat' first|refine .x ?_|refine .y ?_|refine .z ?_|fail
  refine(fun(Q:∀w9,Kp [(B+2,B+3)] w2 w9∧w9.heap[B+2]?=some (.map es' ck')→Lp [.int .i64 0] w9 _)=>Q _ ⟨by exact kpA,by exact aj rfl (by omega)⟩) ?_
  rintro w3 ⟨k3,mp3⟩
  have z3:=k3.size
  have vb3:w3.heap[wL.heap.size]?=some (cl [.string (bs vs[k].name),.int .u32 vs[k].n,.slice (some ⟨pb,0,none⟩) vs[k].procs.length pc] ay):=(k3.same _ (by omega) ⟨by omega,trivial⟩).trans vb2
  have hoo:o'=ox∨∃b,o'=some b∧wL.heap.size≤b:=ho'.imp id fun r=>⟨_,r,k1.size⟩
  have kO:Kp ((B+2,B+3)::own ox) wL w3:=by
   have x1:Kp ((B+2,B+3)::own ox) wL w2:=k1.trans k2 (fun i _ ho=>⟨trivial,ho.2⟩)
   exact x1.trans k3 (fun i _ ho=>⟨ho,ho.1,trivial⟩)
  have g3:Gw w3 rX 1 (.slice ax' (lx.length+1) cx') (lx++[vs[k].n]).length ((lx++[vs[k].n]).map (Value.int .u32)) o':=by
   have:(lx++[vs[k].n]).length=lx.length+1:=by simp
   rw[this,List.map_append]
   refine g2.kp k3 (fun b hb=>⟨?_,trivial⟩)
   rcases hoo with r|⟨b',r,hb'⟩
   ·have:=oge b (by rw[← r];exact hb);omega
   ·rw[r]at hb;cases hb;omega
  have h3:=hL.We e1 e2 e3 rx kO mp3 hm' g3 hoo
  have r3:Rx ρ' (dV ρ' o' (4,ie g)) wL.heap.size:=rG rx hoo
  have vr3:dV ρ' o' (4,ie g) wL.heap.size=(0,0):=by
   unfold dV
   rw[if_neg]
   ·exact hL.free _ (Nat.le_refl _)
   ·intro e
    rcases ho' with r|r
    ·rw[r]at e;have:=(oge _ e).2;omega
    ·rw[r]at e;have:=Option.some.inj e;omega
  generalize dV ρ' o' (4,ie g)=ρ3 at *
  have kd3:Kd 6 B ρ' wL w3:=Kp.kc kO (fun i hi hx=>⟨by omega,aB fun e=>by
   have h2:=rx i e
   rcases hx with hx|⟨_,hx⟩
   ·have:=oge i e;omega
   ·rw[h2]at hx;simp at hx⟩)
  obtain⟨x3,hx3⟩:∃X:CS,X={ xk with bM:=aY xk.bM g (lx++[vs[k].n]) }:=⟨_,rfl⟩
  rw[← hx3]at h3
  have hx3L:x3.L=xk.L:=by rw[hx3]
  have hsz:lQ (vs.drop k)=fV vs[k].procs+lQ (vs.drop (k+1)):=by rw[List.drop_eq_getElem_cons hlt,lQ]
  have hpd:=hL.dom _ _ hpb
  refine Lp.nat (n:=vs[k].procs.length) (fun n vals w'=>∃(j:Nat) (ρ4:aN) (D4:List Nat),vals=[i64 (j:Nat)]∧j+n=vs[k].procs.length∧Kd 5 B ρ3 w3 w'∧Rx ρ3 ρ4 w3.heap.size∧CR B H ρ4 (T++D++D4) w' (dB g vs[k].n x3 (vs[k].procs.take j))) ?_ ?_
  ·exact⟨0,ρ3,[],rfl,by omega,Kd.refl _ _ _ _,Rx.refl _ _,by rw[List.append_nil,List.take_zero];exact h3⟩
  rintro m2 _ w4 jk2 C2 ⟨j,ρ4,D4,rfl,hjm,k4,r4,h4⟩ hC2
  have z4:=k4.size
  have hpb4:=h4.sub _ _ _ hpb
  have hpblt:=lt_of_heap hpb4
  have vb4:w4.heap[wL.heap.size]?=some (cl [.string (bs vs[k].name),.int .u32 vs[k].n,.slice (some ⟨pb,0,none⟩) vs[k].procs.length pc] ay):=(k4.lW (by omega) (by omega) vr3).trans vb3
  repeat' first|refine .x ?_|refine .y ?_|refine .z ?_|fail
  refine .split (fun hc3=>?_) (fun hc3=>?_)
  ·have hjlt:j<vs[k].procs.length:=by have:=of_decide_eq_true hc3;omega
   obtain⟨qa,qt,p1,p2,p3,p4⟩:=a3.at j hjlt
   obtain⟨ai,au,rfl⟩:=p3.form
   obtain⟨ri,ru,rfl⟩:=p4.form
   obtain⟨xj,hxj⟩:∃X,X=dB g vs[k].n x3 (vs[k].procs.take j):=⟨_,rfl⟩
   rw[← hxj]at h4
   have hxjl:xj.L.length+fV (vs[k].procs.drop j)=xk.L.length+fV vs[k].procs:=by
    rw[hxj,Ci,hx3L]
    have:=DC vs[k].procs j
    omega
   have hpsz:fV (vs[k].procs.drop j)=zo vs[k].procs[j].res+zo vs[k].procs[j].arg+fV (vs[k].procs.drop (j+1)):=by rw[List.drop_eq_getElem_cons hjlt,fV]
   refine .s ?_
   refine LdN.s ?_ hpb4 (by rw[List.length_append];omega) ((dU p1).trans p2)
   repeat' first|refine .x ?_|refine .y ?_|refine .z ?_|fail
   refine Cl.w (fun w9=>Kp [] w4 w9∧w9.heap[w4.heap.size]?=some (cl [.string (bs vs[k].procs[j].name),.int .u32 vs[k].procs[j].n,.iface ai au,.iface ri ru] aP)∧w9.heap[w4.heap.size+1]?=some (cl [i64 0,i64 0,.bool false,.bool false] uI)) ⟨by exact kpA,by exact lookA,by exact lookA⟩ ?_
   rintro w5 ⟨k5,qb5,rb5⟩
   have z5:=lt_of_heap rb5
   refine Cl.ret (Qb (h4.ext k5) p4 (by omega)) ?_
   rintro _ w6 ⟨rfl,ρ6,D6,k6,r6,h6⟩
   have z6:=k6.size
   have fq4:=h4.free w4.heap.size (Nat.le_refl _)
   have fr4:=h4.free (w4.heap.size+1) (by omega)
   have hl4:=h4.lt
   have qb6:w6.heap[w4.heap.size]?=some (cl [.string (bs vs[k].procs[j].name),.int .u32 vs[k].procs[j].n,.iface ai au,.iface ri ru] aP):=(k6.lW (by omega) (by omega) fq4).trans qb5
   have rb6:w6.heap[w4.heap.size+1]?=some (cl [i64 0,i64 0,.bool false,.bool false] uI):=(k6.lW (by omega) (by omega) fr4).trans rb5
   have vr4:ρ4 wL.heap.size=(0,0):=(r4 _ (by omega)).trans vr3
   have vb6:w6.heap[wL.heap.size]?=some (cl [.string (bs vs[k].name),.int .u32 vs[k].n,.slice (some ⟨pb,0,none⟩) vs[k].procs.length pc] ay):=(k6.lW (by omega) (by omega) vr4).trans ((k5.same _ (by omega) trivial).trans vb4)
   have fq6:ρ6 w4.heap.size=(0,0):=(r6 _ (by omega)).trans fq4
   have fr6:ρ6 (w4.heap.size+1)=(0,0):=(r6 _ (by omega)).trans fr4
   repeat' first|refine .x ?_|refine .y ?_|refine .z ?_|fail
   refine Cl.w (fun w9=>Kp [(w4.heap.size+1,w4.heap.size+2)] w6 w9∧w9.heap[w4.heap.size+1]?=some (cl [i64 0,i64 (xj.L.length:Nat),.bool false,.bool (vs[k].procs[j].res==.void)] uI)) ⟨by exact kpA,by exact lookA⟩ ?_
   rintro w7 ⟨k7,rb7⟩
   have z7:=k7.size
   have h7:=h6.tmp k7 (by omega) fr6
   have hs1:=EF vs[k].procs[j].res xj
   refine Cl.ret (Qb h7 p3 (by omega)) ?_
   rintro _ w8 ⟨rfl,ρ8,D8,k8,r8,h8⟩
   have z8:=k8.size
   have rb8:w8.heap[w4.heap.size+1]?=some (cl [i64 0,i64 (xj.L.length:Nat),.bool false,.bool (vs[k].procs[j].res==.void)] uI):=(k8.lW (by omega) (by omega) fr6).trans rb7
   have qb8:w8.heap[w4.heap.size]?=some (cl [.string (bs vs[k].procs[j].name),.int .u32 vs[k].procs[j].n,.iface ai au,.iface ri ru] aP):=(k8.lW (by omega) (by omega) fq6).trans ((k7.same _ (by omega) ⟨by omega,trivial⟩).trans qb6)
   have vr6:ρ6 wL.heap.size=(0,0):=(r6 _ (by omega)).trans vr4
   have vb8:w8.heap[wL.heap.size]?=some (cl [.string (bs vs[k].name),.int .u32 vs[k].n,.slice (some ⟨pb,0,none⟩) vs[k].procs.length pc] ay):=(k8.lW (by omega) (by omega) vr6).trans ((k7.same _ (by omega) ⟨by omega,trivial⟩).trans vb6)
   have hg8:=h8.sub _ _ _ hg
   obtain⟨vL8,lcells8,lo8,s1,s2,s3,s4⟩:=h8.L
   obtain⟨v28,o28,s5,s6,s7⟩:=h8.calls
   obtain⟨pes,pck,t1,t2,t3⟩:=h8.procs
   have hl8:=h8.lt
   repeat' first|refine .x ?_|refine .y ?_|refine .z ?_|fail
   refine Zq (a:=(g,vs[k].n,vs[k].procs[j].n)) t2 (by intro x hx;obtain⟨y,hy,rfl⟩:=List.mem_map.mp hx;exact t3 y hy) ⟨hgu,u2,u3 _ (List.getElem_mem hjlt)⟩ (by exact lookA) fun es9 ck9 hm9=>?_
   refine(fun(Q:∀wa,Kp [(w4.heap.size+1,w4.heap.size+2)] w8 wa→∀wb,wb=ah wa (B+1) (.map es9 ck9)→Bi .add (i64 (j:Nat)) (.int .i64 1) fun Gg=>C2 [Gg] wb)=>Q _ (by exact kpA) _ rfl) ?_
   rintro wa ka _ rfl
   have za:=ka.size
   have fr8:ρ8 (w4.heap.size+1)=(0,0):=(r8 _ (by omega)).trans fr6
   have h9:=(h8.tmp ka (by omega) fr8).TY (l:=(Js g vs[k].n xj vs[k].procs[j]).procs) (w':=ah wa (B+1) (.map es9 ck9)) (by exact kpA) ⟨es9,ck9,aj rfl (by omega),by
    show MK κc es9 ck9 ((aY (iD vs[k].procs[j].arg (iD vs[k].procs[j].res xj)).procs (g,vs[k].n,vs[k].procs[j].n) ((iD vs[k].procs[j].res xj).L.length,xj.L.length,vs[k].procs[j].arg==.void,vs[k].procs[j].res==.void)).map fun x=>(x.1,Qo x.2))
    rw[← Ak (f:=Qo)];exact hm9,by
    intro x hx
    rcases Ii hx with hx|hx
    ·exact t3 x hx
    ·rw[hx];exact⟨hgu,u2,u3 _ (List.getElem_mem hjlt)⟩⟩
   repeat' first|refine .x ?_|refine .y ?_|refine .z ?_|fail
   have ek:vs[k].procs.take j++[vs[k].procs[j]]=vs[k].procs.take (j+1):=by rw[List.take_add_one,List.getElem?_eq_getElem hjlt];rfl
   refine hC2 (m2 - 1) _ _ (by omega) ⟨j+1,ρ8,D4++D6++D8,rfl,by omega,?_,fun b hb=>(r8 b (by omega)).trans ((r6 b (by omega)).trans (r4 b hb)),?_⟩
   ·have c1:Kd 5 B ρ3 w3 w6:=(k4.kp k5).trans k6 r4
    have r46:Rx ρ3 ρ6 w3.heap.size:=fun b hb=>(r6 b (by omega)).trans (r4 b hb)
    have c2:Kd 5 B ρ3 w3 w7:=c1.kpx k7 (fun i hi _=>⟨by omega,trivial⟩)
    have c3:Kd 5 B ρ3 w3 w8:=c2.trans k8 r46
    have c4:Kd 5 B ρ3 w3 wa:=c3.kpx ka (fun i hi _=>⟨by omega,trivial⟩)
    exact c4.kpx (X:=[(B+1,B+2)]) (by exact kpA) (fun i hi _=>⟨by omega,trivial⟩)
   ·have:T++D++(D4++D6++D8)=T++D++D4++D6++D8:=by simp only[List.append_assoc]
    rw[this,← ek,FO,← hxj];exact h9
  ·have Zg:j=vs[k].procs.length:=by have:=of_decide_eq_false hc3;omega
   subst Zg
   rw[List.take_length]at h4
   repeat' first|refine .x ?_|refine .y ?_|refine .z ?_|fail
   have ek:vs.take k++[vs[k]]=vs.take (k+1):=by rw[List.take_add_one,List.getElem?_eq_getElem hlt];rfl
   have ev:fP g c (vs.take (k+1))=dB g vs[k].n x3 vs[k].procs:=by rw[← ek,Ha,← hxk,L8,hx3,hlx]
   refine hC (n - 1) _ _ (by omega) ⟨k+1,_,ρ4,D++D4,rfl,by omega,(kL.trans kd3 rL).trans (k4.up (by omega)) (fun b hb=>(r3 b (by omega)).trans (rL b hb)),fun b hb=>(r4 b (by omega)).trans ((r3 b (by omega)).trans (rL b hb)),by rw[ev,← List.append_assoc];exact h4,?_⟩
   rw[ev,FN,hx3]
   intro x hx
   rcases Ii hx with hx|hx
   ·have:=YY x hx;omega
   ·rw[hx,List.length_append];simp only[List.length_cons,List.length_nil];omega
 ·have hge:k=vs.length:=by have:=of_decide_eq_false hc;omega
  subst hge
  rw[List.take_length]at hL
  exact hR _ _ ⟨ρ',D,kL,rL,hL⟩
end Go.W.T
namespace Go.W.T
open Go Go.W Go.M Go.Proofs
def QO{β:Type}(B:Nat)(ρ:aN)(w:World)(m:Res β)(good:β→Value→World→Prop):Ending→World→Prop:=fun en w'=>
 Kd 6 B ρ w w'∧match m with
  |.ok b=>∃v,en=.returned v∧good b v w'
  |.no e a=>∃ch,en=.panicked ch∧Flt e a ch w'
theorem QO.R{β:Type}{B:Nat}{ρ:aN}{f:FuncId}{args:Array Value}{w:World}{m:Res β}{good:β→Value→World→Prop}
  (h:∀(R:Ending→World→Prop) (M:Res β),M=m→(∀b v w',M=.ok b→Kd 6 B ρ w w'→good b v w'→R (.returned v) w')→(∀e a ch w',M=.no e a→Kd 6 B ρ w w'→Flt e a ch w'→R (.panicked ch) w')→Calls P f args w R):
  Calls P f args w (QO B ρ w m good):=by
 refine h _ m rfl ?_ ?_
 ·intro b v w' h1 h2 h3;refine⟨h2,?_⟩;rw[h1];exact⟨v,rfl,h3⟩
 ·intro e a ch w' h1 h2 h3;refine⟨h2,?_⟩;rw[h1];exact⟨ch,rfl,h3⟩
theorem Cl.XR{w:World}{e a:Nat}{E:KE}{K:KV}(h:∀ch w',Flt e a ch w'→Kp [] w w'→E ch w'):Cl P mJ #[i64 e,i64 a] w E K:=by
 refine Cl.by (Tz w e a) ?_ ?_ ?_
 ·rintro v w' ⟨ch,h,_⟩;cases h
 ·rintro ch w' ⟨ch',hc,hf,hk⟩;cases hc;exact h ch w' hf hk
 ·rintro w' ⟨ch,h,_⟩;cases h
theorem PT(l:List (Nat×By×Nat))(k:Nat)(hk:k<l.length):0+k*3+3≤(gK l).length∧((gK l).drop (0+k*3)).take 3=[i64 (l[k].1:Nat),κs l[k].2.1,i64 (l[k].2.2:Nat)]:=by
 induction l generalizing k with
 |nil=>exact absurd hk (by simp)
 |cons x r ih=>
  have e:gK (x::r)=[i64 (x.1:Nat),κs x.2.1,i64 (x.2.2:Nat)]++gK r:=rfl
  cases k with
  |zero=>rw[e];exact⟨by simp,rfl⟩
  |succ k=>
   obtain⟨h1,h2⟩:=ih k (by simpa using hk)
   have e2:0+(k+1)*3=(0+k*3)+3:=by omega
   rw[e,e2]
   refine⟨by simp only[List.length_append,List.length_cons,List.length_nil];omega,?_⟩
   exact h2
theorem Q7{B:Nat}{H:Hp}{ρ:aN}{T:List Nat}{w:World}{c:CS}(h:CR B H ρ T w c)(hcok:∀x∈c.calls,x.1<c.L.length)(hN:c.L.length<1000000):
  Calls P lF #[pt (B+6) 0] w (QO B ρ w (dY c.start c.L c.calls) fun L' _ w'=>L'.length=c.L.length∧CG6 B H ρ T w { c with L:=L' } w'):=by
 refine QO.R fun R M hM hok hno=>?_
 apply wP
 unfold kU
 have hl:=h.lt
 obtain⟨v2,o2,b1,b2,b3⟩:=h.calls
 obtain⟨ca,cc,rfl⟩:=b2.len
 repeat' first|refine .x ?_|refine .y ?_|refine .z ?_|fail
 refine Lp.nat (n:=c.calls.length) (fun n vals w'=>∃(k:Nat) (L':List Ins) (ρ':aN),vals=[i64 (k:Nat)]∧k+n=c.calls.length∧Kd 6 B ρ w w'∧Rx ρ ρ' w.heap.size∧CR B H ρ' T w' { c with L:=L' }∧L'.length=c.L.length∧Gw w' pg 3 (.slice ca c.calls.length cc) c.calls.length (gK c.calls) o2∧(∀b,o2=some b→ρ' b=(2,0))∧M=dY c.start L' (c.calls.drop k)) ?_ ?_
 ·exact⟨0,c.L,ρ,rfl,by omega,Kd.refl _ _ _ _,Rx.refl _ _,h,rfl,b2,b3,hM⟩
 rintro n _ wL jk C ⟨k,L',ρ',rfl,hkn,kL,rL,hL,hlen,hG,hGr,hML⟩ hC
 have zL:=kL.size
 have hlL:=hL.lt
 have hcl:=h.uF
 repeat' first|refine .x ?_|refine .y ?_|refine .z ?_|fail
 refine .split (fun hc=>?_) (fun hc=>?_)
 ·have hlt:k<c.calls.length:=by have:=of_decide_eq_true hc;omega
  obtain⟨v3,o3,d1,d2,d3⟩:=hL.calls
  obtain⟨vL,yg,lo,q1,q2,q3,q4⟩:=hL.L
  obtain⟨es,ck,g1,g2⟩:=hL.start
  obtain⟨cb,QE,ccap,rfl,hcv,hcb⟩:=Gw.some hG (by omega)
  cases hcv
  have hcr:=hGr cb rfl
  have hcB:=hL.ge cb (by rw[hcr];simp)
  have hcbl:=lt_of_heap hcb
  obtain⟨x1,x2⟩:=PT c.calls k hlt
  refine .s ?_
  refine LdN.s ?_ hcb (by rw[List.length_append];omega) ((dU x1).trans x2)
  repeat' first|refine .x ?_|refine .y ?_|refine .z ?_|fail
  refine Lk.str g2 (by exact lookA) ?_
  rw[ku (fun k:Nat=>i64 (k:Nat))]
  rw[List.drop_eq_getElem_cons hlt]at hML
  have hkin:=hcok c.calls[k] (List.getElem_mem hlt)
  generalize c.calls[k]=kx at *
  obtain⟨ka,ks,kf⟩:=kx
  dsimp only at hkin hML
  rw[dY]at hML
  cases hlk:c.start.lookup ks with
  |none=>
   rw[hlk]at hML
   repeat' first|refine .x ?_|refine .y ?_|refine .z ?_|fail
   refine Jn.by (fun _ _=>False) (fun J2 hJ2=>?_) (fun _ _ _ hf=>hf.elim)
   refine .s ?_
   refine If.t ?_ rfl
   repeat' first|refine .x ?_|refine .y ?_|refine .z ?_|fail
   refine(fun(Q:∀w9,Kp [] wL w9→Cl P mJ #[i64 7,i64 (kf:Nat)] w9 (pE R) _)=>Q _ (by exact kpA)) ?_
   intro w9 k9
   exact Cl.XR fun ch w' hf hk=>hno _ _ _ _ hML ((kL.kp k9).kp hk) hf
  |some t=>
   rw[hlk]at hML
   refine .s ?_
   refine .s ?_
   refine Jn.direct ?_
   refine .s ?_
   refine If.f ?_ rfl
   intro jk2
   obtain⟨lb,Qu,lcap,rfl,rfl,hlb⟩:=Gw.some q2 (by show 0<L'.length;omega)
   have Zc:=q4 lb rfl
   have hlbB:=hL.ge lb (by rw[Zc];simp)
   have hlbl:=lt_of_heap hlb
   have hka:ka<L'.length:=by omega
   repeat' first|refine .x ?_|refine .y ?_|refine .z ?_|fail
   obtain⟨⟨y,hy⟩,hset⟩:=eu.iU (x:=(t:Nat)) q3 hka
   have hyl:0+ka*7+2<yg.length:=by
    rcases Nat.lt_or_ge (0+ka*7+2) yg.length with h|h
    ·exact h
    ·rw[List.getElem?_eq_none h]at hy;cases hy
   refine(fun(Q:∀w9,Kp [] wL w9→St (pt lb (0+ka*7+2)) (i64 (t:Nat)) w9 fun w41=>Bi .add (i64 (k:Nat)) (.int .i64 1) fun x42=>C [x42] w41)=>Q _ (by exact kpA)) ?_
   intro w9 k9
   have hlb9:w9.heap[lb]?=some (cl (yg++Qu) aA):=(k9.same _ hlbl trivial).trans hlb
   refine St.set hlb9 (y:=y) (by rw[List.getElem?_append_left hyl];exact hy) rfl ?_
   rw[List.set_append_left _ _ hyl]
   refine(fun(Q:∀wa,Kp [(lb,lb+1)] w9 wa∧wa.heap[lb]?=some (cl (yg.set (0+ka*7+2) (i64 (t:Nat))++Qu) aA)→Bi .add (i64 (k:Nat)) (.int .i64 1) fun x42=>C [x42] wa)=>Q _ ⟨by exact kpA,by exact aj rfl (lt_of_heap hlb9)⟩) ?_
   rintro wa ⟨ka2,ca2⟩
   have h9:=hL.ext k9
   have g1':Gw wa aA 7 (.slice (some ⟨lb,0,none⟩) L'.length lcap) (L'.modify ka fun i=>{ i with to:=(t:Nat) }).length (yg.set (0+ka*7+2) (i64 (t:Nat))) (some lb):=by
    obtain⟨x1,r2,c2,x2,x3,x4⟩:=q2
    rw[List.length_modify]
    refine⟨by rw[List.length_set];exact x1,Qu,lcap,rfl,ca2,?_⟩
    cases x2
    rw[hlb]at x3
    have:yg++Qu=yg++r2:=by
     have:=Option.some.inj x3
     simpa using this
    have:=List.append_cancel_left this
    rw[List.length_set,this];exact x4
   have q1':=(ka2.same (B+3) (by have:=k9.size;omega) ⟨by omega,trivial⟩).trans ((k9.same _ (by omega) trivial).trans q1)
   have hfin:=h9.YP (L':=L'.modify ka fun i=>{ i with to:=(t:Nat) }) q4 (ka2.mono fun i _ ho=>ho.2) q1' g1' hset (Or.inl rfl) (by show c.calls.length≤_;rw[List.length_modify];omega)
   have hrr:Rx ρ' (dV ρ' (some lb) (1,0)) w9.heap.size:=rG q4 (Or.inl rfl)
   repeat' first|refine .x ?_|refine .y ?_|refine .z ?_|fail
   refine hC (n - 1) _ _ (by omega) ⟨k+1,L'.modify ka fun i=>{ i with to:=(t:Nat) },dV ρ' (some lb) (1,0),rfl,by omega,?_,fun b hb=>(hrr b (by have:=k9.size;omega)).trans (rL b hb),hfin,by rw[List.length_modify];exact hlen,?_,?_,hML⟩
   ·exact(kL.kp k9).trans (Kp.kc (ρ:=ρ') ka2 (fun i hi hx=>⟨by
     by_cases e:i=lb
     ·subst e;rcases hx with hx|⟨_,hx⟩
      ·omega
      ·rw[Zc]at hx;simp at hx
     ·omega,trivial⟩)) rL
   ·refine(hG.kp k9 (fun _ _=>trivial)).kp ka2 (fun b hb=>⟨?_,trivial⟩)
    have:=hGr b hb
    by_cases e:b=lb
    ·subst e;rw[Zc]at this;cases this
    ·omega
   ·intro b hb
    rw[hrr b (by cases hb;have:=k9.size;omega)]
    exact hGr b hb
 ·have hge:k=c.calls.length:=by have:=of_decide_eq_false hc;omega
  subst hge
  rw[List.drop_length,dY]at hML
  exact hok _ _ _ hML kL ⟨hlen,ρ',[],kL,rL,by rw[List.append_nil];exact hL⟩
end Go.W.T
namespace Go.W.T
open Go Go.W Go.M Go.Proofs
structure EW (Dp E mb:Nat) (H:Hp) (goal:By) (defs:List (By×Def)) (w:World) (x:Seen):Prop where
 sub:Sub H w
 dom:∀b z,H b=some z→b<Dp
 hmb:mb<Dp
 hD:Dp≤E
 dm:∃es ck m,w.heap[mb]?=some (.map es ck)∧MK κs es ck m∧xw H m defs
 d:w.heap[Dp]?=some (cl [.map (some mb)] ig)
 g:w.heap[E+1]?=some (cl [.string (bs goal)] lV)
 sm:∃es ck,w.heap[E+2]?=some (.map es ck)∧MK κs es ck (x.seen.map fun s=>(s,i64 1))
 s:w.heap[E+3]?=some (cl [.map (some (E+2))] 112)
 f:w.heap[E+4]?=some (cl [.bool x.found] 4)
 t:w.heap[E+5]?=some (cl [.func (.func 86) #[] #[pt (E+1) 0,pt (E+4) 0,pt (E+3) 0,pt (E+6) 0,pt Dp 0,pt (E+5) 0]] 210)
 v:w.heap[E+6]?=some (cl [.func (.func 87) #[] #[pt (E+5) 0]] 127)
 lt:E+7≤w.heap.size
theorem EW.kp{Dp E mb:Nat}{H:Hp}{goal:By}{defs:List (By×Def)}{w w':World}{x:Seen}(h:EW Dp E mb H goal defs w x)(k:Kp [] w w'):EW Dp E mb H goal defs w' x:=by
 have hl:=h.lt
 have hs:∀i,i<E+7→w'.heap[i]?=w.heap[i]?:=fun i hi=>k.same i (by omega) trivial
 have hm:=h.hmb
 have hD:=h.hD
 obtain⟨es,ck,m,d1,d2,d3⟩:=h.dm
 obtain⟨es2,ck2,s1,s2⟩:=h.sm
 exact⟨h.sub.kp k (fun _ _ _=>trivial),h.dom,h.hmb,h.hD,⟨es,ck,m,(hs _ (by omega)).trans d1,d2,d3⟩,(hs _ (by omega)).trans h.d,(hs _ (by omega)).trans h.g,⟨es2,ck2,(hs _ (by omega)).trans s1,s2⟩,
  (hs _ (by omega)).trans h.s,(hs _ (by omega)).trans h.f,(hs _ (by omega)).trans h.t,(hs _ (by omega)).trans h.v,by have:=k.size;omega⟩
abbrev EX(E:Nat):List (Nat×Nat):=[(E+2,E+3),(E+4,E+5)]
def QM(Dp E mb:Nat)(H:Hp)(goal:By)(defs:List (By×Def))(k:Nat):Prop:=
 ∀(t:Ty) (x y:Seen) (v:Value) (w:World),through defs goal k t x=some y→EW Dp E mb H goal defs w x→iM H t v →
  Calls P 86 #[v,pt (E+1) 0,pt (E+4) 0,pt (E+3) 0,pt (E+6) 0,pt Dp 0,pt (E+5) 0] w (Ret fun _ w'=>EW Dp E mb H goal defs w' y∧Kp (EX E) w w')
def Va(Dp E mb:Nat)(H:Hp)(goal:By)(defs:List (By×Def))(k:Nat):Prop:=
 ∀(d:Option Def) (x y:Seen) (v:Value) (w:World),visit defs goal k d x=some y→EW Dp E mb H goal defs w x→(match d with|none=>v=.nilIface|some d=>fQ H d v∧jE d=true) →
  Calls P 87 #[v,pt (E+5) 0] w (Ret fun _ w'=>EW Dp E mb H goal defs w' y∧Kp (EX E) w w')
theorem FU(l:List By)(a:By):(l.map fun s=>(s,i64 1)).lookup a=if l.contains a then some (i64 1)else none:=by
 induction l with
 |nil=>rfl
 |cons x r ih=>
  simp only[List.map_cons,List.lookup_cons,List.contains_cons]
  cases h:a==x with
  |true=>simp
  |false=>simpa using ih
theorem TL{Dp E mb:Nat}{H:Hp}{goal:By}{defs:List (By×Def)}{k:Nat}(hsm:∀x∈defs,jE x.2=true)(hT:QM Dp E mb H goal defs k)(hV:Va Dp E mb H goal defs k):QM Dp E mb H goal defs (k+1):=by
 intro t x y v w hm hw ht
 refine Ret.R fun R hR=>?_
 apply EP
 unfold vV
 have hl:=hw.lt
 have e1:=hw.g
 have e2:=hw.d
 have e3:=hw.s
 have e4:=hw.f
 have e5:=hw.t
 have e6:=hw.v
 have hmb:=hw.hmb
 have hDE:=hw.hD
 cases t with
 |basic s=>
  have hv:v=_:=ht;subst hv
  have hxy:x=y:=by simpa [through] using hm
  subst hxy
  repeat' first|refine .x ?_|refine .y ?_|refine .z ?_|fail
  exact hR _ _ ⟨hw,Kp.refl _ _⟩
 |bytes a b n=>
  have hv:v=_:=ht;subst hv
  have hxy:x=y:=by simpa [through] using hm
  subst hxy
  repeat' first|refine .x ?_|refine .y ?_|refine .z ?_|fail
  exact hR _ _ ⟨hw,Kp.refl _ _⟩
 |opt t=>
  obtain⟨u,rfl,hu⟩:=ht
  have hxy:x=y:=by simpa [through] using hm
  subst hxy
  repeat' first|refine .x ?_|refine .y ?_|refine .z ?_|fail
  exact hR _ _ ⟨hw,Kp.refl _ _⟩
 |void=>
  have hv:v=_:=ht;subst hv
  have hxy:x=y:=by simpa [through] using hm
  subst hxy
  repeat' first|refine .x ?_|refine .y ?_|refine .z ?_|fail
  exact hR _ _ ⟨hw,Kp.refl _ _⟩
 |array t f n=>
  obtain⟨u,rfl,hu⟩:=ht
  obtain⟨ui,uu,rfl⟩:=hu.form
  rw[through]at hm
  cases f with
  |false=>
   simp only[Bool.false_eq_true,if_false]at hm
   cases hm
   repeat' first|refine .x ?_|refine .y ?_|refine .z ?_|fail
   exact hR _ _ ⟨hw.kp (by exact kpA),by exact kpA⟩
  |true=>
   rw[if_pos rfl]at hm
   repeat' first|refine .x ?_|refine .y ?_|refine .z ?_|fail
   refine eY.f (by kernel_rfl) ?_
   refine(fun(Q:∀w9,Kp [] w w9→Cl P 86 #[.iface ui uu,pt (E+1) 0,pt (E+4) 0,pt (E+3) 0,pt (E+6) 0,pt Dp 0,pt (E+5) 0] w9 (pE R) fun x43 w44=>R (.returned (.tuple #[])) w44)=>Q _ (by exact kpA)) ?_
   intro w9 k9
   refine Cl.ret (hT t x y _ w9 hm (hw.kp k9) hu) ?_
   rintro v2 w2 ⟨hw2,k2⟩
   exact hR _ _ ⟨hw2,k9.trans k2 (fun i _ ho=>⟨trivial,ho⟩)⟩
 |named s a=>
  obtain⟨b,rfl,hb⟩:=ht
  have hb0:=hw.sub _ _ _ hb
  have hbd:=hw.dom _ _ hb
  obtain⟨es2,ck2,s1,s2⟩:=hw.sm
  obtain⟨es,ck,m,d1,d2,d3⟩:=hw.dm
  have hmm:(if(if s==goal then { x with found:=true }else x).seen.contains s then some (if s==goal then { x with found:=true }else x)else
    visit defs goal k (defs.lookup s) { (if s==goal then { x with found:=true }else x)with seen:=(if s==goal then { x with found:=true }else x).seen++[s] })=some y:=by
   rw[through]at hm;exact hm
  clear hm
  repeat' first|refine .x ?_|refine .y ?_|refine .z ?_|fail
  refine Jn.by (fun _ w'=>EW Dp E mb H goal defs w' (if s==goal then { x with found:=true }else x)∧Kp (EX E) w w') (fun J hJ=>?_) ?_
  ·repeat' first|refine .x ?_|refine .y ?_|refine .z ?_|fail
   cases hs:s==goal with
   |true=>
    rw[hs]at hJ
    have hsb:(s==goal)=true:=hs
    repeat' first|refine .x ?_|refine .y ?_|refine .z ?_|fail
    refine(fun(Q:∀w9,Kp [(E+4,E+5)] w w9∧w9.heap[E+4]?=some (cl [.bool true] 4)→J [] w9)=>Q _ ⟨by exact kpA,by exact lookA⟩) ?_
    rintro w9 ⟨k9,f9⟩
    have hs9:∀i,i<E+7→i≠E+4→w9.heap[i]?=w.heap[i]?:=fun i hi hn=>k9.same i (by omega) ⟨by omega,trivial⟩
    refine hJ _ _ ⟨?_,k9.mono fun i _ ho=>⟨ho.2.1,trivial⟩⟩
    rw[if_pos rfl]
    exact⟨hw.sub.kp k9 (fun b z hz=>⟨by have:=hw.dom b z hz;omega,trivial⟩),hw.dom,hw.hmb,hw.hD,⟨es,ck,m,(hs9 _ (by omega) (by omega)).trans d1,d2,d3⟩,(hs9 _ (by omega) (by omega)).trans e2,(hs9 _ (by omega) (by omega)).trans e1,⟨es2,ck2,(hs9 _ (by omega) (by omega)).trans s1,s2⟩,
     (hs9 _ (by omega) (by omega)).trans e3,f9,(hs9 _ (by omega) (by omega)).trans e5,(hs9 _ (by omega) (by omega)).trans e6,by have:=k9.size;omega⟩
   |false=>
    rw[hs]at hJ
    have hsb:(s==goal)=false:=hs
    repeat' first|refine .x ?_|refine .y ?_|refine .z ?_|fail
    exact hJ _ _ ⟨by rw[if_neg (by decide)];exact hw.kp (by exact kpA),by exact kpA⟩
  rintro _ w1 jk ⟨hw1,k1⟩
  generalize (if s==goal then { x with found:=true }else x)=x1 at *
  have hl1:=hw1.lt
  have hb1:=hw1.sub _ _ _ hb
  obtain⟨es3,ck3,s3,s4⟩:=hw1.sm
  obtain⟨es4,ck4,m4,d4,d5,d6⟩:=hw1.dm
  have g3:=hw1.s
  have g2:=hw1.d
  have g6:=hw1.v
  have g1:=hw1.g
  have g4:=hw1.f
  have g5:=hw1.t
  have hz1:=k1.size
  repeat' first|refine .x ?_|refine .y ?_|refine .z ?_|fail
  refine Lk.VS s4 (by exact lookA) ?_
  rw[FU]
  cases hc:x1.seen.contains s with
  |true=>
   rw[hc,if_pos rfl]at hmm
   cases hmm
   repeat' first|refine .x ?_|refine .y ?_|refine .z ?_|fail
   exact hR _ _ ⟨hw1.kp (by exact kpA),by exact kpA⟩
  |false=>
   rw[hc,if_neg (by decide)]at hmm
   repeat' first|refine .x ?_|refine .y ?_|refine .z ?_|fail
   refine Mu.str s4 (by exact lookA) fun es5 ck5 hm5=>?_
   have k9:Kp [(E+2,E+3)] w1 (ah w1.drew.drew (E+2) (.map es5 ck5)):=by exact kpA
   have f9:(ah w1.drew.drew (E+2) (.map es5 ck5)).heap[E+2]?=some (.map es5 ck5):=aj rfl (by simp only[size_drew];omega)
   generalize ah w1.drew.drew (E+2) (.map es5 ck5)=w9 at *
   have hs9:∀i,i<E+7→i≠E+2→w9.heap[i]?=w1.heap[i]?:=fun i hi hn=>k9.same i (by omega) ⟨by omega,trivial⟩
   have hm6:MK κs es5 ck5 ((x1.seen++[s]).map fun s=>(s,i64 1)):=by
    rw[Bd _ (by rw[FU,hc];rfl)]at hm5
    rw[List.map_append];exact hm5
   have hw9:EW Dp E mb H goal defs w9 { x1 with seen:=x1.seen++[s] }:=
    ⟨hw1.sub.kp k9 (fun b z hz=>⟨by have:=hw1.dom b z hz;omega,trivial⟩),hw1.dom,hw1.hmb,hw1.hD,⟨es4,ck4,m4,(hs9 _ (by omega) (by omega)).trans d4,d5,d6⟩,(hs9 _ (by omega) (by omega)).trans g2,(hs9 _ (by omega) (by omega)).trans g1,⟨es5,ck5,f9,hm6⟩,
     (hs9 _ (by omega) (by omega)).trans g3,(hs9 _ (by omega) (by omega)).trans g4,(hs9 _ (by omega) (by omega)).trans g5,(hs9 _ (by omega) (by omega)).trans g6,by have:=k9.size;omega⟩
   have hb9:=hw9.sub _ _ _ hb
   have q2:=hw9.d
   have q6:=hw9.v
   obtain⟨es7,ck7,m7,d7,d8,d9⟩:=hw9.dm
   have hz9:=k9.size
   repeat' first|refine .x ?_|refine .y ?_|refine .z ?_|fail
   refine Lk.VS d8 (by exact lookA) ?_
   have hdv:match defs.lookup s with|none=>(m7.lookup s).getD .nilIface=.nilIface|some d=>fQ H d ((m7.lookup s).getD .nilIface)∧jE d=true:=by
    rcases d9.lookup s with⟨y1,y2⟩|⟨v,d,y1,y2,y3⟩
    ·rw[y1,y2];rfl
    ·rw[y1,y2]
     refine⟨y3,?_⟩
     obtain⟨l1,l2,hh,_⟩:=List.lookup_eq_some_iff.mp y2
     exact hsm (s,d) (by rw[hh];simp)
   repeat' first|refine .x ?_|refine .y ?_|refine .z ?_|fail
   refine eY.f (by kernel_rfl) ?_
   refine Cl.ret (hV (defs.lookup s) _ y _ w9.drew hmm (hw9.kp (by exact kpA)) hdv) ?_
   rintro v2 w2 ⟨hw2,k2⟩
   refine hR _ _ ⟨hw2,?_⟩
   have y1:Kp (EX E) w w9:=k1.trans k9 (fun i _ ho=>⟨ho,ho.1,trivial⟩)
   exact y1.drew.trans k2 (fun i _ ho=>⟨ho,ho⟩)
def ZH(Dp E mb:Nat)(H:Hp)(goal:By)(defs:List (By×Def))(k:Nat):Prop:=∀j,j≤k→QM Dp E mb H goal defs j
theorem vw{defs:List (By×Def)}{goal:By}{k:Nat}{t:Ty}{r:List Ty}{x y:Seen}(h:gy defs goal k (t::r) x=some y):∃j z,k=j+1∧through defs goal j t x=some z∧gy defs goal j r z=some y:=by
 cases k with
 |zero=>rw[gy]at h;cases h
 |succ j=>
  rw[gy]at h
  cases hz:through defs goal j t x with
  |none=>rw[hz]at h;cases h
  |some z=>rw[hz]at h;exact⟨j,z,rfl,hz,h⟩
theorem xF{defs:List (By×Def)}{goal:By}{k:Nat}{x y:Seen}(h:gy defs goal k [] x=some y):x=y:=by
 cases k with
 |zero=>rw[gy]at h;cases h
 |succ j=>rw[gy]at h;cases h;rfl
theorem TE{Dp E mb:Nat}{H:Hp}{goal:By}{defs:List (By×Def)}{k:Nat}(hT:ZH Dp E mb H goal defs k):Va Dp E mb H goal defs (k+1):=by
 intro d x y v w hm hw hd
 refine Ret.R fun R hR=>?_
 apply EO
 unfold vU
 have hl:=hw.lt
 have e5:=hw.t
 cases d with
 |none=>
  cases hd
  have hxy:x=y:=by simpa [visit] using hm
  subst hxy
  repeat' first|refine .x ?_|refine .y ?_|refine .z ?_|fail
  exact hR _ _ ⟨hw,Kp.refl _ _⟩
 |some d=>
  obtain⟨hd,hsm⟩:=hd
  obtain⟨nm,at_,dk⟩:=d
  cases dk with
  |const n=>
   obtain⟨b,rfl,h2⟩:=hd
   have hxy:x=y:=by simpa [visit] using hm
   subst hxy
   repeat' first|refine .x ?_|refine .y ?_|refine .z ?_|fail
   exact hR _ _ ⟨hw,Kp.refl _ _⟩
  |enum ns is=>
   obtain⟨b,u,z,rfl,h2,_⟩:=hd
   have hxy:x=y:=by simpa [visit] using hm
   subst hxy
   repeat' first|refine .x ?_|refine .y ?_|refine .z ?_|fail
   exact hR _ _ ⟨hw,Kp.refl _ _⟩
  |prog n vs=>
   obtain⟨b,u,l,rfl,h2,_⟩:=hd
   have hxy:x=y:=by simpa [visit] using hm
   subst hxy
   repeat' first|refine .x ?_|refine .y ?_|refine .z ?_|fail
   exact hR _ _ ⟨hw,Kp.refl _ _⟩
  |alias t=>
   obtain⟨b,u,rfl,h2,ht⟩:=hd
   have hb0:=hw.sub _ _ _ h2
   rw[visit]at hm
   dsimp only at hm
   repeat' first|refine .x ?_|refine .y ?_|refine .z ?_|fail
   refine eY.f (by kernel_rfl) ?_
   refine Cl.ret (hT k (Nat.le_refl _) t x y _ w.drew hm (hw.kp (by exact kpA)) ht) ?_
   rintro v2 w2 ⟨hw2,k2⟩
   exact hR _ _ ⟨hw2,(by exact kpA:Kp [] w w.drew).trans k2 (fun i _ ho=>⟨trivial,ho⟩)⟩
  |struct ds=>
   obtain⟨b,u,l,rfl,h2,hdl,hs1⟩:=hd
   obtain⟨pb,pr,pc,rfl,hpb⟩:=hs1
   have hb0:=hw.sub _ _ _ h2
   have hdsl:ds.length<1000000:=of_decide_eq_true hsm
   rw[visit]at hm
   dsimp only at hm
   repeat' first|refine .x ?_|refine .y ?_|refine .z ?_|fail
   refine Lp.nat (n:=ds.length) (fun n vals w'=>∃(i j:Nat) (z:Seen),vals=[i64 (i:Nat)]∧i+n=ds.length∧j≤k∧gy defs goal j ((ds.drop i).map (·.ty)) z=some y∧EW Dp E mb H goal defs w' z∧Kp (EX E) w w') ?_ ?_
   ·exact⟨0,k,x,rfl,by omega,Nat.le_refl _,hm,hw,Kp.refl _ _⟩
   rintro n _ wL jk C ⟨i,j,z,rfl,hin,hj,hz,hwL,kL⟩ hC
   have hpL:=hwL.sub _ _ _ hpb
   have hpd:=hwL.dom _ _ hpb
   have hDE:=hw.hD
   have e5L:=hwL.t
   have hlL:=hwL.lt
   have hpbl:=lt_of_heap hpL
   repeat' first|refine .x ?_|refine .y ?_|refine .z ?_|fail
   refine .split (fun hc=>?_) (fun hc=>?_)
   ·have hlt:i<ds.length:=by have:=of_decide_eq_true hc;omega
    obtain⟨tv,q1,q2,q3⟩:=hdl.at i hlt
    obtain⟨ti,tu,rfl⟩:=q3.form
    rw[List.drop_eq_getElem_cons hlt,List.map_cons]at hz
    obtain⟨j',z',rfl,hz1,hz2⟩:=vw hz
    refine .s ?_
    refine LdN.s ?_ hpL (by rw[List.length_append];omega) ((dU q1).trans q2)
    repeat' first|refine .x ?_|refine .y ?_|refine .z ?_|fail
    refine eY.f (by kernel_rfl) ?_
    refine Cl.w (fun w9=>Kp [] wL w9) (by exact kpA) ?_
    intro w9 k9
    refine Cl.ret (hT j' (by omega) ds[i].ty z z' _ w9 hz1 (hwL.kp k9) q3) ?_
    rintro v2 w2 ⟨hw2,k2⟩
    repeat' first|refine .x ?_|refine .y ?_|refine .z ?_|fail
    exact hC (n - 1) _ _ (by omega) ⟨i+1,j',z',rfl,by omega,by omega,hz2,hw2,(kL.trans k9 (fun i _ ho=>⟨ho,trivial⟩):Kp (EX E) w w9).trans k2 (fun i _ ho=>⟨ho,ho⟩)⟩
   ·have hge:i=ds.length:=by have:=of_decide_eq_false hc;omega
    subst hge
    rw[List.drop_length,List.map_nil]at hz
    have:=xF hz
    subst this
    exact hR _ _ ⟨hwL,kL⟩
  |union o nm2 ar els=>
   obtain⟨b,ov,u,l,ev,rfl,h2,ho,ha,hs1,hels⟩:=hd
   have QA:QT H els ev:=by
    cases els with
    |none=>exact hels
    |some x=>exact hels
   obtain⟨pb,pr,pc,rfl,hpb⟩:=hs1
   have hb0:=hw.sub _ _ _ h2
   have hb0d:=hw.dom _ _ h2
   have hdsl:ar.length<1000000:=by
    have:(decide (ar.length<1000000)&&ar.all fun a=>decide (a.nums.length<1000000))=true:=hsm
    rw[Bool.and_eq_true]at this
    exact of_decide_eq_true this.1
   rw[visit]at hm
   dsimp only at hm
   repeat' first|refine .x ?_|refine .y ?_|refine .z ?_|fail
   refine Lp.nat (n:=ar.length) (fun n vals w'=>∃(i j:Nat) (z:Seen),vals=[i64 (i:Nat)]∧i+n=ar.length∧j≤k∧gy defs goal j ((ar.drop i).map (·.decl.ty)++(els.map (·.ty)).toList) z=some y∧EW Dp E mb H goal defs w' z∧Kp (EX E) w w') ?_ ?_
   ·exact⟨0,k,x,rfl,by omega,Nat.le_refl _,hm,hw,Kp.refl _ _⟩
   rintro n _ wL jk C ⟨i,j,z,rfl,hin,hj,hz,hwL,kL⟩ hC
   have hpL:=hwL.sub _ _ _ hpb
   have hbL:=hwL.sub _ _ _ h2
   have hpd:=hwL.dom _ _ hpb
   have hDE:=hw.hD
   have e5L:=hwL.t
   have hlL:=hwL.lt
   have hpbl:=lt_of_heap hpL
   repeat' first|refine .x ?_|refine .y ?_|refine .z ?_|fail
   refine .split (fun hc=>?_) (fun hc=>?_)
   ·have hlt:i<ar.length:=by have:=of_decide_eq_true hc;omega
    obtain⟨nsv,tv,q1,q2,q4,q3⟩:=ha.at i hlt
    obtain⟨ti,tu,rfl⟩:=q3.form
    obtain⟨_,_,_,rfl,_⟩:=q4
    rw[List.drop_eq_getElem_cons hlt,List.map_cons,List.cons_append]at hz
    obtain⟨j',z',rfl,hz1,hz2⟩:=vw hz
    refine .s ?_
    refine LdN.s ?_ hpL (by rw[List.length_append];omega) ((dU q1).trans q2)
    repeat' first|refine .x ?_|refine .y ?_|refine .z ?_|fail
    refine eY.f (by kernel_rfl) ?_
    refine Cl.w (fun w9=>Kp [] wL w9) (by exact kpA) ?_
    intro w9 k9
    refine Cl.ret (hT j' (by omega) ar[i].decl.ty z z' _ w9 hz1 (hwL.kp k9) q3) ?_
    rintro v2 w2 ⟨hw2,k2⟩
    repeat' first|refine .x ?_|refine .y ?_|refine .z ?_|fail
    exact hC (n - 1) _ _ (by omega) ⟨i+1,j',z',rfl,by omega,by omega,hz2,hw2,(kL.trans k9 (fun i _ ho=>⟨ho,trivial⟩):Kp (EX E) w w9).trans k2 (fun i _ ho=>⟨ho,ho⟩)⟩
   ·have hge:i=ar.length:=by have:=of_decide_eq_false hc;omega
    subst hge
    rw[List.drop_length,List.map_nil,List.nil_append]at hz
    cases els with
    |none=>
     cases QA
     have:=xF hz
     subst this
     repeat' first|refine .x ?_|refine .y ?_|refine .z ?_|fail
     exact hR _ _ ⟨hwL,kL⟩
    |some d=>
     obtain⟨dc,dt,rfl,hdc,hdt⟩:=QA
     have hz':gy defs goal j [d.ty] z=some y:=hz
     obtain⟨j',z',rfl,hz1,hz2⟩:=vw hz'
     have:=xF hz2
     subst this
     have hdc0:=hwL.sub _ _ _ hdc
     refine .s ?_
     refine .s ?_
     refine .s ?_
     refine En.s (b:=false) ?_ rfl
     repeat' first|refine .x ?_|refine .y ?_|refine .z ?_|fail
     refine eY.f (by kernel_rfl) ?_
     refine Cl.ret (hT j' (by omega) d.ty z z' _ wL.drew hz1 (hwL.kp (by exact kpA)) hdt) ?_
     rintro v2 w2 ⟨hw2,k2⟩
     exact hR _ _ ⟨hw2,(kL.drew:Kp (EX E) w wL.drew).trans k2 (fun i _ ho=>⟨ho,ho⟩)⟩
theorem U8{Dp E mb:Nat}{H:Hp}{goal:By}{defs:List (By×Def)}(hsm:∀x∈defs,jE x.2=true):∀k,(∀j,j≤k→QM Dp E mb H goal defs j)∧Va Dp E mb H goal defs k
 |0=>by
  refine⟨fun j hj=>?_,?_⟩
  ·have:j=0:=by omega
   subst this
   intro t x y v w hm
   rw[through]at hm;cases hm
  ·intro d x y v w hm
   rw[visit]at hm;cases hm
 |k+1=>by
  obtain⟨h1,h2⟩:=U8 hsm k
  refine⟨fun j hj=>?_,TE h1⟩
  rcases Nat.lt_or_ge j (k+1)with h|h
  ·exact h1 j (by omega)
  ·have:j=k+1:=by omega
   subst this
   exact TL hsm (h1 k (Nat.le_refl _)) h2
theorem Rf{mb:Nat}{H:Hp}{defs:List (By×Def)}{d:Def}{v:Value}{w:World}{b:Bool}(hs:Sub H w)(hdom:∀b z,H b=some z→b<w.heap.size)(hmb:mb<w.heap.size)
  (hdm:∃es ck m,w.heap[mb]?=some (.map es ck)∧MK κs es ck m∧xw H m defs) (hsm:∀x∈defs,jE x.2=true) (hd:fQ H d v) (hds:jE d=true) (hm:endless defs d=some b):
  Calls P Ai #[.map (some mb),v] w (Ret fun r w'=>r=.bool b∧Kp [] w w'):=by
 refine Ret.R fun R hR=>?_
 apply Ic
 unfold zC
 obtain⟨y,hy,rfl⟩:∃y,visit defs d.name 1000 (some d) ⟨[],false⟩=some y∧y.found=b:=by
  unfold endless at hm
  cases hx:visit defs d.name 1000 (some d) ⟨[],false⟩with
  |none=>rw[hx]at hm;cases hm
  |some y=>rw[hx]at hm;exact⟨y,rfl,by simpa using hm⟩
 repeat' first|refine .x ?_|refine .y ?_|refine .z ?_|fail
 refine Bg hd (hs.kp (X:=[]) (by exact kpA) (fun _ _ _=>trivial)) ?_
 refine Cl.ret (Gy _ _) ?_
 rintro _ w1 ⟨rfl,k1⟩
 have z1:=k1.size
 rw[size_alloc]at z1
 have dd1:w1.heap[w.heap.size]?=some (cl [.map (some mb)] ig):=by exact lookA
 obtain⟨es,ck,m,d1,d2,d3⟩:=hdm
 repeat' first|refine .x ?_|refine .y ?_|refine .z ?_|fail
 obtain⟨E,hE⟩:∃E,w1.heap.size=E+1:=⟨w1.heap.size - 1,by omega⟩
 refine eY.f (by kernel_rfl) ?_
 refine Cl.w (fun w9=>Kp [] w w9∧w9.heap[w.heap.size]?=some (cl [.map (some mb)] ig)∧w9.heap[w1.heap.size]?=some (cl [.string (bs d.name)] lV)∧w9.heap[w1.heap.size+1]?=some (.map #[] 0)∧w9.heap[w1.heap.size+1+1]?=some (cl [.map (some (w1.heap.size+1))] 112) ∧
  w9.heap[w1.heap.size+1+1+1]?=some (cl [.bool false] 4)∧w9.heap[w1.heap.size+1+1+1+1]?=some (cl [.func (.func 86) #[] #[pt w1.heap.size 0,pt (w1.heap.size+1+1+1) 0,pt (w1.heap.size+1+1) 0,pt (w1.heap.size+1+1+1+1+1) 0,pt w.heap.size 0,pt (w1.heap.size+1+1+1+1) 0]] 210) ∧
  w9.heap[w1.heap.size+1+1+1+1+1]?=some (cl [.func (.func 87) #[] #[pt (w1.heap.size+1+1+1+1) 0]] 127)) ⟨by exact kpA,by exact lookA,by exact lookA,by exact lookA,by exact lookA,by exact lookA,by exact lookA,by exact lookA⟩ ?_
 rintro w2 ⟨k2,f0,f1,f2,f3,f4,f5,f6⟩
 rw[hE]at f1 f2 f3 f4 f5 f6
 have hw2:EW w.heap.size E mb H d.name defs w2 ⟨[],false⟩:=by
  refine⟨hs.kp k2 (fun _ _ _=>trivial),hdom,hmb,by omega,⟨es,ck,m,(k2.same _ hmb trivial).trans d1,d2,d3⟩,f0,f1,⟨#[],0,f2,MK.empty⟩,f3,f4,f5,f6,by have:=lt_of_heap f6;omega⟩
 have eE:(#[]++#[v]++#[pt (w1.heap.size+1+1+1+1) 0]:Array Value)=#[v,pt (E+5) 0]:=by rw[hE];rfl
 rw[eE]
 refine Cl.ret ((U8 hsm 1000).2 (some d) _ y v w2 hy hw2 ⟨hd,hds⟩) ?_
 rintro v3 w3 ⟨hw3,k3⟩
 have hf3:=hw3.f
 have eF:w1.heap.size+1+1+1=E+4:=by omega
 rw[eF]
 repeat' first|refine .x ?_|refine .y ?_|refine .z ?_|fail
 exact hR _ _ ⟨rfl,k2.trans k3 (fun i hi _=>⟨trivial,by omega,by omega,trivial⟩)⟩
end Go.W.T
namespace Go.W.T
open Go Go.W Go.M Go.Proofs
theorem TJ:P.underlying 112=some (.map 9 3):=by kernel_rfl
theorem W9{w:World}{b:Nat}{es:Array MapEntry}{ck:Nat}{K:KV}(h:w.heap[b]?=some (.map es ck))(hK:K (pt w.heap.size 0) (w.alloc (.mapIter (some b) ck #[] ck))):bY P (Instr.range 112 (.map (some b))) w K:=by
 refine bY.by (v:=pt w.heap.size 0) (w':=w.alloc (.mapIter (some b) ck #[] ck)) ?_ hK
 have hg:(getObj b).run P w=.ok (.map es ck) w:=by simp[getObj,Sem.run,h]
 simp[Instr.range,run_underlying TJ,hg,Result.andThen]
theorem Zp{w:World}{it b:Nat}{es:Array MapEntry}{ck:Nat}{seen:Array Nat}{K:KV}(h:w.heap[b]?=some (.map es ck))(hi:w.heap[it]?=some (.mapIter (some b) ck seen ck))(hs:MapKept.Stamped es ck)
  (hend:(∀e∈es.toList,seen.contains e.born=true)→K (.tuple #[.bool false]) w)
  (hK:∀e∈es.toList,seen.contains e.born=false→∀w1,w1=w∨w1=w.drew→K (.tuple #[.bool true,e.key,e.val]) (ah w1 it (.mapIter (some b) ck (seen.push e.born) ck))):bY P (Instr.next (pt it 0) false 0) w K:=by
 have hg:(getObj b).run P w=.ok (.map es ck) w:=by simp[getObj,Sem.run,h]
 have hgi:(getObj it).run P w=.ok (.mapIter (some b) ck seen ck) w:=by simp[getObj,Sem.run,hi]
 have hun:(!seen.isEmpty&&!es.isEmpty&&es.all fun x=>decide (x.born≥ck))=false:=by
  cases he:es.isEmpty with
  |true=>simp
  |false=>
   have:es.all (fun x=>decide (x.born≥ck))=false:=by
    rw[Bool.eq_false_iff]
    intro h1
    rw[Array.all_eq_true_iff_forall_mem]at h1
    have h2:0<es.size:=by
     rcases Nat.eq_zero_or_pos es.size with h3|h3
     ·have:es=#[]:=Array.eq_empty_of_size_eq_zero h3
      rw[this]at he;cases he
     ·exact h3
    have h3:=of_decide_eq_true (h1 es[0] (Array.getElem_mem h2))
    have h4:=hs.1 es[0] (by simp)
    omega
   rw[this];simp
 have hold:((es.filter fun e=>!seen.contains e.born).filter fun e=>decide (e.born<ck))=es.filter fun e=>!seen.contains e.born:=by
  apply Array.filter_eq_self.mpr
  intro x hx
  have:=(Array.mem_filter.mp hx).1
  exact decide_eq_true (hs.1 x (by simpa using this))
 have hnew:((es.filter fun e=>!seen.contains e.born).filter fun e=>decide (e.born≥ck))=#[]:=by
  apply Array.filter_eq_empty_iff.mpr
  intro x hx
  have:=(Array.mem_filter.mp hx).1
  have h4:=hs.1 x (by simpa using this)
  simp;omega
 have hch:∀n:Nat,0<n→∃i w1,i<n∧(w1=w∨w1=w.drew)∧(n=1→w1=w)∧(choose (.mapNext n)).run P w=.ok i w1:=fun n hn=>by
  by_cases h1:n≤1
  ·refine⟨0,w,hn,Or.inl rfl,fun _=>rfl,?_⟩
   have hf:(Question.mapNext n).forced=true:=by simpa [Question.forced] using h1
   simp[choose,Sem.run,hf]
  ·refine⟨(w.tape w.drawn (.mapNext n)) % n,w.drew,Nat.mod_lt _ hn,Or.inr rfl,fun h=>by omega,?_⟩
   have hf:(Question.mapNext n).forced=false:=by simpa [Question.forced] using h1
   simp only[choose,Sem.run,hf,Bool.false_eq_true,if_false]
   rfl
 have hmem:∀e,e∈(es.filter fun e=>!seen.contains e.born)↔e∈es.toList∧seen.contains e.born=false:=fun e=>by
  rw[Array.mem_filter];simp
 have hset:∀(w1:World) (o:Obj),w1.heap=w.heap→(setObj it o).run P w1=.ok () (ah w1 it o):=fun w1 o e=>by
  have:w1.heap[it]?=some (.mapIter (some b) ck seen ck):=by rw[e];exact hi
  simp[setObj,Sem.run,this,ah]
 obtain⟨QG,hcd⟩:∃X,X=(if((es.filter fun e=>!seen.contains e.born).filter fun e=>decide (e.born<ck)).isEmpty then#[none]else#[])++(((es.filter fun e=>!seen.contains e.born).filter fun e=>decide (e.born<ck))++((es.filter fun e=>!seen.contains e.born).filter fun e=>decide (e.born≥ck))).map some:=⟨_,rfl⟩
 have hcd2:=hcd
 rw[hold,hnew,Array.append_empty]at hcd2
 generalize hL:(es.filter fun e=>!seen.contains e.born)=left at *
 have hpos:0<QG.size:=by
  rw[hcd2]
  cases he:left.isEmpty with
  |true=>simp;omega
  |false=>
   have:0<left.size:=by
    rcases Nat.eq_zero_or_pos left.size with h3|h3
    ·rw[Array.eq_empty_of_size_eq_zero h3]at he;cases he
    ·exact h3
   simp;omega
 obtain⟨i,w1,hi1,hw1,hw2,hrun⟩:=hch QG.size hpos
 refine⟨?_⟩
 unfold QN Instr.next
 simp only[Sem.run_bind,hgi,hg,Result.andThen]
 rw[hun]
 simp only[Bool.false_eq_true,if_false,hL,← hcd,hrun,Sem.run_bind,Sem.run_pure,Result.andThen]
 cases he:left.isEmpty with
 |true=>
  have hl0:left=#[]:=by
   have:left.size=0:=by simpa [Array.isEmpty] using he
   exact Array.eq_empty_of_size_eq_zero this
  rw[he,hl0]at hcd2
  have hc1:QG=#[none]:=by rw[hcd2];simp
  subst hc1
  have hi0:i=0:=by simpa using hi1
  subst hi0
  have hww:=hw2 rfl
  subst hww
  have hx0:(#[none]:Array (Option MapEntry))[0]?=some none:=rfl
  rw[hx0]
  show K (.tuple #[.bool false]) w1
  refine hend fun e hee=>?_
  cases hx:seen.contains e.born with
  |true=>rfl
  |false=>
   have:=(hmem e).mpr ⟨hee,hx⟩
   rw[hl0]at this
   simp at this
 |false=>
  rw[he]at hcd2
  have hc1:QG=left.map some:=by rw[hcd2];simp
  subst hc1
  have hil:i<left.size:=by simpa using hi1
  have hx:(left.map some)[i]?=some (some left[i]):=by simp[hil]
  rw[hx]
  have hm:=(hmem left[i]).mp (Array.getElem_mem hil)
  have hheap:w1.heap=w.heap:=by
   rcases hw1 with r|r<;>rw[r]
   rfl
  simp only[Sem.run_bind,hset w1 _ hheap,Result.andThen,Sem.run_pure]
  exact hK _ hm.1 hm.2 w1 hw1
theorem find_born{e:MapEntry}:∀{l:List MapEntry},(l.map (·.born)).Nodup→e∈l→l.find? (fun x=>x.born==e.born)=some e
 |[],_,h=>by cases h
 |x::r,hn,h=>by
  simp only[List.map_cons,List.nodup_cons]at hn
  rw[List.find?_cons]
  cases hb:x.born==e.born with
  |true=>
   rcases List.mem_cons.mp h with h|h
   ·rw[h]
   ·exact absurd (by rw[beq_iff_eq.mp hb];exact List.mem_map.mpr ⟨e,h,rfl⟩) hn.1
  |false=>
   rcases List.mem_cons.mp h with h|h
   ·rw[h,beq_self_eq_true]at hb;cases hb
   ·exact find_born hn.2 h
theorem Xb{w:World}{it b:Nat}{es:Array MapEntry}{ck:Nat}{seen:Array Nat}{e:MapEntry}{K:KV}(h:w.heap[b]?=some (.map es ck))(hi:w.heap[it]?=some (.mapIter (some b) ck (seen.push e.born) ck))(hs:MapKept.Stamped es ck)(he:e∈es.toList)
  (hK:K (.tuple #[e.key,e.val]) w):bY P (Instr.entry (pt it 0)) w K:=by
 refine bY.by (v:=.tuple #[e.key,e.val]) (w':=w) ?_ hK
 have hg:(getObj b).run P w=.ok (.map es ck) w:=by simp[getObj,Sem.run,h]
 have hgi:(getObj it).run P w=.ok (.mapIter (some b) ck (seen.push e.born) ck) w:=by simp[getObj,Sem.run,hi]
 have hf:es.find? (fun x=>x.born==e.born)=some e:=by
  rw[← Array.find?_toList]
  exact find_born hs.2.1 he
 simp[Instr.entry,hg,hgi,hf,Result.andThen]
theorem CR.TW{B:Nat}{H:Hp}{ρ:aN}{T:List Nat}{w w':World}{c:CS}{l:List (By×Nat)}(h:CR B H ρ T w c)(k:Kp [(B,B+1)] w w')(hm:∃es ck,w'.heap[B]?=some (.map es ck)∧MK κs es ck (l.map fun x=>(x.1,i64 (x.2:Nat)))):
  CR B H ρ T w' { c with types:=l }:=by
 have hl:=h.lt
 have hB:=h.hB
 have hs:∀i,i<B+7→i≠B→w'.heap[i]?=w.heap[i]?:=fun i hi hn=>k.same i (by omega) ⟨by omega,trivial⟩
 have hk:∀b,ρ b≠(0,0)→Out [(B,B+1)] b:=fun b hb=>⟨by have:=h.ge b hb;omega,trivial⟩
 obtain⟨v,cells,o,a1,a2,a3,a4⟩:=h.L
 obtain⟨v2,o2,b1,b2,b3⟩:=h.calls
 obtain⟨es,ck,d1,d2⟩:=h.procs
 obtain⟨es3,ck3,m3,e1,e2,e3⟩:=h.bM
 obtain⟨es4,ck4,m4,f1,f2,f3⟩:=h.defs
 obtain⟨es5,ck5,g1,g2⟩:=h.start
 exact { gl:=h.gl.kp k (fun i hi=>⟨by omega,trivial⟩),hB:=hB,sub:=h.sub.kp k (fun b x hx=>⟨by have:=h.dom b x hx;omega,trivial⟩),dom:=h.dom,lt:=by have:=k.size;omega,
         free := fun b hb => h.free b (by have := k.size; omega), low := h.low,
         L := ⟨v, cells, o, (hs _ (by omega) (by omega)).trans a1, a2.kp k (fun b hb => hk b (by rw [a4 b hb]; simp)), a3, a4⟩,
         calls := ⟨v2, o2, (hs _ (by omega) (by omega)).trans b1, b2.kp k (fun b hb => hk b (by rw [b3 b hb]; simp)), b3⟩,
         jU := h.jU, tabs := fun i b l hb hl => by obtain ⟨x1, x2⟩ := h.tabs i b l hb hl; exact ⟨x1.kp k (hk b (by rw [x2]; simp)), x2⟩,
         types := hm, procs := ⟨es, ck, (hs _ (by omega) (by omega)).trans d1, d2⟩,
         bM := ⟨es3, ck3, m3, (hs _ (by omega) (by omega)).trans e1, e2, e3.kp k (fun b hb _ _ => hk b hb)⟩,
         defs := ⟨es4, ck4, m4, (hs _ (by omega) (by omega)).trans f1, f2, f3⟩, start := ⟨es5, ck5, (hs _ (by omega) (by omega)).trans g1, g2⟩, uF := h.uF }
def NI:Value→By
 |.string s=>s.data.toList
 |_=>[]
theorem Ui(l:By):NI (κs l)=l:=rfl
end Go.W.T
