/- Texts of mine, one behind the other; nothing is assumed. -/
import Derived.Test.YtaaepbggooiblaaGreatDoorB27
import Derived.Test.YtaaepbggooiblaaGreatDoorB28
set_option linter.unusedSimpArgs false
set_option linter.unusedVariables false
set_option maxRecDepth 100000
namespace Go.W.T
open Go Go.W Go.M Go.Proofs Go.RowKit
def Mine(Bo:Nat)(W:World)(b:Nat):Prop:=b=Bo∨∃n c,W.heap[Bo]?=some (cl [.slice (some ⟨b,0,none⟩) n c] 34)
structure Kr (Bo:Nat) (A B:World):Prop where
 size:A.heap.size≤B.heap.size
 same:∀b o,A.heap[b]?=some o→o.isCells=true→¬ Mine Bo A b→B.heap[b]?=some o
 mine:∀b,Mine Bo B b→Mine Bo A b∨A.heap.size≤b
theorem Kr.trans{Bo:Nat}{A B C:World}(h:Kr Bo A B)(k:Kr Bo B C):Kr Bo A C:=
 ⟨Nat.le_trans h.size k.size,fun b o hb ho hm=>k.same b o (h.same b o hb ho hm) ho fun hB=>by
  rcases h.mine b hB with e|e
  ·exact hm e
  ·have:=lt_of_heap hb;omega,fun b hC=>by
  rcases k.mine b hC with e|e
  ·exact h.mine b e
  ·exact Or.inr (Nat.le_trans h.size e)⟩
theorem Mine.grow{Bo:Nat}{A B:World}(k:Kp [] A B)(ho:Bo<A.heap.size){b:Nat}(h:Mine Bo B b):Mine Bo A b:=by
 rcases h with rfl|⟨n,c,h⟩
 ·exact Or.inl rfl
 ·exact Or.inr ⟨n,c,(k.same _ ho trivial).symm.trans h⟩
theorem NR{A B:World}(k:Kp [] A B):A.grownBy B none:=⟨k.os,k.tape,k.output,k.size,fun i hi _=>k.same i hi trivial⟩
theorem Ud{w W:World}(h:Below w.heap.size w W):Kp [] w W:=⟨h.os,h.tape,h.output,h.size,fun i hi _=>h.block i hi⟩
def cZ(l:List Nd):List Nd:=l.filter fun n=>n.kind==2
theorem Ij{l:List Nd}{i:Nat}{n:Nd}(h:l[i]?=some n):cZ (l.take (i+1))=cZ (l.take i)++(if n.kind==2 then[n]else[]):=by
 unfold cZ
 rw[List.take_add_one,h,Option.toList_some,List.filter_append]
 congr 1
 cases hk:n.kind==2<;>simp[List.filter,hk]
theorem yf(l:List Nd)(i:Nat):cZ (l.take i)<+:cZ l:=by
 unfold cZ
 exact(List.take_prefix i l).filter _
def ocL:Oc (List Nd)→List Nd
 |.ok v=>v
 |_=>[]
theorem Sr{w:World}{lv:Value}{l:List Nd}{o:Option Nat}(h:Gw w dK 5 lv l.length (aJ l) o){i:Nat}{n:Nd}(hi:l[i]?=some n):∃b rest cap,o=some b∧lv=.slice (some ⟨b,0,none⟩) l.length cap∧w.heap[b]?=some (cl (aJ l++rest) dK)∧((aJ l++rest).drop (0+i*5)).take 5=gz n∧0+i*5+5≤(aJ l++rest).length:=by
 have hlt:=(List.getElem?_eq_some_iff.mp hi).1
 obtain⟨h1,h2⟩:=h
 cases o with
 |none=>obtain⟨_,h3⟩:=h2;omega
 |some b=>
  obtain⟨rest,cap,rfl,h3,h4⟩:=h2
  have hle:i*5+5≤(aJ l).length:=by rw[h1];omega
  refine⟨b,rest,cap,rfl,rfl,h3,?_,by rw[List.length_append];omega⟩
  rw[Nat.zero_add,List.drop_append_of_le_length (by omega),List.take_append_of_le_length (by rw[List.length_drop];omega)]
  exact xW hi
theorem WZ{w w':World}{t u:TypeId}{k:Nat}{lv:Value}{n:Nat}{cs:List Value}{b:Nat}{l:List Value}(h:Gw w t k lv n cs (some b))(h1:w.heap[b]?=some (cl l u))(h2:w'.heap[b]?=some (cl l u)):Gw w' t k lv n cs (some b):=by
 obtain⟨a,rest,cap,e,h3,h4⟩:=h
 exact⟨a,rest,cap,e,h2.trans (h1.symm.trans h3),h4⟩
abbrev Zw(x:Nd):Array Value:=#[.agg (List.toArray (gz x))]
theorem KI{w0:World}{d:CS}{xb:Nat}{name b:By}{lim:Lim}{m Bo:Nat}(hk:vN w0 d (pt xb 0))(hdl:(ocL (uD d lim name b)).length≤10000){c1 c2 c3 c4:Nat}(hbo:w0.heap[Bo]?=some (cl [.slice none 0 0] 34))
  (g1:w0.heap[c1]?=some (cl [pt xb 0] 22)) (g2:w0.heap[c2]?=some (cl [κs name] 9)) (g3:w0.heap[c3]?=some (cl [κs b] 9)) (g4:w0.heap[c4]?=some (cl [.int .i64 lim.depth,.int .i64 lim.fuel,.int .i64 lim.size] 32)):
  SeqStopsK Fence.wide m P 62 #[pt c1 0,pt c2 0,pt c3 0,pt c4 0] Zw (Kr Bo) (fun xs=>xs=cZ (ocL (uD d lim name b))) (fun pre=>pre<+:cZ (ocL (uD d lim name b))) 10001 w0:=by
 intro l J Jx W hW hJ hJx hY hJ0
 have k0:=Ud hW
 have z0:=k0.size
 have main:∀R:Ending→World→Prop,(∀W',((∃xs,xs=cZ (ocL (uD d lim name b))∧J xs W')∨(∃pre,pre<+:cZ (ocL (uD d lim name b))∧Jx pre W'))→R (.returned (.tuple #[])) W')→CallsIn Fence.wide m P 62 #[.func (.yield l) #[] #[],pt c1 0,pt c2 0,pt c3 0,pt c4 0] W R:=by
  intro R hR
  apply vg
  unfold gq
  have g1':W.heap[c1]?=_:=(k0.same _ (lt_of_heap g1) trivial).trans g1
  have g2':W.heap[c2]?=_:=(k0.same _ (lt_of_heap g2) trivial).trans g2
  have g3':W.heap[c3]?=_:=(k0.same _ (lt_of_heap g3) trivial).trans g3
  have g4':W.heap[c4]?=_:=(k0.same _ (lt_of_heap g4) trivial).trans g4
  repeat' first|refine .x ?_|refine .y ?_|refine .z ?_|fail
  refine Cl.ret ((hk.kp0 k0).decode name b lim) ?_
  rintro r w6 ⟨k6,hd⟩
  have z6:=k6.size
  have hJ6:J [] w6:=hJ _ _ _ none hJ0 (NR k6) fun r e=>by cases e
  cases hm:uD d lim name b with
  |flt e a=>
   rw[hm]at hd
   obtain⟨ev,rfl,fb,rfl,hE⟩:=hd
   repeat' first|refine .x ?_|refine .y ?_|refine .z ?_|fail
   refine hR _ (Or.inl ⟨[],?_,hJ6⟩)
   rw[hm];rfl
  |num e=>
   rw[hm]at hd
   obtain rfl:r=_:=hd
   repeat' first|refine .x ?_|refine .y ?_|refine .z ?_|fail
   refine hR _ (Or.inl ⟨[],?_,hJ6⟩)
   rw[hm];rfl
  |ok v=>
   rw[hm]at hd hdl hR
   obtain⟨lv,o,rfl,hg,hgo⟩:=hd
   have hdl:v.length≤10000:=hdl
   have hR:∀W',((∃xs,xs=cZ v∧J xs W')∨(∃pre,pre<+:cZ v∧Jx pre W'))→R (.returned (.tuple #[])) W':=hR
   obtain⟨la,lc,hlv⟩:=hg.len
   have V7:∀b,o=some b→¬ Mine Bo w6 b:=fun b hb UC=>by
    have hb2:=hgo b hb
    have hb0:=lt_of_heap hbo
    have hbo6:w6.heap[Bo]?=_:=((k0.tt k6).same _ hb0 trivial).trans hbo
    rcases UC with rfl|⟨n,c,h⟩
    ·omega
    ·rw[hbo6]at h
     have:=Option.some.inj h
     simp[cl]at this
   subst hlv
   have hb0:=lt_of_heap hbo
   repeat' first|refine .x ?_|refine .y ?_|refine .z ?_|fail
   refine Lp.nat (fun m vals w'=>∃(i:Nat),m+i=v.length∧vals=[i64 i]∧J (cZ (v.take i)) w'∧Gw w' dK 5 (.slice la v.length lc) v.length (aJ v) o∧(∀b,o=some b→¬ Mine Bo w' b)∧Bo<w'.heap.size) (n:=v.length) ⟨0,by omega,rfl,hJ6,hg,V7,by omega⟩ ?_
   rintro mm _ w12 jk C ⟨i,hi,rfl,Zn,Zi,hnm,hbz⟩ hC
   repeat' first|refine .x ?_|refine .y ?_|refine .z ?_|fail
   refine .split (fun hh=>?_) (fun hh=>?_)
   ·have hi':i<v.length:=by have:=of_decide_eq_true hh;omega
    obtain⟨nd,hnd⟩:∃nd,v[i]?=some nd:=⟨_,List.getElem?_eq_getElem hi'⟩
    obtain⟨lb,rest,cap,rfl,hsl,hlb,hcells,hle⟩:=Sr Zi hnd
    have hnml:=hnm lb rfl
    have hlt:=Ij hnd
    have hlbz:=lt_of_heap hlb
    cases hsl
    refine .s ?_
    refine LdN.s (l':=[.int .i64 nd.kind,.int .i64 nd.n,κs nd.s,.int .i64 nd.at_,.int .i64 nd.len]) ?_ hlb (by simpa using hle) (by simp only[Nat.zero_add]at hcells ⊢;exact hcells)
    refine .s ?_
    refine .s ?_
    have k20:Kp [] w12 (ah (w12.alloc (cl [.int .i64 0,.int .i64 0,.string ⟨#[]⟩,.int .i64 0,.int .i64 0] 52)) w12.heap.size (cl [.int .i64 nd.kind,.int .i64 nd.n,κs nd.s,.int .i64 nd.at_,.int .i64 nd.len] 52)):=by exact kpA
    have n20:(ah (w12.alloc (cl [.int .i64 0,.int .i64 0,.string ⟨#[]⟩,.int .i64 0,.int .i64 0] 52)) w12.heap.size (cl [.int .i64 nd.kind,.int .i64 nd.n,κs nd.s,.int .i64 nd.at_,.int .i64 nd.len] 52)).heap[w12.heap.size]?=some (cl [.int .i64 nd.kind,.int .i64 nd.n,κs nd.s,.int .i64 nd.at_,.int .i64 nd.len] 52):=by exact lookA
    generalize ah (w12.alloc (cl [.int .i64 0,.int .i64 0,.string ⟨#[]⟩,.int .i64 0,.int .i64 0] 52)) w12.heap.size (cl [.int .i64 nd.kind,.int .i64 nd.n,κs nd.s,.int .i64 nd.at_,.int .i64 nd.len] 52)=w20 at *
    have hJ20:J (cZ (v.take i)) w20:=hJ _ _ _ none Zn (NR k20) fun r e=>by cases e
    have z20:=k20.size
    have XJ:w20.heap[lb]?=_:=(k20.same _ hlbz trivial).trans hlb
    have UA:¬ Mine Bo w20 lb:=fun h=>hnml (Mine.grow k20 hbz h)
    refine .s ?_
    refine .s ?_
    refine .s ?_
    cases hkk:nd.kind==2 with
    |false=>
     have e2:(nd.kind==2)=false:=hkk
     rw[hkk]at hlt
     simp only[Bool.false_eq_true,if_false,List.append_nil]at hlt
     repeat' first|refine .x ?_|refine .y ?_|refine .z ?_|fail
     refine hC (mm - 1) _ _ (by omega) ⟨i+1,by omega,rfl,by rw[hlt];exact hJ20,Zi.kp k20 fun _ _=>trivial,fun b hb=>by cases hb;exact UA,by omega⟩
    |true=>
     rw[hkk]at hlt
     simp only[if_true]at hlt
     have hlen:(cZ (v.take i)).length<10001:=by
      have:=(yf v i).length_le
      have:(cZ v).length≤v.length:=List.length_filter_le _ _
      omega
     have hy:=hY (cZ (v.take i)) nd w20 hJ20 hlen
     rw[← hlt]at hy
     repeat' first|refine .x ?_|refine .y ?_|refine .z ?_|fail
     refine Vj.mk ?_
     unfold P9
     obtain⟨fn,tmps,assign,body,hy1,hy2⟩:=hy
     refine⟨rfl,rfl,fn,tmps,assign,body,hy1,hy2.mono ?_⟩
     rintro e w33 (⟨rfl,hJ33,k33⟩|⟨rfl,hx33⟩)
     ·refine⟨_,rfl,?_⟩
      have hlb33:w33.heap[lb]?=_:=k33.same _ _ XJ rfl UA
      have z33:=k33.size
      have hlbz20:=lt_of_heap XJ
      repeat' first|refine .x ?_|refine .y ?_|refine .z ?_|fail
      refine hC (mm - 1) _ _ (by omega) ⟨i+1,by omega,rfl,hJ33,WZ Zi hlb hlb33,fun b hb UC=>?_,by omega⟩
      cases hb
      rcases k33.mine _ UC with e|e
      ·exact UA e
      ·omega
     ·refine⟨_,rfl,?_⟩
      repeat' first|refine .x ?_|refine .y ?_|refine .z ?_|fail
      exact hR _ (Or.inr ⟨_,yf v (i+1),hx33⟩)
   ·have hi':i=v.length:=by have:=of_decide_eq_false hh;omega
    subst hi'
    rw[List.take_length]at Zn
    exact hR _ (Or.inl ⟨_,rfl,Zn⟩)
 exact(main _ fun W' h=>⟨⟨_,rfl⟩,h⟩)
end Go.W.T
