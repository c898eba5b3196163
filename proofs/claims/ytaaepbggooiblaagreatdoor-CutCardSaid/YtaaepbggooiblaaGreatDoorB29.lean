/- Texts of mine, one behind the other; nothing is assumed. -/
import Derived.Test.YtaaepbggooiblaaGreatDoorB28
import Derived.Test.YtaaepbggooiblaaGreatDoorB27
import Derived.Lib.ItoaLen
import Derived.Test.YtaaepbggooiblaaGreatDoorB05
set_option linter.unusedSimpArgs false
set_option linter.unusedVariables false
set_option maxRecDepth 100000
namespace Go.W.T
open Go Go.W Go.M Go.Proofs Go.Lib
end Go.W.T
namespace Go.W.T
open Go Go.W Go.M Go.Proofs
theorem Zo:liesAt P P.depth 139 (2 / P.cellsOf 139) 0 139 1=true:=by kernel_rfl
theorem QX{w:World}{eb:Nat}{a buf:Value}(h:w.heap[eb]?=some (cl [a,buf] 139))(ha:a=.pointer none∨a=pt eb 0):
  Calls P fQ #[pt eb 0] w (Ret fun _ w'=>w'.heap[eb]?=some (cl [pt eb 0,buf] 139)∧Kp [(eb,eb+1)] w w'):=by
 refine Ret.R fun R hR=>?_
 apply jZ
 unfold fO
 obtain⟨j,hj,hjs⟩:=Option.map_eq_some_iff.1 WI
 have hlt:=lt_of_heap h
 have hsh:w.shape? eb=some (139,2):=by simp[World.shape?,h,cl]
 rcases ha with rfl|rfl
 ·repeat' first|refine .x ?_|refine .y ?_|refine .z ?_|fail
  refine bH.ok (Lib.run_to_unsafe w ⟨eb,0,none⟩ XL u167 hj (by rw[hjs];decide) hsh (by decide:(0:Nat)<2)) ?_
  refine eH.val (v:=pt eb 0) (w':=w) ?_ ?_
  ·rw[run_callFunc_extern Tryz.func132 (by kernel_rfl) (by kernel_rfl) (by kernel_rfl) (e:=Extern.AbiNoEscape.same) (by kernel_rfl),Lib.run_noEscape]
   rfl
  refine bH.ok (Lib.run_from_unsafe w ⟨eb,0,none⟩ u167 XL hj hsh Zo) ?_
  repeat' first|refine .x ?_|refine .y ?_|refine .z ?_|fail
  exact hR _ _ ⟨by exact lookA,by exact kpA⟩
 ·refine .s ?_
  refine .s ?_
  refine .s ?_
  refine .s ?_
  refine If.f ?_ rfl
  repeat' first|refine .x ?_|refine .y ?_|refine .z ?_|fail
  refine bH.ok (v:=.bool false) (w':=w) ?_ ?_
  ·have h1:=Lib.run_neq_ptr_same w ⟨eb,0,none⟩ XL hj
   simp[eqGuard]
   exact h1
  refine If.f ?_ rfl
  exact hR _ _ ⟨h,Kp.refl _ _⟩
theorem aaK{w:World}{eb:Nat}{a buf:Value}{n:Nat}{l:List Value}{o:Option Nat}(s:By)(h:w.heap[eb]?=some (cl [a,buf] 139))(ha:a=.pointer none∨a=pt eb 0)
  (hg:Gw w 5 1 buf n l o) (ho:∀b,o=some b→b≠eb) (hn:n+s.length≤4000000000):
  Calls P dB #[pt eb 0,κs s] w (Ret fun _ w'=>∃buf' o',w'.heap[eb]?=some (cl [pt eb 0,buf'] 139)∧Gw w' 5 1 buf' (n+s.length) (l++aG s) o'∧(∀b,o'=some b→b≠eb∧(o=some b∨w.heap.size≤b))∧Kp ((eb,eb+1)::own o) w w'):=by
 refine Ret.R fun R hR=>?_
 apply jA
 unfold eY
 have hlt:=lt_of_heap h
 refine Cl.ret (QX h ha) ?_
 rintro v w1 ⟨h1,k1⟩
 have s1:=k1.size
 have g1:=hg.kp k1 (fun b hb=>⟨by have:=ho b hb;omega,trivial⟩)
 obtain⟨va,vc,rfl⟩:=g1.len
 repeat' first|refine .x ?_|refine .y ?_|refine .z ?_|fail
 refine Ap.str g1 ?_ (by omega)
 intro v' w2 o' g2 ho' k2
 have z2:=k2.size
 obtain⟨aa',ca',rfl⟩:=g2.len
 have c2':w2.heap[eb]?=some (cl [pt eb 0,.slice va n vc] 139):=(k2.same _ (by omega) (aB fun e=>ho eb e rfl)).trans h1
 repeat' first|refine .x ?_|refine .y ?_|refine .z ?_|fail
 refine(fun(Q:∀w9,Kp [(eb,eb+1)] w2 w9∧w9.heap[eb]?=some (cl [pt eb 0,.slice aa' (n+s.length) ca'] 139)→R (.returned (.tuple #[i64 (s.length:Nat),.nilIface])) w9)=>Q _ ⟨by exact kpA,by exact lookA⟩) ?_
 rintro w3 ⟨k3,c3'⟩
 have hoo:∀b,o'=some b→b≠eb∧(o=some b∨w.heap.size≤b):=by
  rintro b rfl
  rcases ho' with r|r
  ·exact⟨ho b r.symm,Or.inl r.symm⟩
  ·have:=Option.some.inj r;exact⟨by omega,Or.inr (by omega)⟩
 refine hR _ _ ⟨_,o',c3',g2.kp k3 (fun b hb=>⟨by have:=(hoo b hb).1;omega,trivial⟩),hoo,?_⟩
 exact((k1.trans k2 (fun i _ ho=>⟨⟨ho.1,trivial⟩,ho.2⟩):Kp ((eb,eb+1)::own o) w w2)).trans k3 (fun i _ ho=>⟨ho,ho.1,trivial⟩)
theorem aaX{w:World}{eb:Nat}{a buf:Value}{o:Option Nat}(out:By)(h:w.heap[eb]?=some (cl [a,buf] 139))(hg:Gw w 5 1 buf out.length (aG out) o)(ho:∀b,o=some b→b≠eb)(hn:out.length≤4000000000):
  Calls P iZ #[pt eb 0] w (Ret fun v w'=>v=κs out∧Kp (own o) w w'):=by
 refine Ret.R fun R hR=>?_
 apply mJ
 unfold iV
 have hlt:=lt_of_heap h
 obtain⟨hl,hg2⟩:=hg
 cases o with
 |none=>
  obtain⟨rfl,hz⟩:=hg2
  have ho0:out=[]:=List.length_eq_zero_iff.mp hz
  subst ho0
  repeat' first|refine .x ?_|refine .y ?_|refine .z ?_|fail
  refine eH.val (jQ (Lib.run_unsafeSliceData_nil _ _ _ _ _)) ?_
  refine⟨by repeat' first|refine .x ?_|refine .y ?_|refine .z ?_|fail
            rfl, ?_⟩
  refine eH.val (iL (Lib.run_unsafeString_none _ _ _ _ _)) ?_
  exact hR _ _ ⟨rfl,by exact kpA⟩
 |some b=>
  obtain⟨rest,cap,rfl,hbb,hcap⟩:=hg2
  have hblt:=lt_of_heap hbb
  have hbe:=ho b rfl
  rw[fJ]at hcap
  repeat' first|refine .x ?_|refine .y ?_|refine .z ?_|fail
  by_cases hz:cap=0
  ·subst hz
   have ho0:out=[]:=List.length_eq_zero_iff.mp (by omega)
   subst ho0
   refine eH.val (jQ (Lib.run_unsafeSliceData_zero _ _ _ 5 u238 ⟨b,0,none⟩ _ (5,rest.length) (by have hb':w.drew.heap[b]?=_:=hbb;simp[World.shape?,hb',cl,aG]))) ?_
   refine⟨by repeat' first|refine .x ?_|refine .y ?_|refine .z ?_|fail
             rfl, ?_⟩
   refine eH.val (iL (Lib.run_unsafeString_none _ _ _ _ _)) ?_
   exact hR _ _ ⟨rfl,by exact kpA⟩
  ·refine eH.val (jQ (Lib.run_unsafeSliceData_row _ _ _ _ _ _ hz)) ?_
   refine⟨by repeat' first|refine .x ?_|refine .y ?_|refine .z ?_|fail
             rfl, ?_⟩
   by_cases ho0:out=[]
   ·subst ho0
    refine eH.val (iL (Lib.run_unsafeString_none _ _ _ _ _)) ?_
    exact hR _ _ ⟨rfl,by exact kpA⟩
   ·refine eH.val (iL (Lib.run_unsafeString_row _ _ _ _ 5 u238 cells5 b (aG out++rest).length (by have hb':w.drew.heap[b]?=_:=hbb;simp[World.shape?,hb',cl]) out ho0 (by rw[List.length_append,fJ];omega) (by omega) ?_)) ?_
    ·intro j x hx
     have hb':w.drew.heap[b]?=_:=hbb
     rw[add_eq,eG,hb']
     simp only[Option.bind_some,bC,Nat.zero_add]
     rw[List.getElem?_toArray,List.getElem?_append_left (by rw[fJ];exact(List.getElem?_eq_some_iff.mp hx).1),aG,List.getElem?_map,hx]
     rfl
    exact hR _ _ ⟨rfl,(by exact kpA:Kp [] w w.drew).trans (Kp.freeze _ _ _) (fun i _ h=>⟨trivial,h⟩)⟩
end Go.W.T
namespace Go.W.T
open Go Go.W Go.M Go.Proofs
end Go.W.T
