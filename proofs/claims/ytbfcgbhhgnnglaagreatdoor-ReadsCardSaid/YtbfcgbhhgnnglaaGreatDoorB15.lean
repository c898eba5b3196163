/- Texts of mine, one behind the other; nothing is assumed. -/
import Derived.Test.YtbfcgbhhgnnglaaGreatDoorB08
import Derived.Test.YtbfcgbhhgnnglaaGreatDoorB10
import Derived.DeepKeys3
set_option autoImplicit true
set_option relaxedAutoImplicit true
set_option linter.unusedSimpArgs false
set_option linter.unusedVariables false
namespace Go.W.T
open Go Go.W
abbrev κc(x:Int×Int×Int):Value:=.agg #[.int .u32 x.1,.int .u32 x.2.1,.int .u32 x.2.2]
def inU(n:Int):Prop:=0<=n/\n<=4294967295
def Xm(x:Int×Int×Int):Prop:=inU x.1/\inU x.2.1/\inU x.2.2
theorem OT:WideMaps.KeyLaw P rZ:=deep_law (m:=5) dcd (by kernel_rfl) (by kernel_rfl) (by kernel_rfl)
noncomputable def VP:List Field:=match P.underlying 224 with|some (.struct fs)=>fs.toList|_=>[]
theorem Si:VP.map (λf=>(f.type,f.offset))=[(222,0),(222,1),(222,2)]:=by kernel_rfl
theorem TZ{g:Field->Option (List Lit)}{l:List Field}{x y z:List Lit}{o:List (TypeId×Nat)}(ho:l.map (λf=>(f.type,f.offset))=o){q:TypeId×Nat->Option (List Lit)}(hg:∀f,g f=q (f.type,f.offset))
  (h:o.mapM q=some [x,y,z]):l.mapM g=some [x,y,z]:=by
 subst ho;rw[List.mapM_map]at h;rw[<- h];congr 1;funext f;exact hg f
theorem Jp{x:Int×Int×Int}(h:Xm x):∃l,keyOf P rZ (κc x)=some l:=by
 obtain⟨a,b,c⟩:=x;obtain⟨⟨a0,a1⟩,⟨b0,b1⟩,⟨c0,c1⟩⟩:=h;dsimp only at a0 a1 b0 b1 c0 c1;have wf:∀n:Int,0<=n->n<=4294967295->(Lit.int .u32 n).wf=true:=λn h0 h1=>by
  have e0:IntKind.u32.min=0:=dcd;have e1:IntKind.u32.max=4294967295:=dcd;simp[Lit.wf,e0,e1,h0,h1]
 obtain⟨fs,hu,h4,h5⟩:∃fs:Array Field,P.underlying 224=some (.struct fs)/\fs.toList=VP/\fs.all (·.name != "_")=true:=by
  have hb:(match P.underlying 224 with|some (.struct fs)=>fs.all (·.name != "_")|_=>false)=true:=by kernel_rfl
  unfold VP;split at hb
  .rename_i fs h;exact⟨fs,h,by first|rfl|rw[h],hb⟩
  .cases hb
 have hu2:P.underlying 222=some (.int .u32):=by kernel_rfl
 have hc:P.cellsOf 224=3:=by kernel_rfl
 have hc2:P.cellsOf 222=1:=by kernel_rfl
 have hk:P.keyType 224=true:=by kernel_rfl
 obtain⟨n,hn⟩:∃n,P.types.size=n+1:=⟨P.types.size - 1,by kernel_rfl⟩;have hl:∀v:Int,0<=v->v<=4294967295->P.keyLits (n+1) 222 [.int .u32 v]=some [.int .u32 v]:=λv h0 h1=>by
  simp[Program.keyLits,hu2,wf v h0 h1]
 have hm:VP.mapM (λf=>P.keyLits (n+1) f.type (([Value.int .u32 a,.int .u32 b,.int .u32 c].drop f.offset).take (P.cellsOf f.type)))=some [[.int .u32 a],[.int .u32 b],[.int .u32 c]]:=by
  refine TZ Si (q:=λo=>P.keyLits (n+1) o.1 (([Value.int .u32 a,.int .u32 b,.int .u32 c].drop o.2).take (P.cellsOf o.1))) (λf=>rfl) ?_;simp[hc2,hl a a0 a1,hl b b0 b1,hl c c0 c1]
 have hlits:P.keyLits (P.types.size+1) 224 [.int .u32 a,.int .u32 b,.int .u32 c]=some ([[Lit.int .u32 a],[.int .u32 b],[.int .u32 c]].flatten):=by
  rw[hn];unfold Program.keyLits;rw[hu];simp only[h4,h5,hc,List.length_cons,List.length_nil,and_self,if_true,hm];rfl
 have hf:(κc (a,b,c)).formed P 224=true:=by
  simp[Value.formed,hu,hc]
 refine Option.isSome_iff_exists.mp ?_;unfold keyOf;rw[hu];simp only[hk,hf,Bool.and_self,if_true];have e:(κc (a,b,c)).cells.toList=[.int .u32 a,.int .u32 b,.int .u32 c]:=rfl;rw[e,hlits];rfl
theorem aaS(h:κc a=κc b):a=b:=by
 obtain⟨a1,a2,a3⟩:=a;obtain⟨b1,b2,b3⟩:=b;simpa using h
theorem QF{es:List MapEntry}{m:List ((Int×Int×Int)×Value)}{a:Int×Int×Int}{u:Value}(h:es.map (λe=>(e.key,e.val))=m.map (λx=>(κc x.1,x.2)))(hn:(es.map (·.key)).Nodup){j:Nat}{e:MapEntry}
  (hj:es[j]?=some e) (he:e.key=κc a):m.lookup a=some e.val/\(es.modify j λe=>{ e with key:=κc a,val:=u }).map (λe=>(e.key,e.val))=(qW m a u).map (λx=>(κc x.1,x.2)):=by
 induction es generalizing m j with
 |nil=>simp at hj
 |cons e0 es ih=>
  cases m with
  |nil=>simp at h
  |cons x m=>
   simp only[List.map_cons,List.cons.injEq,Prod.mk.injEq]at h;obtain⟨⟨h1,h2⟩,h3⟩:=h;simp only[List.map_cons,List.nodup_cons]at hn;cases j with
   |zero=>
    simp at hj;subst hj;have hx:a=x.1:=aaS (by rw[<- he,h1]);subst hx;refine⟨?_,by simp[qW,h3]⟩;rw[List.lookup_cons,beq_self_eq_true,h2]
   |succ j=>
    have hne:(a==x.1)=false:=by
     rw[beq_eq_false_iff_ne];intro e2;apply hn.1;rw[h1,<- e2,<- he];exact List.mem_map.mpr ⟨e,List.mem_of_getElem? (by simpa using hj),rfl⟩
    obtain⟨q1,q2⟩:=ih h3 hn.2 (by simpa using hj);refine⟨by rw[List.lookup_cons,hne];exact q1,?_⟩;simp only[List.modify_succ_cons,List.map_cons,qW,hne,Bool.false_eq_true,if_false,h1,h2];rw[q2]
theorem QH{es:List MapEntry}{m:List ((Int×Int×Int)×Value)}{a:Int×Int×Int}(h:es.map (λe=>(e.key,e.val))=m.map (λx=>(κc x.1,x.2)))(hn:∀e∈es,e.key≠κc a):m.lookup a=none:=by
 rw[List.lookup_eq_none_iff];intro p hp;rw[bne_iff_ne];intro e;have:(κc p.1,p.2)∈es.map (λe=>(e.key,e.val)):=by rw[h];exact List.mem_map.mpr ⟨p,hp,rfl⟩
 obtain⟨y,hy,hq⟩:=List.mem_map.mp this;exact hn y hy (by rw[e];exact congrArg Prod.fst hq)
theorem abW{es:List MapEntry}{m:List ((Int×Int×Int)×Value)}(h:es.map (λe=>(e.key,e.val))=m.map (λx=>(κc x.1,x.2)))(hu:∀x∈m,Xm x.1):∀e∈es,∃l,keyOf P rZ e.key=some l:=by
 intro e he;have:(e.key,e.val)∈m.map (λx=>(κc x.1,x.2)):=by rw[<- h];exact List.mem_map.mpr ⟨e,he,rfl⟩
 obtain⟨x,hx,hq⟩:=List.mem_map.mp this;have:e.key=κc x.1:=(congrArg Prod.fst hq).symm;rw[this];exact Jp (hu x hx)
theorem g_mapU{w:World}{b:Nat}{es:Array MapEntry}{ck:Nat}{m:List ((Int×Int×Int)×Value)}{a:Int×Int×Int}{v:Value}{K:World->Prop}(hm:MK κc es ck m)(hu:∀x∈m,Xm x.1)(ha:Xm a)(h:w.heap[b]?=some (.map es ck))
  (hK:∀es' ck',MK κc es' ck' (qW m a v)->K (ag w b (.map es' ck'))):SI P (Instr.mapUpdate 160 (.map (some b)) (κc a) v) w K:=by
 obtain⟨l,hl⟩:=Jp ha;have hc:=OT.check w false hl;have hg:(getObj b).run P w=.ok (.map es ck) w:=by simp[getObj,Sem.run,h]
 have hset:∀o:Obj,(setObj b o).run P w=.ok () (ag w b o):=λo=>by simp[setObj,Sem.run,h,ag]
 have hty:∃et,P.underlying 160=some (.map rZ et):=by
  have hb:(match P.underlying 160 with|some (.map k _)=>k==rZ|_=>false)=true:=by kernel_rfl
  split at hb
  .rename_i k e h;exact⟨e,by rw[h,beq_iff_eq.mp hb]⟩
  .cases hb
 obtain⟨et,hty⟩:=hty;rcases OT.find w hl es.toList (abW hm.1 hu)with⟨hf,hno⟩|⟨j,e,hf,hj,he⟩
 .refine SI.by (u:=()) (w':=ag w b (.map (es.push { key:=κc a,val:=v,born:=ck }) (ck+1))) ?_ (hK _ _ ⟨?_,?_⟩)
  .simp[Instr.mapUpdate,run_underlying hty,hg,hc,hf,hset,Result.andThen]
  .rw[zY v (QH hm.1 hno)];simp[hm.1]
  .exact MapKept.stamped_push hm.2 hno
 .have hst:=OT.stays w hl;obtain⟨q1,q2⟩:=QF (u:=v) hm.1 hm.2.2.2 hj he;have hj2:es[j]?=some e:=by rw[<- Array.getElem?_toList];exact hj
  refine SI.by (u:=()) (w':=ag w b (.map (es.modify j λe=>{ e with key:=κc a,val:=v }) ck)) ?_ (hK _ _ ⟨?_,?_⟩)
  .simp[Instr.mapUpdate,run_underlying hty,hg,hc,hf,hset,hj2,he,hst,Result.andThen]
  .rw[Array.toList_modify];exact q2
  .refine MapKept.stamped_modify hm.2 j _ (λ_ _=>rfl) ?_;intro e' he' hje;rw[hj2]at hje;cases hje;exact he.symm
end Go.W.T
