/- Texts of mine, one behind the other; nothing is assumed. -/
import Derived.Test.YtaaepbggooiblaaGreatDoorB29
import Derived.Laws.MakeOwn
import Derived.Test.YtaaepbggooiblaaGreatDoorB27
import Derived.Test.YtaaepbggooiblaaGreatDoorB08
import Derived.Test.YtaaepbggooiblaaGreatDoorB16
import Derived.Test.YtaaepbggooiblaaGreatDoorB30
set_option linter.unusedSimpArgs false
set_option linter.unusedVariables false
set_option maxRecDepth 100000
namespace Go.W.T
open Go Go.W Go.M Go.Proofs
end Go.W.T
namespace Go.W.T
open Go Go.W Go.M Go.Proofs
end Go.W.T
namespace Go.W.T
open Go Go.W Go.M Go.Proofs
end Go.W.T
namespace Go.W.T
open Go Go.W Go.M Go.Proofs
end Go.W.T
namespace Go.W.T
open Go Go.W Go.M Go.Proofs
end Go.W.T
namespace Go.W
open Go
theorem Ap.src{e bytes:Nat}{zero v:Value}{s:List Value}{x:Value}{l:List Value}{w:World}{K:KV}{n:Nat}{o:Option Nat}
  (hg:Gw w e 1 v n l o)
  (hK:∀v' w' o',Gw w' e 1 v' (n+s.length) (l++s) o'→(o'=o∨o'=some w.heap.size)→Kp (own o) w w'→K v' w')
  (hsrc:bZ 1 x w=some (s.length,s)) (hone:s.all (·.oneCell')=true) (hb:(n+s.length)*bytes≤140737488355328) (hz:zero.cells.size=1:=by rfl):Ap e 1 bytes zero v x w K:=by
 refine⟨?_⟩
 obtain⟨hl,hg2⟩:=hg
 rw[Nat.mul_one]at hl
 have hbl:s.length=s.length:=rfl
 have hlen:((l++s).length)=(n+s.length)*1:=by rw[List.length_append,hl,Nat.mul_one]
 cases o with
 |none=>
  obtain⟨rfl,rfl⟩:=hg2
  have hl0:l=[]:=List.length_eq_zero_iff.mp hl
  subst hl0
  unfold ApD
  refine⟨s.length,s,hsrc,?_⟩
  by_cases h0:0+s.length≤0
  ·rw[if_pos h0]
   have hs0:s=[]:=List.length_eq_zero_iff.mp (by omega)
   subst hs0
   exact hK _ _ none ⟨hlen,rfl,rfl⟩ (Or.inl rfl) (Kp.refl _ _)
  rw[if_neg h0]
  refine⟨by simpa using hb,[],0,by simp[bZ],fun c hc=>?_⟩
  refine hK _ _ (some w.heap.size) ⟨hlen,(Builtin.zeroCells zero.cells (c - (0+s.length))).toList,c,?_,?_,?_⟩ (Or.inr rfl) ?_
  ·simp
  ·rw[dM (by rfl)]
   simp only[List.nil_append,Array.empty_append,cl]
   congr 2
   apply Array.toList_inj.mp
   simp only[Array.toList_append]
  ·have hc':0+s.length≤c:=hc
   have e9:(Builtin.zeroCells zero.cells (c - (0+s.length))).toList.length=c - (0+s.length):=by rw[Array.length_toList,iF,hz,Nat.mul_one]
   rw[hlen,e9];omega
  ·exact((Kp.refl _ _).drew).alloc _
 |some b=>
  obtain⟨rest,cap,rfl,hbb,hcap⟩:=hg2
  unfold ApD
  refine⟨s.length,s,hsrc,?_⟩
  by_cases hfit:n+s.length≤cap
  ·rw[if_pos hfit]
   have hsz:n*1+(s).length≤(List.toArray (l++rest)).size:=by simp;omega
   have hadd:(Addr.add ⟨b,0,none⟩ (n*1))=⟨b,n*1,none⟩:=by rw[add_eq,Nat.zero_add]
   simp only[]
   rw[hadd,lK e (s) w b (n*1) 0 (List.toArray (l++rest)) hbb (by rw[Nat.add_zero];exact hsz) hone]
   refine hK _ _ (some b) ⟨hlen,rest.drop s.length,cap,rfl,?_,?_⟩ (Or.inl rfl) ?_
   ·rw[lM hbb]
    congr 2
    unfold putAt
    congr 1
    have e1:List.take (n*1) (l++rest)=l:=by rw[Nat.mul_one,← hl,List.take_left'];rfl
    have e2:List.drop (n*1+(s).length) (l++rest)=rest.drop s.length:=by rw[Nat.mul_one,← hl,← List.drop_drop,List.drop_left'];rfl
    simp only[Nat.add_zero,e1,e2,List.append_assoc]
   ·rw[hlen,List.length_drop];omega
   ·exact Kp.Ji (Kp.refl _ _) (by simp[own,Out]) _
  ·rw[if_neg hfit]
   have hcn:bI w ⟨b,0,none⟩ 0 (n*1)=some l:=by
    rw[iR hbb (n*1) 0 (by rw[List.length_append];omega)]
    simp[← hl]
   refine⟨hb,l,n,by simp only[bZ,hcn];rfl,fun c hc=>?_⟩
   refine hK _ _ (some w.heap.size) ⟨hlen,(Builtin.zeroCells zero.cells (c - (n+s.length))).toList,c,rfl,?_,?_⟩ (Or.inr rfl) ?_
   ·rw[dM (by rfl)]
    congr 2
    apply Array.toList_inj.mp
    simp only[Array.toList_append]
   ·have hc':n+s.length≤c:=hc
    have e9:(Builtin.zeroCells zero.cells (c - (n+s.length))).toList.length=c - (n+s.length):=by rw[Array.length_toList,iF,hz,Nat.mul_one]
    rw[hlen,e9];omega
   ·exact((Kp.refl _ _).drew).alloc _
end Go.W
namespace Go.W.T
open Go Go.W Go.M Go.Proofs
def Vw(w:World)(v:Value)(l:By)(o:Option Nat):Prop:=∃cap,match o with
 |none=>v=.slice none l.length cap∧l=[]
 |some b=>∃off cells,v=.slice (some ⟨b,off,none⟩) l.length cap∧w.heap[b]?=some (cl cells 5)∧(cells.drop off).take l.length=aG l∧l.length≤cap
theorem Gw.vw{w:World}{v:Value}{l:By}{o:Option Nat}(h:Gw w 5 1 v l.length (aG l) o):Vw w v l o:=by
 obtain⟨h1,h2⟩:=h
 cases o with
 |none=>
  obtain⟨rfl,h3⟩:=h2
  exact⟨0,by rw[h3],List.length_eq_zero_iff.mp h3⟩
 |some b=>
  obtain⟨rest,cap,rfl,h4,h5⟩:=h2
  refine⟨cap,0,_,rfl,h4,?_,?_⟩
  ·rw[List.drop_zero,List.take_append_of_le_length (by rw[fJ];exact Nat.le_refl _),List.take_of_length_le (by rw[fJ];exact Nat.le_refl _)]
  ·rw[fJ]at h5;omega
theorem Vw.kp{w w':World}{v:Value}{l:By}{o:Option Nat}{X:List (Nat×Nat)}(h:Vw w v l o)(k:Kp X w w')(hx:∀b,o=some b→Out X b):Vw w' v l o:=by
 obtain⟨cap,h⟩:=h
 refine⟨cap,?_⟩
 cases o with
 |none=>exact h
 |some b=>
  obtain⟨off,cells,h1,h2,h3,h4⟩:=h
  exact⟨off,cells,h1,(k.same b (lt_of_heap h2) (hx b rfl)).trans h2,h3,h4⟩
theorem Vw.len{w:World}{v:Value}{l:By}{o:Option Nat}(h:Vw w v l o):∃a c,v=.slice a l.length c:=by
 obtain⟨cap,h⟩:=h
 cases o with
 |none=>obtain⟨rfl,_⟩:=h;exact⟨_,_,rfl⟩
 |some b=>obtain⟨off,cells,rfl,_⟩:=h;exact⟨_,_,rfl⟩
theorem Vw.ln{w:World}{v:Value}{l:By}{o:Option Nat}(h:Vw w v l o){K:Value→Prop}(hK:K (i64 (l.length:Nat))):Ln false v K:=by
 obtain⟨a,c,rfl⟩:=h.len
 exact Ln.t hK
theorem UQ(l:By)(k:Nat):aG (l.drop k)=(aG l).drop k:=by simp[aG,List.map_drop]
theorem UO(l:By)(k:Nat):aG (l.take k)=(aG l).take k:=by simp[aG,List.map_take]
theorem Vw.part{w:World}{v:Value}{l:By}{o:Option Nat}(h:Vw w v l o){lo hi:Nat}(h1:lo≤hi)(h2:hi≤l.length):∃a n c,v=.slice a n c∧n=l.length∧hi≤c∧Vw w (.slice (if c=lo then a else a.map (·.add (lo*1))) (hi - lo) (c - lo)) ((l.drop lo).take (hi - lo)) o:=by
 obtain⟨cap,h⟩:=h
 cases o with
 |none=>
  obtain⟨rfl,rfl⟩:=h
  have h2:hi≤0:=h2
  refine⟨_,_,_,rfl,rfl,by omega,cap - lo,?_⟩
  have e:hi - lo=0:=by omega
  simp[e]
 |some b=>
  obtain⟨off,cells,rfl,h3,h4,h5⟩:=h
  refine⟨_,_,_,rfl,rfl,by omega,cap - lo,?_⟩
  have hl:((l.drop lo).take (hi - lo)).length=hi - lo:=by rw[List.length_take,List.length_drop];omega
  show ∃off' cells',_∧_∧_∧_
  by_cases hc:cap=lo
  ·rw[if_pos hc,hl]
   have e:hi - lo=0:=by omega
   exact⟨off,cells,by rw[e],h3,by rw[e];simp[aG],by omega⟩
  ·rw[if_neg hc,hl,Option.map_some,add_eq,Nat.mul_one]
   refine⟨off+lo,cells,rfl,h3,?_,by omega⟩
   rw[UO,UQ,← h4,List.drop_take,List.drop_drop,List.take_take]
   congr 1;omega
theorem xg{w:World}{v:Value}{l:By}{o:Option Nat}{K:Value→Prop}(h:Vw w v l o){k:Nat}(hk:k≤l.length)(hK:∀v',Vw w v' (l.drop k) o→K v'):SlL 1 v (some (.int .i64 (k:Nat))) none K:=by
 obtain⟨a,n,c,rfl,rfl,hc,hv⟩:=h.part hk (Nat.le_refl _)
 refine⟨?_⟩
 unfold Wi
 have h1:bnd (none:Option Value) l.length c=some l.length:=rfl
 have h2:bnd (some (.int .i64 ((k:Nat):Int))) 0 l.length=some k:=by
  show (if 0≤((k:Nat):Int)∧((k:Nat):Int)≤(l.length:Int)then some ((k:Nat):Int).toNat else none)=some k
  rw[if_pos (by omega),Int.toNat_natCast]
 simp only[h1,h2]
 rw[List.take_of_length_le (by rw[List.length_drop];exact Nat.le_refl _)]at hv
 exact hK _ hv
theorem abp{w:World}{v:Value}{l:By}{o:Option Nat}{K:Value→Prop}(h:Vw w v l o){lo hi:Nat}(h1:lo≤hi)(h2:hi≤l.length)(hK:∀v',Vw w v' ((l.drop lo).take (hi - lo)) o→K v'):SlL 1 v (some (.int .i64 (lo:Nat))) (some (.int .i64 (hi:Nat))) K:=by
 obtain⟨a,n,c,rfl,rfl,hc,hv⟩:=h.part h1 h2
 refine⟨?_⟩
 unfold Wi
 have h1:bnd (some (.int .i64 ((hi:Nat):Int))) l.length c=some hi:=by
  show (if 0≤((hi:Nat):Int)∧((hi:Nat):Int)≤(c:Int)then some ((hi:Nat):Int).toNat else none)=some hi
  rw[if_pos (by omega),Int.toNat_natCast]
 have h2:bnd (some (.int .i64 ((lo:Nat):Int))) 0 hi=some lo:=by
  show (if 0≤((lo:Nat):Int)∧((lo:Nat):Int)≤(hi:Int)then some ((lo:Nat):Int).toNat else none)=some lo
  rw[if_pos (by omega),Int.toNat_natCast]
 simp only[h1,h2]
 exact hK _ hv
theorem Vw.byte{w:World}{v:Value}{l:By}{o:Option Nat}(h:Vw w v l o){i:Nat}{c:UInt8}(hi:l[i]?=some c):∃b off cap,v=.slice (some ⟨b,off,none⟩) l.length cap∧w.cell? ⟨b,off+i*1,none⟩=some (.int .u8 c.toNat):=by
 have hlt:=(List.getElem?_eq_some_iff.mp hi).1
 obtain⟨cap,h⟩:=h
 cases o with
 |none=>obtain⟨_,rfl⟩:=h;simp at hlt
 |some b=>
  obtain⟨off,cells,rfl,h2,h3,h4⟩:=h
  refine⟨b,off,cap,rfl,?_⟩
  rw[eG,h2,Option.bind_some,bC,Nat.mul_one]
  have e:(aG l)[i]?=some (.int .u8 c.toNat):=by simp[aG,hi]
  rw[← h3,List.getElem?_take_of_lt hlt,List.getElem?_drop]at e
  rw[List.getElem?_toArray];exact e
theorem Ju{w:World}{v:Value}{l:By}{o:Option Nat}(h:Vw w v l o){i:Nat}{c:UInt8}(hi:l[i]?=some c){K:Value→Prop}{W:World}(hw:W.heap=w.heap)(hK:K (.int .u8 c.toNat)):IaS 1 v (.int .i64 (i:Nat)) fun x=>Ld x W K:=by
 obtain⟨b,off,cap,rfl,hc⟩:=h.byte hi
 have hlt:=(List.getElem?_eq_some_iff.mp hi).1
 refine IaS.s ?_ hlt
 refine Ld.by (x:=.int .u8 c.toNat) ?_ hK
 have:W.cell? ⟨b,off+i*1,none⟩=w.cell? ⟨b,off+i*1,none⟩:=by rw[eG,eG,hw]
 rw[this];exact hc
theorem zO{w:World}{v:Value}{l:By}{o:Option Nat}(h:Vw w v l o)(hl:4≤l.length):Calls P vP #[v] w (Ret fun r w'=>r=.int .u32 (w32 l:Nat)∧Kp [] w w'):=by
 refine Ret.R fun R hR=>?_
 apply MX
 unfold CO
 obtain⟨a0,a1,a2,a3,r,hd⟩:∃a0 a1 a2 a3 r,l=a0::a1::a2::a3::r:=by
  match hx:l,hl with
  |a0::a1::a2::a3::r,_=>exact⟨_,_,_,_,_,rfl⟩
 have i0:l[0]?=some a0:=by rw[hd];rfl
 have i1:l[1]?=some a1:=by rw[hd];rfl
 have i2:l[2]?=some a2:=by rw[hd];rfl
 have i3:l[3]?=some a3:=by rw[hd];rfl
 refine Ju h i0 rfl ?_
 repeat' first|refine .x ?_|refine .y ?_|refine .z ?_|fail
 refine Ju h i1 rfl ?_
 repeat' first|refine .x ?_|refine .y ?_|refine .z ?_|fail
 refine Ju h i2 rfl ?_
 repeat' first|refine .x ?_|refine .y ?_|refine .z ?_|fail
 refine Ju h i3 rfl ?_
 repeat' first|refine .x ?_|refine .y ?_|refine .z ?_|fail
 have hval:IntKind.u32.wrap ((BitVec.ofInt IntKind.u32.bits (IntKind.u32.wrap ((BitVec.ofInt IntKind.u32.bits (IntKind.u32.wrap ((BitVec.ofInt IntKind.u32.bits (IntKind.u32.wrap (IntKind.u32.wrap (a0.toNat:Int)*2 ^ min (Int.toNat 24) IntKind.u32.bits))|||
   BitVec.ofInt IntKind.u32.bits (IntKind.u32.wrap (IntKind.u32.wrap (a1.toNat:Int)*2 ^ min (Int.toNat 16) IntKind.u32.bits))).toNat:Int))|||
   BitVec.ofInt IntKind.u32.bits (IntKind.u32.wrap (IntKind.u32.wrap (a2.toNat:Int)*2 ^ min (Int.toNat 8) IntKind.u32.bits))).toNat:Int))|||
   BitVec.ofInt IntKind.u32.bits (IntKind.u32.wrap (a3.toNat:Int))).toNat:Int)=((w32 l:Nat):Int):=by
  have b0:a0.toNat<256:=a0.toNat_lt
  have b1:a1.toNat<256:=a1.toNat_lt
  have b2:a2.toNat<256:=a2.toNat_lt
  have b3:a3.toNat<256:=a3.toNat_lt
  rw[show min (Int.toNat 24) IntKind.u32.bits=24 from rfl,show min (Int.toNat 16) IntKind.u32.bits=16 from rfl,show min (Int.toNat 8) IntKind.u32.bits=8 from rfl]
  rw[FQ a0 24 16777216 (by decide) (by omega),FQ a1 16 65536 (by decide) (by omega),FQ a2 8 256 (by decide) (by omega)]
  have hw:IntKind.u32.wrap (a3.toNat:Int)=((a3.toNat:Nat):Int):=by rw[IntKind.wrap_u32];omega
  rw[hw]
  have l1:(16777216*a0.toNat|||65536*a1.toNat)<2 ^ 32:=Nat.or_lt_two_pow (by omega) (by omega)
  have l2:((16777216*a0.toNat|||65536*a1.toNat)|||256*a2.toNat)<2 ^ 32:=Nat.or_lt_two_pow l1 (by omega)
  rw[Ie _ _ (by omega) (by omega),Ie _ _ (by omega) (by omega),Ie _ _ (by omega) (by omega),WZ,hd,w32]
 rw[hval]
 exact hR _ _ ⟨rfl,by exact kpA⟩
theorem CvB.view{w:World}{v:Value}{l:By}{o:Option Nat}(h:Vw w v l o){K:Value→Prop}(hK:K (κs l)):CvB v w K:=by
 refine⟨?_⟩
 obtain⟨cap,h⟩:=h
 cases o with
 |none=>
  obtain⟨rfl,rfl⟩:=h
  exact hK
 |some b=>
  obtain⟨off,cells,rfl,h2,h3,h4⟩:=h
  unfold Yq
  have hl:off+l.length≤cells.length∨l=[]:=by
   have e:=congrArg List.length h3
   rw[List.length_take,List.length_drop,fJ]at e
   by_cases h0:l.length=0
   ·exact Or.inr (List.length_eq_zero_iff.mp h0)
   ·exact Or.inl (by omega)
  have hc:bI w ⟨b,off,none⟩ 0 l.length=some (aG l):=by
   rcases hl with hl|rfl
   ·have:∀(n i:Nat),off+i+n≤cells.length→bI w ⟨b,off,none⟩ i n=some ((cells.drop (off+i)).take n):=by
     intro n
     induction n with
     |zero=>intro i _;simp[bI]
     |succ n ih=>
      intro i hn
      rw[bI,ih (i+1) (by omega)]
      have:w.cell? (Addr.add ⟨b,off,none⟩ i)=some cells[off+i]:=by
       rw[add_eq,eG,h2,Option.bind_some,bC]
       simp[List.getElem?_eq_getElem (show off+i<cells.length by omega)]
      rw[this]
      simp only[List.drop_eq_getElem_cons (show off+i<cells.length by omega),List.take_succ_cons,Nat.add_assoc]
    rw[this l.length 0 (by omega),Nat.add_zero,h3]
   ·simp[bI,aG]
  simp only[hc,Fv]
  exact hK
def WdsAt(w:World)(v:Value)(l:List Nat):Prop:=∃b c t,v=.slice (some ⟨b,0,none⟩) l.length c∧w.heap[b]?=some (cl (l.map fun n=>.int .u32 (n:Nat)) t)
theorem Lc:∀(l:List Nat) (n:Nat),dN (l++[n])=dN l++cZ n
 |[],n=>by simp[dN]
 |a::r,n=>by rw[List.cons_append,dN,dN,Lc r,List.append_assoc]
theorem dw:∀(l:List Nat),(dN l).length=4*l.length
 |[]=>rfl
 |a::r=>by rw[dN,List.length_append,dw r,List.length_cons];simp[cZ];omega
theorem Cm(a b:By):aG (a++b)=aG a++aG b:=by simp[aG]
theorem SB{l:List Nat}{i n:Nat}(h:l[i]?=some n):dN (l.take (i+1))=dN (l.take i)++cZ n:=by
 rw[List.take_add_one,h]
 exact Lc _ _
theorem Wp{w:World}{v:Value}{l:List Nat}(h:WdsAt w v l)(hn:∀n∈l,n<4294967296)(hl:l.length≤1000):Calls P EP #[v] w (Ret fun r w'=>r=κs (dN l)∧Kp [] w w'):=by
 refine Ret.R fun R hR=>?_
 apply OO
 unfold Ea
 obtain⟨b,c,t,rfl,hb⟩:=h
 have hblt:=lt_of_heap hb
 repeat' first|refine .x ?_|refine .y ?_|refine .z ?_|fail
 refine Lp.nat (fun m vals w'=>∃(i:Nat) (bv:Value) (o:Option Nat),m+i=l.length∧vals=[bv,i64 i]∧Kp [] w w'∧Gw w' 5 1 bv (4*i) (aG (dN (l.take i))) o∧(∀x,o=some x→w.heap.size≤x)) (n:=l.length) ⟨0,_,none,by omega,rfl,Kp.refl _ _,Gw.nil _ _ _,fun x hx=>by cases hx⟩ ?_
 rintro m _ w5 jk C ⟨i,bv,o,hi,rfl,k5,g5,ho⟩ hC
 repeat' first|refine .x ?_|refine .y ?_|refine .z ?_|fail
 refine .split (fun hh=>?_) (fun hh=>?_)
 ·have hi':i<l.length:=by have:=of_decide_eq_true hh;omega
  obtain⟨n,hn1⟩:∃n,l[i]?=some n:=⟨_,List.getElem?_eq_getElem hi'⟩
  have hnlt:=hn n (List.mem_of_getElem? hn1)
  have hb5:w5.heap[b]?=_:=(k5.same b hblt trivial).trans hb
  refine .s ?_
  refine Ld.by (x:=.int .u32 (n:Nat)) ?_ ?_
  ·rw[eG,hb5]
   simp only[Option.bind_some,bC,Nat.zero_add,Nat.add_zero,Nat.mul_one]
   rw[List.getElem?_toArray,List.getElem?_map,hn1];rfl
  repeat' first|refine .x ?_|refine .y ?_|refine .z ?_|fail
  have h1:∀k m:Nat,2 ^ k=m→k≤24→0<m→IntKind.u8.wrap (((n:Nat):Int).fdiv (2 ^ k))=((wH (n / m % 256)).toNat:Int):=by
   intro k m hm hk h0
   have e:((2:Int) ^ k)=((m:Nat):Int):=by rw[← hm];push_cast;rfl
   rw[e,IntKind.wrap_u8,Int.fdiv_eq_ediv_of_nonneg _ (by omega),← Int.natCast_ediv]
   unfold wH
   have:n / m % 256<256:=Nat.mod_lt _ (by decide)
   rw[UInt8.toNat_ofNat_of_lt' (by simpa using this)]
   omega
  have h2:IntKind.u8.wrap ((n:Nat):Int)=((wH (n % 256)).toNat:Int):=by
   rw[IntKind.wrap_u8]
   unfold wH
   have:n % 256<256:=Nat.mod_lt _ (by decide)
   rw[UInt8.toNat_ofNat_of_lt' (by simpa using this)]
   omega
  rw[show min (Int.toNat 24) IntKind.u32.bits=24 from rfl,show min (Int.toNat 16) IntKind.u32.bits=16 from rfl,show min (Int.toNat 8) IntKind.u32.bits=8 from rfl,
   h1 24 16777216 (by decide) (by decide) (by decide),h1 16 65536 (by decide) (by decide) (by decide),h1 8 256 (by decide) (by decide) (by decide),h2]
  generalize hq:[Value.int .u8 ((wH (n / 16777216 % 256)).toNat:Int),.int .u8 ((wH (n / 65536 % 256)).toNat:Int),.int .u8 ((wH (n / 256 % 256)).toNat:Int),.int .u8 ((wH (n % 256)).toNat:Int)]=q at *
  have hq':q=aG (cZ n):=by rw[← hq];rfl
  have hql:q.length=4:=by rw[← hq];rfl
  refine Ap.w (fun w9=>Kp [] w5 w9∧w9.heap[w5.heap.size]?=some (cl q 5)∧w9.heap.size=w5.heap.size+1) ⟨by exact kpA,by exact lookA,by simp only[size_alloc]⟩ ?_
  rintro w9 ⟨k9,n9,z9⟩
  refine Ap.src (s:=q) (g5.kp k9 fun _ _=>trivial) ?_ ?_ ?_ ?_
  ·intro v' w10 o' g10 ho' k10
   repeat' first|refine .x ?_|refine .y ?_|refine .z ?_|fail
   refine hC (m - 1) _ _ (by omega) ⟨i+1,v',o',by omega,rfl,?_,?_,?_⟩
   ·exact(k5.tt k9).own k10 ho
   ·rw[SB hn1,Cm,← hq',show 4*(i+1)=4*i+q.length by omega];exact g10
   ·intro x hx
    have z5:=k5.size
    rcases ho' with rfl|rfl
    ·exact ho x hx
    ·have:=Option.some.inj hx;omega
  ·simp only[bZ]
   rw[iR n9 4 0 (by omega)]
   simp[hql]
   exact List.take_of_length_le (by omega)
  ·rw[hq'];exact PH _
  ·omega
 ·have hi':i=l.length:=by have:=of_decide_eq_false hh;omega
  subst hi'
  rw[List.take_length]at g5
  rw[← dw]at g5
  refine CvB.view (Gw.vw g5) ?_
  exact hR _ _ ⟨rfl,k5⟩
theorem Zi(n:Nat):bn n<4:=Nat.mod_lt _ (by decide)
def Wl(w:World)(m:Option By)(o:Option Nat)(r:Value):Prop:=match m with
 |none=>r=.tuple #[.slice none 0 0,.bool false]
 |some l=>∃v,r=.tuple #[v,.bool true]∧Vw w v l o
theorem all_zero{l:By}:(l.all (·==0))=true↔∀(i:Nat) (c:UInt8),l[i]?=some c→c=0:=by
 rw[List.all_eq_true]
 constructor
 ·intro h i c hc
  have:=h c (List.mem_of_getElem? hc)
  simpa using this
 ·intro h c hc
  obtain⟨i,hi⟩:=List.mem_iff_getElem?.mp hc
  simpa using h i c hi
theorem w_auth{w:World}{v:Value}{l:By}{o:Option Nat}(h:Vw w v l o)(hl:l.length≤140737488355328):Calls P G7 #[v] w (Ret fun r w'=>Wl w (AZ l) o r∧Kp [] w w'):=by
 refine Ret.R fun R hR=>?_
 apply Qc
 unfold GM
 have hR':∀r w',Wl w (AZ l) o r→Kp [] w w'→R (.returned r) w':=fun r w' a b=>hR _ _ ⟨a,b⟩
 clear hR
 unfold AZ at hR'
 refine h.ln ?_
 refine .s ?_
 refine .split (fun hc=>?_) (fun hc=>?_)
 ·have hc':(l.length:Int)<8:=of_decide_eq_true hc
  rw[if_pos (by omega)]at hR'
  exact hR' _ _ rfl (Kp.refl _ _)
 have hc':¬ (l.length:Int)<8:=of_decide_eq_false hc
 rw[if_neg (by omega)]at hR'
 simp only at hR'
 refine xg (k:=4) h (by omega) fun v4 h4=>?_
 refine Cl.ret (zO h4 (by rw[List.length_drop];omega)) ?_
 rintro _ w5 ⟨rfl,k5⟩
 have hn:=Q7 (l.drop 4)
 generalize w32 (l.drop 4)=n at *
 have hcv:IntKind.i64.wrap (n:Int)=((n:Nat):Int):=by rw[IntKind.wrap_i64];omega
 refine .s ?_
 rw[hcv]
 refine .s ?_
 refine .split (fun hc=>?_) (fun hc=>?_)
 ·have hc':(n:Int)>400:=of_decide_eq_true hc
  rw[if_pos (by omega)]at hR'
  exact hR' _ _ rfl k5
 have hc':¬ (n:Int)>400:=of_decide_eq_false hc
 rw[if_neg (by omega)]at hR'
 refine xg (k:=8) h (by omega) fun v8 h8=>?_
 refine .s ?_
 refine .s ?_
 rw[and3 n (by omega)]
 have hp:=Zi n
 refine .s ?_
 have e1:IntKind.i64.wrap ((n:Int)+(bn n:Nat))=((n+bn n:Nat):Int):=by rw[IntKind.wrap_i64];omega
 rw[e1]
 refine h8.ln ?_
 refine .s ?_
 refine .split (fun hc=>?_) (fun hc=>?_)
 ·have hc':((l.drop 8).length:Int)<((n+bn n:Nat):Int):=of_decide_eq_true hc
  rw[if_pos (by omega)]at hR'
  exact hR' _ _ rfl k5
 have hc':¬ ((l.drop 8).length:Int)<((n+bn n:Nat):Int):=of_decide_eq_false hc
 rw[if_neg (by omega)]at hR'
 refine abp h8 (by omega) (by omega) fun vm hm=>?_
 generalize hg:((l.drop 8).drop n).take (n+bn n - n)=g at *
 have hgl:g.length≤3:=by rw[← hg,List.length_take];omega
 refine hm.ln ?_
 refine Lp.nat (fun m vals w'=>∃(i:Nat),m+i=g.length∧vals=[i64 i]∧Kp [] w w'∧∀j c,j<i→g[j]?=some c→c=0) (n:=g.length) ⟨0,by omega,rfl,k5,fun j c hj=>by omega⟩ ?_
 rintro m _ w6 jk C ⟨i,hi,rfl,k6,hz⟩ hC
 refine .s ?_
 refine .s ?_
 refine .split (fun hc=>?_) (fun hc=>?_)
 ·have hi':i<g.length:=by have:=of_decide_eq_true hc;omega
  obtain⟨c,hcc⟩:∃c,g[i]?=some c:=⟨_,List.getElem?_eq_getElem hi'⟩
  have hm6:=hm.kp k6 (fun _ _=>trivial)
  refine Ju hm6 hcc rfl ?_
  refine .s ?_
  refine .split (fun hc=>?_) (fun hc=>?_)
  ·have hne:c≠0:=by
    rintro rfl
    simp at hc
   rw[if_neg (fun h=>hne (all_zero.mp h i c hcc))]at hR'
   exact hR' _ _ rfl k6
  ·have he:c=0:=by
    have:(c.toNat:Int)=0:=by simpa using hc
    exact UInt8.toNat_inj.mp (by have:(0:UInt8).toNat=0:=rfl;omega)
   repeat' first|refine .x ?_|refine .y ?_|refine .z ?_|fail
   refine hC (m - 1) _ _ (by omega) ⟨i+1,by omega,rfl,k6,fun j c' hj hcj=>?_⟩
   by_cases e:j=i
   ·subst e;rw[hcc]at hcj;cases hcj;exact he
   ·exact hz j c' (by omega) hcj
 ·have hi':i=g.length:=by have:=of_decide_eq_false hc;omega
  rw[if_pos (all_zero.mpr fun j c hj=>hz j c (by rw[hi'];exact(List.getElem?_eq_some_iff.mp hj).1) hj)]at hR'
  refine xg h8 (k:=n+bn n) (by omega) fun ve he=>?_
  exact hR' _ _ ⟨ve,rfl,he⟩ k6
end Go.W.T
namespace Go.W.T
open Go Go.W Go.M Go.Proofs
theorem XW{es:List MapEntry}{m:List ((Int×Int×Int)×Value)}{a:Int×Int×Int}(h:es.map (fun e=>(e.key,e.val))=m.map (fun x=>(κc x.1,x.2)))(hn:(es.map (·.key)).Nodup){j:Nat}{e:MapEntry}(hj:es[j]?=some e)(he:e.key=κc a):m.lookup a=some e.val:=(LW (u:=.nilIface) h hn hj he).1
theorem Nu{w:World}{b:Nat}{es:Array MapEntry}{ck:Nat}{m:List ((Int×Int×Int)×Value)}{a:Int×Int×Int}{K:KV}(hm:MK κc es ck m)(hu:∀x∈m,KL x.1)(ha:KL a)(h:w.heap[b]?=some (.map es ck))
  (hK:K (match m.lookup a with|some v=>.tuple #[v,.bool true]|none=>.tuple #[.agg #[i64 0,i64 0,.bool false,.bool false],.bool false]) w):bH P (Instr.lookup 113 (.map (some b)) (κc a) true) w K:=by
 obtain⟨l,hl⟩:=Ip ha
 have hc:=JK.check w es.isEmpty hl
 have hg:(getObj b).run P w=.ok (.map es ck) w:=by simp[getObj,Sem.run,h]
 have hty:P.underlying 113=some (.map nG 207):=by
  have hb:(match P.underlying 113 with|some (.map k e)=>k==nG&&e==207|_=>false)=true:=by kernel_rfl
  split at hb
  ·rename_i k e h
   rw[Bool.and_eq_true,beq_iff_eq,beq_iff_eq]at hb
   rw[h,hb.1,hb.2]
  ·cases hb
 rcases JK.find w hl es.toList (WW hm.1 hu)with⟨hf,hno⟩|⟨j,e,hf,hj,he⟩
 ·rw[LY hm.1 hno]at hK
  refine bH.ok (v:=.tuple #[.agg #[i64 0,i64 0,.bool false,.bool false],.bool false]) (w':=w) ?_ hK
  have hz:(zeroValue 207).run P w=.ok (.agg #[i64 0,i64 0,.bool false,.bool false]) w:=by kernel_rfl
  simp[Instr.lookup,run_underlying hty,hg,hc,hf,hz,Result.andThen]
 ·have hj2:es[j]?=some e:=by rw[← Array.getElem?_toList];exact hj
  rw[XW hm.1 hm.2.2.2 hj he]at hK
  refine bH.ok (v:=.tuple #[e.val,.bool true]) (w':=w) ?_ hK
  simp[Instr.lookup,run_underlying hty,hg,hc,hf,Result.andThen]
end Go.W.T
namespace Go.W.T
open Go Go.W Go.M Go.Proofs
def UW(w:World):List (Int×Value)→List (Int×List Int)→Prop
 |[],[]=>True
 |x::m,y::l=>x.1=y.1∧(∃o,Gw w l9 1 x.2 y.2.length (y.2.map (Value.int .u32)) o)∧UW w m l
 |_,_=>False
theorem fK.w{w w':World}{ρ:aP}(hs:∀b,ρ b≠(0,0)→b<w.heap.size→w'.heap[b]?=w.heap[b]?):∀{m:List (Int×Value)} {l:List (Int×List Int)},fK w ρ m l→UW w' m l
 |[],[],_=>trivial
 |x::m,y::l,⟨h1,⟨o,h2,h3⟩,h4⟩=>by
  refine⟨h1,⟨o,?_⟩,fK.w hs h4⟩
  obtain⟨g1,g2⟩:=h2
  refine⟨g1,?_⟩
  cases o with
  |none=>exact g2
  |some b=>
   obtain⟨r,c,e1,e2,e3⟩:=g2
   exact⟨r,c,e1,(hs b (by rw[h3 b rfl];simp) (lt_of_heap e2)).trans e2,e3⟩
 |[],_::_,h=>h.elim
 |_::_,[],h=>h.elim
theorem Ll{w:World}(g:Int):∀{m:List (Int×Value)} {l:List (Int×List Int)},UW w m l→(l.lookup g=none∧m.lookup g=none)∨∃v vs o,l.lookup g=some vs∧m.lookup g=some v∧Gw w l9 1 v vs.length (vs.map (Value.int .u32)) o
 |[],[],_=>Or.inl ⟨rfl,rfl⟩
 |x::m,y::l,⟨h1,⟨o,h2⟩,h4⟩=>by
  rw[List.lookup_cons,List.lookup_cons,h1]
  cases g==y.1 with
  |true=>exact Or.inr ⟨_,_,o,rfl,rfl,h2⟩
  |false=>exact Ll g h4
 |[],_::_,h=>h.elim
 |_::_,[],h=>h.elim
theorem rf.code{w:World}{ds:List Def}{d:CS}{v:Value}(h:rf w ds d v):∃sb dv B lv,v=pt sb 0∧w.heap[sb]?=some (cl [dv,pt (B+3) 0] 71)∧w.heap[B+3]?=some (cl [lv,.map (some B),.map (some (B+1)),.map (some (B+2))] gG) ∧
  (∃es ck,w.heap[B+1]?=some (.map es ck)∧MK κc es ck (d.procs.map fun x=>(x.1,GU x.2))∧∀x∈d.procs,KL x.1) ∧
  (∃es ck m,w.heap[B+2]?=some (.map es ck)∧MK (κi .u32) es ck m∧UW w m d.aV)∧(0<d.L.length→d.L.length<1000000→∃T,MC w (pt (B+3) 0) T d.L d.tabs):=by
 have h0:=h
 obtain⟨sb,dv,n,w1,w2,B,H,ρ,T,h1,h2,h3,h4,h5,h6,h7⟩:=h
 have hlt:=h6.lt
 have same:∀b,n≤b→b<w2.heap.size→w.heap[b]?=w2.heap[b]?:=h7.2
 obtain⟨lv,cells,o,a1,a2,a3,a4⟩:=h6.L
 obtain⟨es,ck,t1,t2,t3⟩:=h6.procs
 obtain⟨es',ck',m,u1,u2,u3⟩:=h6.aV
 have big:∀b,ρ b≠(0,0)→B+7≤b:=fun b hb=>by
  rcases Nat.lt_or_ge b (B+7)with h|h
  ·exact absurd (h6.low b h) hb
  ·exact h
 obtain⟨sb',dv',B',lv',_,_,e1,e2,e3,_,_,e6⟩:=h0.types
 have:sb'=sb:=by rw[h1]at e1;cases e1;rfl
 subst this
 rw[h2]at e2
 have hB:B'=B:=by
  have:=Option.some.inj e2
  simp[cl]at this
  omega
 subst hB
 exact⟨sb',dv,B',lv,h1,h2,(same _ (by omega) (by omega)).trans a1,⟨es,ck,(same _ (by omega) (by omega)).trans t1,t2,t3⟩,⟨es',ck',m,(same _ (by omega) (by omega)).trans u1,u2,fK.w (fun b hb hl=>same b (by have:=big b hb;omega) hl) u3⟩,e6⟩
def wY(w:World)(v:Value)(l:List Int):Prop:=∃o,Gw w l9 1 v l.length (l.map (Value.int .u32)) o
theorem wY.kp{w w':World}{v:Value}{l:List Int}(h:wY w v l)(k:Kp [] w w'):wY w' v l:=by
 obtain⟨o,h⟩:=h
 exact⟨o,h.kp k fun _ _=>trivial⟩
theorem wY.at{w:World}{v:Value}{l:List Int}(h:wY w v l){i:Nat}{n:Int}(hi:l[i]?=some n){K:Value→Prop}{W:World}(hw:W.heap=w.heap)(hK:K (.int .u32 n)):IaS 1 v (.int .i64 (i:Nat)) fun x=>Ld x W K:=by
 have hlt:=(List.getElem?_eq_some_iff.mp hi).1
 obtain⟨o,h1,h2⟩:=h
 cases o with
 |none=>obtain⟨_,h3⟩:=h2;omega
 |some b=>
  obtain⟨r,c,rfl,h3,h4⟩:=h2
  refine IaS.s ?_ hlt
  refine Ld.by (x:=.int .u32 n) ?_ hK
  rw[eG,hw,h3]
  simp only[Option.bind_some,bC,Nat.zero_add,Nat.mul_one]
  rw[List.getElem?_toArray,List.getElem?_append_left (by simpa using hlt),List.getElem?_map,hi];rfl
theorem wY.ln{w:World}{v:Value}{l:List Int}(h:wY w v l){K:Value→Prop}(hK:K (i64 (l.length:Nat))):Ln false v K:=by
 obtain⟨o,h⟩:=h
 obtain⟨a,c,rfl⟩:=h.len
 exact Ln.t hK
theorem YS{w:World}{v:Value}{l:List Int}(h:wY w v l)(x:Int)(hl:l.length≤140737488355328):Calls P sO #[v,.int .u32 x] w (Ret fun r w'=>∃n:Int,r=.int .i64 n∧((0≤n)↔x∈l)∧Kp [] w w'):=by
 refine Ret.R fun R hR=>?_
 apply Dt
 unfold rP
 refine h.ln ?_
 refine Lp.nat (fun m vals w'=>∃(i:Nat),m+i=l.length∧vals=[i64 i]∧Kp [] w w'∧x ∉ l.take i) (n:=l.length) ⟨0,by omega,rfl,Kp.refl _ _,by simp⟩ ?_
 rintro m _ w5 jk C ⟨i,hi,rfl,k5,hn⟩ hC
 repeat' first|refine .x ?_|refine .y ?_|refine .z ?_|fail
 refine .split (fun hh=>?_) (fun hh=>?_)
 ·have hi':i<l.length:=by have:=of_decide_eq_true hh;omega
  obtain⟨n,hn1⟩:∃n,l[i]?=some n:=⟨_,List.getElem?_eq_getElem hi'⟩
  refine(h.kp k5).at hn1 rfl ?_
  refine .s ?_
  refine .split (fun hh=>?_) (fun hh=>?_)
  ·have he:x=n:=by simpa using hh
   exact hR _ _ ⟨i,rfl,⟨fun _=>he▸List.mem_of_getElem? hn1,fun _=>by omega⟩,k5⟩
  ·have he:x≠n:=by simpa using hh
   repeat' first|refine .x ?_|refine .y ?_|refine .z ?_|fail
   refine hC (m - 1) _ _ (by omega) ⟨i+1,by omega,rfl,k5,?_⟩
   rw[List.take_add_one,hn1]
   simp[hn,he]
 ·have hi':i=l.length:=by have:=of_decide_eq_false hh;omega
  subst hi'
  rw[List.take_length]at hn
  exact hR _ _ ⟨-1,rfl,⟨fun h=>by omega,fun h=>absurd h hn⟩,k5⟩
theorem S9{w:World}{v:Value}{l:List Int}(h:wY w v l)(x:Int)(hl:l.length≤140737488355328):Calls P mO #[v,.int .u32 x] w (Ret fun r w'=>r=.bool (l.contains x)∧Kp [] w w'):=by
 refine Ret.R fun R hR=>?_
 apply zq
 unfold mg
 refine Cl.ret (YS h x hl) ?_
 rintro _ w2 ⟨n,rfl,hn,k2⟩
 repeat' first|refine .x ?_|refine .y ?_|refine .z ?_|fail
 refine hR _ _ ⟨?_,k2⟩
 congr 1
 rw[Bool.eq_iff_iff,decide_eq_true_eq,List.contains_iff_mem]
 exact hn
theorem RI(k:IntKind)(t t1 t2:TypeId)(a b:Int)(w:World):(builtin .min #[t1,t2] t #[false,false] #[.int k a,.int k b]).run P w=.ok (.value (.int k (min a b))) w:=by
 have:min a b=if b<a then b else a:=by rw[Int.min_def];split<;>split<;>omega
 rw[this];rfl
theorem abD(k:IntKind)(t t1 t2:TypeId)(a b:Int)(w:World):(builtin .max #[t1,t2] t #[false,false] #[.int k a,.int k b]).run P w=.ok (.value (.int k (max a b))) w:=by
 have:max a b=if b>a then b else a:=by rw[Int.max_def];split<;>split<;>omega
 rw[this];rfl
theorem Pg(f:Int→Int→Int){l:List Int}{i:Nat}{n:Int}(a:Int)(h:l[i]?=some n):f ((l.take i).foldl f a) n=(l.take (i+1)).foldl f a:=by
 rw[List.take_add_one,h,Option.toList_some,List.foldl_append];rfl
theorem w_MinU{w:World}{v:Value}{l:List Int}(h:wY w v l)(h0:l≠[])(hl:l.length≤140737488355328):Calls P wR #[v] w (Ret fun r w'=>r=.int .u32 (minL l)∧Kp [] w w'):=by
 refine Ret.R fun R hR=>?_
 apply Gt
 unfold wu
 have hpos:0<l.length:=List.length_pos_iff.mpr h0
 refine Jn.by (fun _ w'=>w'=w) (fun J hJ=>?_) ?_
 ·refine h.ln ?_
  refine .s ?_
  refine .split (fun hh=>?_) (fun hh=>?_)
  ·have:=of_decide_eq_true hh;omega
  ·exact hJ _ _ rfl
 rintro _ w4 jk rfl
 obtain⟨a,r,rfl⟩:=List.exists_cons_of_ne_nil h0
 refine wY.at (i:=0) h rfl rfl ?_
 refine Lp.nat (fun m vals w'=>∃(i:Nat),m+i=r.length∧vals=[.int .u32 ((r.take i).foldl min a),.int .i64 ((i+1:Nat):Int)]∧Kp [] w4 w') (n:=r.length) ⟨0,by omega,by simp,Kp.refl _ _⟩ ?_
 rintro m _ w5 jk C ⟨i,hi,rfl,k5⟩ hC
 refine .s ?_
 refine(h.kp k5).ln ?_
 refine .s ?_
 refine .split (fun hh=>?_) (fun hh=>?_)
 ·have hh':=of_decide_eq_true hh
  have hi':i<r.length:=by simp only[List.length_cons]at hh';omega
  obtain⟨n,hn1⟩:∃n,r[i]?=some n:=⟨_,List.getElem?_eq_getElem hi'⟩
  refine wY.at (i:=i+1) (h.kp k5) (n:=n) (by rw[List.getElem?_cons_succ];exact hn1) rfl ?_
  refine eH.val (RI _ _ _ _ _ _ _) ?_
  have hl':r.length+1≤140737488355328:=hl
  repeat' first|refine .x ?_|refine .y ?_|refine .z ?_|fail
  refine hC (m - 1) _ _ (by omega) ⟨i+1,by omega,?_,k5⟩
  rw[Pg min a hn1]
  simp
 ·have hh':=of_decide_eq_false hh
  have hi':i=r.length:=by simp only[List.length_cons]at hh';omega
  subst hi'
  rw[List.take_length]
  exact hR _ _ ⟨rfl,k5⟩
theorem w_MaxU{w:World}{v:Value}{l:List Int}(h:wY w v l)(h0:l≠[])(hl:l.length≤140737488355328):Calls P wS #[v] w (Ret fun r w'=>r=.int .u32 (maxL l)∧Kp [] w w'):=by
 refine Ret.R fun R hR=>?_
 apply Gu
 unfold wz
 have hpos:0<l.length:=List.length_pos_iff.mpr h0
 refine Jn.by (fun _ w'=>w'=w) (fun J hJ=>?_) ?_
 ·refine h.ln ?_
  refine .s ?_
  refine .split (fun hh=>?_) (fun hh=>?_)
  ·have:=of_decide_eq_true hh;omega
  ·exact hJ _ _ rfl
 rintro _ w4 jk rfl
 obtain⟨a,r,rfl⟩:=List.exists_cons_of_ne_nil h0
 refine wY.at (i:=0) h rfl rfl ?_
 refine Lp.nat (fun m vals w'=>∃(i:Nat),m+i=r.length∧vals=[.int .u32 ((r.take i).foldl max a),.int .i64 ((i+1:Nat):Int)]∧Kp [] w4 w') (n:=r.length) ⟨0,by omega,by simp,Kp.refl _ _⟩ ?_
 rintro m _ w5 jk C ⟨i,hi,rfl,k5⟩ hC
 refine .s ?_
 refine(h.kp k5).ln ?_
 refine .s ?_
 refine .split (fun hh=>?_) (fun hh=>?_)
 ·have hh':=of_decide_eq_true hh
  have hi':i<r.length:=by simp only[List.length_cons]at hh';omega
  obtain⟨n,hn1⟩:∃n,r[i]?=some n:=⟨_,List.getElem?_eq_getElem hi'⟩
  refine wY.at (i:=i+1) (h.kp k5) (n:=n) (by rw[List.getElem?_cons_succ];exact hn1) rfl ?_
  refine eH.val (abD _ _ _ _ _ _ _) ?_
  have hl':r.length+1≤140737488355328:=hl
  repeat' first|refine .x ?_|refine .y ?_|refine .z ?_|fail
  refine hC (m - 1) _ _ (by omega) ⟨i+1,by omega,?_,k5⟩
  rw[Pg max a hn1]
  simp
 ·have hh':=of_decide_eq_false hh
  have hi':i=r.length:=by simp only[List.length_cons]at hh';omega
  subst hi'
  rw[List.take_length]
  exact hR _ _ ⟨rfl,k5⟩
abbrev keyV(k:Np):Value:=.agg #[.int .u32 k.1,.int .u32 k.2.1,.int .u32 k.2.2]
abbrev ansV(nb:Nat):Value:=.func (.func 68) #[] #[pt nb 0]
def AnsAt(n:Int)(l:List Nd)(av:Value):Ending→World→Prop:=fun en w'=>
 if n=0 then en=.returned (.tuple #[av,.nilIface])
 else if n=1 then en=.returned (.tuple #[.slice none 0 0,.nilIface])
 else if n=2 then en=.returned (.tuple #[av,.iface 54 (i64 10)])
 else if n=3 then ∃s,en=.panicked [{ v:=.iface 9 s,recovered:=false }]
 else ∃rv,en=.returned (.tuple #[rv,.nilIface])∧FK w' rv [⟨1,n,[],0,0⟩]
theorem Td{w:World}{nb:Nat}{n:Int}(h:w.heap[nb]?=some (cl [.int .i64 n] 3))(key:Np)(av:Value)(l:List Nd):Calls P qP #[keyV key,av,pt nb 0] w (fun en w'=>Kp [] w w'∧AnsAt n l av en w'):=by
 have main:∀R:Ending→World→Prop,(∀en w',Kp [] w w'→AnsAt n l av en w'→R en w')→Calls P qP #[keyV key,av,pt nb 0] w R:=by
  intro R hR
  apply Jm
  unfold yR
  unfold AnsAt at hR
  have hlt:=lt_of_heap h
  refine .s ?_
  have k2:Kp [] w (w.alloc (cl [.int .u32 key.1,.int .u32 key.2.1,.int .u32 key.2.2] 182)):=by exact kpA
  have n2:(w.alloc (cl [.int .u32 key.1,.int .u32 key.2.1,.int .u32 key.2.2] 182)).heap[nb]?=some (cl [.int .i64 n] 3):=by exact lookA
  generalize w.alloc (cl [.int .u32 key.1,.int .u32 key.2.1,.int .u32 key.2.2] 182)=w2 at *
  refine Jn.by (fun _ w'=>w'=w2∧n≠0∧n≠1∧n≠2∧n≠3) (fun J hJ=>?_) ?_
  ·refine .s ?_
   refine .s ?_
   refine .split (fun hh=>?_) (fun hh0=>?_)
   ·have hh:n=0:=by simpa using hh
    simp only[if_pos hh]at hR
    exact hR _ _ k2 rfl
   have hh0:n≠0:=by simpa using hh0
   simp only[if_neg hh0]at hR
   refine .s ?_
   refine .split (fun hh=>?_) (fun hh1=>?_)
   ·have hh:n=1:=by simpa using hh
    simp only[if_pos hh]at hR
    exact hR _ _ k2 rfl
   have hh1:n≠1:=by simpa using hh1
   simp only[if_neg hh1]at hR
   refine .s ?_
   refine .split (fun hh=>?_) (fun hh2=>?_)
   ·have hh:n=2:=by simpa using hh
    simp only[if_pos hh]at hR
    exact hR _ _ k2 rfl
   have hh2:n≠2:=by simpa using hh2
   simp only[if_neg hh2]at hR
   refine .s ?_
   refine .split (fun hh=>?_) (fun hh3=>?_)
   ·have hh:n=3:=by simpa using hh
    simp only[if_pos hh]at hR
    refine Pn.s ?_
    exact hR _ _ k2 ⟨_,rfl⟩
   have hh3:n≠3:=by simpa using hh3
   exact hJ _ _ ⟨rfl,hh0,hh1,hh2,hh3⟩
  rintro _ w3 jk ⟨rfl,h0,h1,h2,h3⟩
  simp only[if_neg h0,if_neg h1,if_neg h2,if_neg h3]at hR
  have hlt3:=lt_of_heap n2
  repeat' first|refine .x ?_|refine .y ?_|refine .z ?_|fail
  refine(fun(Q:∀w9,Kp [] w3 w9∧w9.heap[w3.heap.size]?=some (cl [i64 1,.int .i64 n,κs [],i64 0,i64 0] 52)→R (.returned (.tuple #[.slice (some ⟨w3.heap.size,0,none⟩) 1 1,.nilIface])) w9)=>Q _ ⟨by exact kpA,by exact lookA⟩) ?_
  rintro w9 ⟨k9,n9⟩
  refine hR _ _ (k2.tt k9) ⟨_,rfl,⟨_,_,rfl⟩,fun _=>⟨_,0,52,(0,0),_,_,rfl,n9,by simp,by simp[gQ,jL]⟩⟩
 exact main _ fun en w' k h=>⟨k,h⟩
end Go.W.T
namespace Go.W.T
open Go Go.W Go.M Go.Proofs
abbrev aZ(cp:Value)(lim:Lim)(most nb:Nat)(hv:Value)(left:Nat)(last:Bool)(rv:Value)(closed:Bool):List Value:=
 [cp,.int .i64 lim.depth,.int .i64 lim.fuel,.int .i64 lim.size,i64 (most:Nat),ansV nb,hv,i64 (left:Nat),.bool last,rv,.bool closed]
theorem ZF:Idle P 180:=fun v1 v2 w=>by
 refine(Si (keep:=[]) (args:=[v1,v2]) (R:=fun en w'=>(∃v,en=.returned v)∧w'=w) Tryz.func180 rfl rfl ?_).mono ?_
 ·rw[qE]
  unfold jS
  repeat' first|refine .x ?_|refine .y ?_|refine .z ?_|fail
  exact⟨⟨_,rfl⟩,rfl⟩
 ·rintro en u' w' ⟨h1,h2,h3⟩
  exact⟨h2,h1,h3⟩
theorem dA_180{R:Ending→World→Prop}{w:World}{lb eb:Nat}{x y s:Value}{t:TypeId}{t1 t2:TypeId}{ch:List PanicEntry}(hf:ch=[{ v:=.iface t s,recovered:=false }])(hl:w.heap[lb]?=some (cl [x] t1))(he:w.heap[eb]?=some (cl [y] t2))(hne:lb≠eb)
  (h:∀w3,Kp [(lb,lb+1),(eb,eb+1)] w w3→R (.returned (.tuple #[.slice none 0 0,.bool false])) w3):dA R 180 (pt lb 0) (pt eb 0) ch w:=by
 subst hf
 have hll:=lt_of_heap hl
 have hle:=lt_of_heap he
 refine⟨_,rfl,?_⟩
 refine(Qj (keep:=[]) (args:=[pt lb 0,pt eb 0]) (R:=fun en w'=>en=.returned (.tuple #[])∧w'=ag (ag w lb (cl [.slice none 0 0] t1)) eb (cl [.bool false] t2)) Tryz.func180 rfl rfl ?_).mono ?_
 ·rw[qE]
  unfold jS
  repeat' first|refine .x ?_|refine .y ?_|refine .z ?_|fail
  rfl
 ·rintro en u' w' ⟨rfl,rfl,rfl⟩
  refine⟨⟨_,rfl⟩,rfl,?_⟩
  have k:Kp [(lb,lb+1),(eb,eb+1)] w (ag (ag w lb (cl [.slice none 0 0] t1)) eb (cl [.bool false] t2)):=by exact kpA
  repeat' first|refine .x ?_|refine .y ?_|refine .z ?_|fail
  exact h _ k
def U1(n:Int)(l:List Nd)(w':World)(v:Value):Prop:=match Yo n l with
 |none=>∃x,v=.tuple #[x,.bool false]
 |some r=>∃rv,v=.tuple #[rv,.bool true]∧FK w' rv r
theorem w_ask{w:World}{sb nb most left:Nat}{cp hv rv:Value}{lim:Lim}{last closed:Bool}{n:Int}{l:List Nd}{av:Value}(h:w.heap[sb]?=some (cl (aZ cp lim most nb hv left last rv closed) 184))
  (hn:w.heap[nb]?=some (cl [.int .i64 n] 3)) (key:Np) (ha:FK w av l):Calls P Gz #[pt sb 0,keyV key,av] w (Ret fun v w'=>U1 n l w' v∧Kp [] w w'):=by
 refine Ret.R fun R hR=>?_
 refine Em ZF ?_
 unfold lY
 have hlt:=lt_of_heap h
 have hnlt:=lt_of_heap hn
 refine .s ?_
 refine .s ?_
 refine .s ?_
 have k6:Kp [] w (((w.alloc (cl [.int .u32 key.1,.int .u32 key.2.1,.int .u32 key.2.2] 182)).alloc (cl [.slice none 0 0] 34)).alloc (cl [.bool false] 4)):=by exact kpA
 have m1:(((w.alloc (cl [.int .u32 key.1,.int .u32 key.2.1,.int .u32 key.2.2] 182)).alloc (cl [.slice none 0 0] 34)).alloc (cl [.bool false] 4)).heap[w.heap.size]?=some (cl [.int .u32 key.1,.int .u32 key.2.1,.int .u32 key.2.2] 182):=by exact lookA
 have m2:(((w.alloc (cl [.int .u32 key.1,.int .u32 key.2.1,.int .u32 key.2.2] 182)).alloc (cl [.slice none 0 0] 34)).alloc (cl [.bool false] 4)).heap[w.heap.size+1]?=some (cl [.slice none 0 0] 34):=by exact lookA
 have m3:(((w.alloc (cl [.int .u32 key.1,.int .u32 key.2.1,.int .u32 key.2.2] 182)).alloc (cl [.slice none 0 0] 34)).alloc (cl [.bool false] 4)).heap[w.heap.size+2]?=some (cl [.bool false] 4):=by exact lookA
 generalize ((w.alloc (cl [.int .u32 key.1,.int .u32 key.2.1,.int .u32 key.2.2] 182)).alloc (cl [.slice none 0 0] 34)).alloc (cl [.bool false] 4)=w6 at *
 have h6:w6.heap[sb]?=_:=(k6.same _ hlt trivial).trans h
 have n6:w6.heap[nb]?=_:=(k6.same _ hnlt trivial).trans hn
 have a6:=ha.kp k6
 have hz:=lt_of_heap m3
 have n6d:w6.drew.heap[nb]?=some (cl [.int .i64 n] 3):=n6
 repeat' first|refine .x ?_|refine .y ?_|refine .z ?_|fail
 refine gJ.f (by kernel_rfl) ?_
 refine Cl.by (Td n6d key av l) ?_ ?_ ?_
 ·rintro v w7 ⟨k7,hv⟩
  have k67:Kp [] w6 w7:=(by exact kpA:Kp [] w6 w6.drew).tt k7
  have m2':w7.heap[w.heap.size+1]?=_:=(k67.same _ (by omega) trivial).trans m2
  have m3':w7.heap[w.heap.size+2]?=_:=(k67.same _ (by omega) trivial).trans m3
  have hz7:=lt_of_heap m3'
  have fin:∀(a:Option Addr) (m c:Nat) (e:Value) (b:Bool),v=.tuple #[.slice a m c,e]→isNil .ifc e=some b→(∀w9,Kp [] w w9→Kp [(w.heap.size+1,w.heap.size+1+1),(w.heap.size+2,w.heap.size+2+1)] w7 w9→U1 n l w9 (.tuple #[.slice a m c,.bool b])) →
    Ex v 0 fun x13=>Ex v 1 fun x14=>St (pt (w.heap.size+1) 0) x13 w7 fun w15=>Ld (pt (w.heap.size+1) 0) w15.drew fun x16=>En .ifc false x14 fun x17=>St (pt (w.heap.size+1) 0) x16 w15.drew fun w18=>St (pt (w.heap.size+2) 0) x17 w18 fun w19=>Ld (pt (w.heap.size+1) 0) w19 fun x20=>Ld (pt (w.heap.size+2) 0) w19 fun x21=>R (.returned (.tuple #[x20,x21])) w19:=by
   rintro a m c e b rfl he hask
   refine .s ?_
   refine .s ?_
   refine .s ?_
   refine .s ?_
   refine En.s ?_ he
   repeat' first|refine .x ?_|refine .y ?_|refine .z ?_|fail
   rw[show (b != false)=b by cases b<;>rfl]
   refine(fun(Q:∀w9,Kp [(w.heap.size+1,w.heap.size+1+1),(w.heap.size+2,w.heap.size+2+1)] w7 w9→R (.returned (.tuple #[.slice a m c,.bool b])) w9)=>Q _ (by exact kpA)) ?_
   intro w9 k9
   have kw9:Kp [] w w9:=(k6.tt k67).trans k9 fun i hi _=>⟨trivial,by omega,by omega,trivial⟩
   exact hR _ _ ⟨hask w9 kw9 k9,kw9⟩
  unfold AnsAt at hv
  unfold U1 Yo at fin
  obtain⟨⟨aa,ac,hav⟩,_⟩:=id ha
  by_cases c0:n=0
  ·simp only[if_pos c0]at hv fin
   cases hv
   subst hav
   exact fin _ _ _ _ true rfl rfl fun w9 k0 k9=>⟨_,rfl,ha.kp k0⟩
  simp only[if_neg c0]at hv fin
  by_cases c1:n=1
  ·simp only[if_pos c1]at hv fin
   cases hv
   exact fin _ _ _ _ true rfl rfl fun w9 k0 k9=>⟨_,rfl,⟨_,_,rfl⟩,fun h=>absurd rfl h⟩
  simp only[if_neg c1]at hv fin
  by_cases c2:n=2
  ·simp only[if_pos c2]at hv fin
   cases hv
   subst hav
   exact fin _ _ _ _ false rfl rfl fun w9 k0 k9=>⟨_,rfl⟩
  simp only[if_neg c2]at hv fin
  by_cases c3:n=3
  ·simp only[if_pos c3]at hv
   obtain⟨s,hv⟩:=hv
   cases hv
  simp only[if_neg c3]at hv fin
  obtain⟨rv',hv,hrv⟩:=hv
  cases hv
  obtain⟨⟨ra,rc,rfl⟩,_⟩:=id hrv
  refine fin _ _ _ _ true rfl rfl fun w9 k0 k9=>⟨_,rfl,⟨_,_,rfl⟩,fun _=>?_⟩
  obtain⟨b,off,t,fr,cs,c,e1,e2,e3,e4⟩:=hrv.2 (by simp)
  refine⟨b,off,t,fr,cs,c,e1,(k9.same b (lt_of_heap e2) ⟨?_,?_,trivial⟩).trans e2,e3,e4⟩
  ·by_cases e:b=w.heap.size+1
   ·subst e
    rw[m2']at e2
    have:=Option.some.inj e2
    simp only[cl,clf,Obj.cells.injEq]at this
    have hl:1=cs.length:=by simpa using congrArg Array.size this.1
    simp only[List.length_singleton]at e3
    omega
   ·omega
  ·by_cases e:b=w.heap.size+2
   ·subst e
    rw[m3']at e2
    have:=Option.some.inj e2
    simp only[cl,clf,Obj.cells.injEq]at this
    have hl:1=cs.length:=by simpa using congrArg Array.size this.1
    simp only[List.length_singleton]at e3
    omega
   ·omega
 ·rintro ch w7 ⟨k7,hv⟩
  have k67:Kp [] w6 w7:=(by exact kpA:Kp [] w6 w6.drew).tt k7
  have m2':w7.heap[w.heap.size+1]?=_:=(k67.same _ (by omega) trivial).trans m2
  have m3':w7.heap[w.heap.size+2]?=_:=(k67.same _ (by omega) trivial).trans m3
  unfold AnsAt at hv
  by_cases c0:n=0
  ·simp only[if_pos c0]at hv;cases hv
  simp only[if_neg c0]at hv
  by_cases c1:n=1
  ·simp only[if_pos c1]at hv;cases hv
  simp only[if_neg c1]at hv
  by_cases c2:n=2
  ·simp only[if_pos c2]at hv;cases hv
  simp only[if_neg c2]at hv
  by_cases c3:n=3
  ·simp only[if_pos c3]at hv
   obtain⟨s,hv⟩:=hv
   cases hv
   refine dA_180 rfl m2' m3' (by omega) ?_
   intro w9 k9
   refine hR _ _ ⟨?_,?_⟩
   ·unfold U1 Yo
    simp only[if_neg c0,if_neg c1,if_neg c2,if_pos c3]
    exact⟨_,rfl⟩
   ·exact(k6.tt k67).trans k9 fun i hi _=>⟨trivial,by omega,by omega,trivial⟩
  simp only[if_neg c3]at hv
  obtain⟨_,hv,_⟩:=hv
  cases hv
 ·rintro w7 ⟨_,hv⟩
  unfold AnsAt at hv
  by_cases c0:n=0
  ·simp only[if_pos c0]at hv;cases hv
  simp only[if_neg c0]at hv
  by_cases c1:n=1
  ·simp only[if_pos c1]at hv;cases hv
  simp only[if_neg c1]at hv
  by_cases c2:n=2
  ·simp only[if_pos c2]at hv;cases hv
  simp only[if_neg c2]at hv
  by_cases c3:n=3
  ·simp only[if_pos c3]at hv;obtain⟨s,hv⟩:=hv;cases hv
  simp only[if_neg c3]at hv
  obtain⟨_,hv,_⟩:=hv
  cases hv
end Go.W.T
namespace Go.W.T
open Go Go.W Go.M Go.Proofs
theorem F7{w:World}{vals:List Value}{l:List Nat}(hv:vals=l.map fun n=>.int .u32 (n:Nat))(hn:∀n∈l,n<4294967296)(hl:l.length≤1000){E:KE}{K:KV}(hK:∀w',Kp [] w w'→K (κs (dN l)) w'):BuS 180 1 vals w fun x w'=>Cl P 71 #[x] w' E K:=by
 subst hv
 have h1:((l.map fun n=>Value.int .u32 (n:Nat)).all fun v=>Nat.beq v.cells.size 1)=true:=by
  rw[List.all_map,List.all_eq_true];intro n _;rfl
 have h2:((l.map fun n=>Value.int .u32 (n:Nat)).flatMap (·.cells.toList))=l.map fun n=>Value.int .u32 (n:Nat):=by
  clear hn hl h1 hK
  induction l with
  |nil=>rfl
  |cons a r ih=>rw[List.map_cons,List.flatMap_cons,ih];rfl
 refine BuS.s (n:=l.length) ?_ h1 h2 (by simp) rfl
 refine Cl.ret (Wp ⟨_,_,180,rfl,aN ..⟩ hn hl) ?_
 rintro _ w' ⟨rfl,k⟩
 exact hK w' ((by exact kpA:Kp [] w (w.alloc (cl (l.map fun n=>Value.int .u32 (n:Nat)) 180))).tt k)
theorem FY{w:World}{vals:List Value}{l:List Nat}{b n:Nat}(hv:vals=l.map fun n=>.int .u32 (n:Nat))(hb:b=w.heap.size)(h1:n=l.length)(hn:∀n∈l,n<4294967296)(hl:l.length≤1000){E:KE}{K:KV}(hK:∀w',Kp [] w w'→K (κs (dN l)) w'):Cl P 71 #[.slice (some ⟨b,0,none⟩) n n] (w.alloc (cl vals 180)) E K:=by
 subst hv hb h1
 refine Cl.ret (Wp ⟨_,_,180,rfl,aN ..⟩ hn hl) ?_
 rintro _ w' ⟨rfl,k⟩
 exact hK w' ((by exact kpA:Kp [] w (w.alloc (cl (l.map fun n=>Value.int .u32 (n:Nat)) 180))).tt k)
def vU(w:World)(ds:List Def)(d:CS)(cp:Value):Prop:=∃b dv,rf w ds d (pt b 0)∧w.heap[b]?=some (cl [dv,cp] 71)
theorem vU.kp{w w':World}{ds:List Def}{d:CS}{cp:Value}(h:vU w ds d cp)(k:Kp [] w w'):vU w' ds d cp:=by
 obtain⟨b,dv,h1,h2⟩:=h
 exact⟨b,dv,h1.kp0 k,(k.same _ (lt_of_heap h2) trivial).trans h2⟩
theorem vU.parts{w:World}{ds:List Def}{d:CS}{cp:Value}(h:vU w ds d cp):∃B lv,cp=pt (B+3) 0∧w.heap[B+3]?=some (cl [lv,.map (some B),.map (some (B+1)),.map (some (B+2))] gG) ∧
  (∃es ck,w.heap[B+1]?=some (.map es ck)∧MK κc es ck (d.procs.map fun x=>(x.1,GU x.2))∧∀x∈d.procs,KL x.1) ∧
  (∃es ck m,w.heap[B+2]?=some (.map es ck)∧MK (κi .u32) es ck m∧UW w m d.aV)∧(0<d.L.length→d.L.length<1000000→∃T,MC w cp T d.L d.tabs):=by
 obtain⟨b,dv,h1,h2⟩:=h
 obtain⟨sb,dv',B,lv,e1,e2,e3,e4,e5,e6⟩:=h1.code
 have:sb=b:=by cases e1;rfl
 subst this
 rw[h2]at e2
 have:=Option.some.inj e2
 simp only[cl,Obj.cells.injEq]at this
 have hc:cp=pt (B+3) 0:=Option.some.inj (show some cp=some (pt (B+3) 0)from congrArg (fun a=>a.toList[1]?) this.1)
 subst hc
 exact⟨B,lv,rfl,e3,e4,e5,e6⟩
def tY(R:Ending→World→Prop)(a0 a2 x1 x41 x42:Value)(w47:World):Prop:=Nt x41 fun x48=>If x48 ( BuS 180 1 [(.int .u32 3)] w47 fun x49 w50=>Cl P 71 #[x49] w50 (pE R) fun x51 w52=>R (.returned x51) w52) ( Ln true a2 fun x53=>Nk a0 fun x54=>Fa x54 1 fun x55=>Fa x55 2 fun x56=>Ld x56 w47 fun x57=>Bi .gtr x53 x57 fun x58=>If x58 ( BuS 180 1 [(.int .u32 4)] w47 fun x59 w60=>Cl P 71 #[x59] w60 (pE R) fun x61 w62=>R (.returned x61) w62) ( Nk a0 fun x63=>Fa x63 0 fun x64=>Ld x64 w47.drew fun x65=>Fa x42 0 fun x66=>Ld x66 w47.drew fun x67=>Nk a0 fun x68=>Fa x68 1 fun x69=>LdN x69 3 w47.drew fun x70=>Cl P 35 #[x65,x67,a2,x70] w47.drew (pE R) fun x71 w72=>Ex x71 0 fun x73=>Ex x71 1 fun x74=>En .ifc true x74 fun x75=>If x75 ( BuS 180 1 [(.int .u32 4)] w72 fun x76 w77=>Cl P 71 #[x76] w77 (pE R) fun x78 w79=>R (.returned x78) w79) ( LdN x1 3 w72 fun x80=>Cl P 148 #[a0,x80,x73] w72 (pE R) fun x81 w82=>Ex x81 0 fun x83=>Ex x81 1 fun x84=>Nt x84 fun x85=>If x85 ( BuS 180 1 [(.int .u32 5)] w82 fun x86 w87=>Cl P 71 #[x86] w87 (pE R) fun x88 w89=>R (.returned x88) w89) ( Nk a0 fun x90=>Fa x90 0 fun x91=>Ld x91 w82.drew fun x92=>Fa x42 1 fun x93=>Ld x93 w82.drew fun x94=>Nk a0 fun x95=>Fa x95 1 fun x96=>LdN x96 3 w82.drew fun x97=>Cl P 36 #[x92,x94,x83,x97] w82.drew (pE R) fun x98 w99=>Ex x98 0 fun vH=>Ex x98 1 fun x101=>En .ifc true x101 fun x102=>If x102 ( BuS 180 1 [(.int .u32 5)] w99 fun zh PZ=>Cl P 71 #[zh] PZ (pE R) fun CZ zQ=>R (.returned CZ) zQ) ( BuS 180 1 [(.int .u32 0)] w99 fun pR MO=>Cl P 71 #[pR] MO (pE R) fun zJ Hy=>Bs .add zJ vH fun Gg=>R (.returned Gg) Hy)))))
theorem dV.pos{c:CS}{t:Ty}{p:Nat}(h:dV c t p):0<c.L.length:=by
 have:=h.1.right.head
 have:=nR this
 omega
theorem Whole.pos{ds:List Def}{c d:CS}(h:Whole ds c d){t:Ty}{p:Nat}(hs:dV (M.aC CS.empty ds) t p):0<d.L.length:=by
 obtain⟨r,hr⟩:=h.pre
 have:=dV.pos hs
 rw[hr,List.length_append,h.comp.rsv.len];omega
theorem Q5{w:World}{ds:List Def}{c d:CS}{cp:Value}(hc:vU w ds d cp)(hw:Whole ds c d){t:Ty}{p:Nat}(ht:okT t=true)(hs:dV (M.aC CS.empty ds) t p)(b:By){lim:Lim}(hl:lim.valid=true)(hb:b.length<1000000000):
  Calls P AP #[cp,i64 (p:Nat),κs b,VJ lim] w (Ret fun v w'=>Kp [] w w'∧DecAt w.heap.size w' (KU d.defs lim t b) v):=by
 obtain⟨B,lv,_,_,_,_,hm⟩:=hc.parts
 obtain⟨T,hmc⟩:=hm (Whole.pos hw hs) hw.len
 obtain⟨⟨v1,v2⟩,⟨v3,v4⟩,v5,v6⟩:=Lim.FN.mp hl
 obtain⟨n,hr⟩:=hw.side (lim:=lim) (Xr d.L d.tabs lim) (by omega) ht hs ⟨b,0,[]⟩
 have h:=YV hmc hw.all hr (by omega) (by omega) hb
 have he:decM b ((kJ (nU lim) (sem (nU lim) d.defs lim.depth.toNat) t ⟨b,0,[]⟩).andThen fun y=>.ok ⟨p+tsz t,[],[],y⟩)=KU d.defs lim t b:=by
  unfold decM KU
  rw[Res.assoc]
  rfl
 rw[he]at h
 exact h
theorem Q4{w:World}{ds:List Def}{c d:CS}{cp:Value}(hc:vU w ds d cp)(hw:Whole ds c d){t:Ty}{p:Nat}(ht:okT t=true)(hs:dV (M.aC CS.empty ds) t p){l:List Nd}{lv:Value}(hn:FK w lv l)(hnb:∀n∈l,n.s.length≤140737488355328)(hlb:l.length≤140737488355328){lim:Lim}(hl:lim.valid=true):
  Calls P AO #[cp,i64 (p:Nat),lv,VJ lim] w (Ret fun v w'=>Kp [] w w'∧EncAt w' (Uz d.defs lim t l) v):=by
 obtain⟨B,lv',_,_,_,_,hm⟩:=hc.parts
 obtain⟨T,hmc⟩:=hm (Whole.pos hw hs) hw.len
 obtain⟨⟨v1,v2⟩,⟨v3,v4⟩,v5,v6⟩:=Lim.FN.mp hl
 obtain⟨n,hr⟩:=hw.side (lim:=lim) (U8 d.L d.tabs lim) (by omega) ht hs ⟨l,0,[]⟩
 have h:=YU hmc hw.all hn hnb hlb hr (by omega) (by omega) (by omega)
 have he:encM l ((kJ (lV lim) (sem (lV lim) d.defs lim.depth.toNat) t ⟨l,0,[]⟩).andThen fun y=>.ok ⟨p+tsz t,[],[],y⟩)=Uz d.defs lim t l:=by
  unfold encM Uz
  rw[Res.assoc]
  rfl
 rw[he]at h
 exact h
theorem VY{defs:List (By×Def)}{lim:Lim}{t:Ty}{b:By}{v:List Nd}(ho:qF defs)(ht:okT t=true)(h:KU defs lim t b=.ok v):∀n∈v,n.s.length≤b.length:=by
 by_cases hv:t=.void
 ·subst hv
  unfold KU kJ at h
  rw[Res.bW]at h
  split at h
  ·cases h
  ·cases h
   intro n hn;cases hn
 ·exact Yj ho ht hv h
theorem t_some{R:Ending→World→Prop}{W:World}{ds:List Def}{c d:CS}{cp:Value}(hc:vU W ds d cp)(hw:Whole ds c d){sb nb kb xb most left:Nat}{hv rv:Value}{lim:Lim}{last closed:Bool}{n:Int}(hl:lim.valid=true)
  (hsv:W.heap[sb]?=some (cl (aZ cp lim most nb hv left last rv closed) 184)) (hn:W.heap[nb]?=some (cl [.int .i64 n] 3)) {key:Np} (hk:W.heap[kb]?=some (cl [.int .u32 key.1,.int .u32 key.2.1,.int .u32 key.2.2] 182))
  {v:Nat×Nat×Bool×Bool} (hx:W.heap[xb]?=some (cl [i64 (v.1:Nat),i64 (v.2.1:Nat),.bool v.2.2.1,.bool v.2.2.2] 207)) {q:kz} (hs:dV (M.aC CS.empty ds) q.arg v.1∧dV (M.aC CS.empty ds) q.res v.2.1) (ho:okT q.arg=true∧okT q.res=true) (b:By) (hb:b.length≤140737488355328)
  (hR:∀w',Kp [] W w'→R (.returned (κs (TG d lim n q b))) w'):tY R (pt sb 0) (κs b) (pt kb 0) (.bool true) (pt xb 0) W:=by
 unfold tY
 obtain⟨⟨v1,v2⟩,⟨v3,v4⟩,v5,v6⟩:=Lim.FN.mp hl
 have hod:qF d.defs:=by rw[hw.defs];exact hw.comp.VW
 unfold TG at hR
 have l1:=lt_of_heap hsv
 have l2:=lt_of_heap hn
 have l3:=lt_of_heap hk
 have l4:=lt_of_heap hx
 repeat' first|refine .x ?_|refine .y ?_|refine .z ?_|fail
 refine .split (fun hh=>?_) (fun hh=>?_)
 ·have hh':(b.length:Int)>lim.size:=of_decide_eq_true hh
  rw[if_pos (by omega)]at hR
  exact F7 (l:=[4]) rfl (by simp) (by simp) fun w' k=>hR w' k
 have hh':¬ (b.length:Int)>lim.size:=of_decide_eq_false hh
 rw[if_neg (by omega)]at hR
 have kd:Kp [] W W.drew:=by exact kpA
 repeat' first|refine .x ?_|refine .y ?_|refine .z ?_|fail
 refine Cl.ret (Q5 (hc.kp kd) hw ho.1 hs.1 b hl (by omega)) ?_
 rintro r w72 ⟨k72,hd⟩
 have X7:=kd.tt k72
 cases hm:KU d.defs lim q.arg b with
 |no e a=>
  rw[hm]at hd hR
  obtain⟨ev,rfl,hE⟩:=hd
  obtain⟨eb,rfl,hE'⟩:=hE
  simp only at hR
  repeat' first|refine .x ?_|refine .y ?_|refine .z ?_|fail
  exact FY (l:=[4]) rfl rfl rfl (by simp) (by simp) fun w' k=>hR w' (X7.tt k)
 |ok l=>
  rw[hm]at hd hR
  obtain⟨lv,o,rfl,hg,hgo⟩:=hd
  have hsm:=VY hod ho.1 hm
  have hln:=aco hod ho.1 hm
  simp only at hR
  have hsv72:w72.heap[sb]?=_:=(X7.same _ l1 trivial).trans hsv
  have hn72:w72.heap[nb]?=_:=(X7.same _ l2 trivial).trans hn
  have hk72:w72.heap[kb]?=_:=(X7.same _ l3 trivial).trans hk
  have hx72:w72.heap[xb]?=_:=(X7.same _ l4 trivial).trans hx
  repeat' first|refine .x ?_|refine .y ?_|refine .z ?_|fail
  refine Cl.ret (w_ask hsv72 hn72 key (Gw.ns hg)) ?_
  rintro r w82 ⟨ha,k82⟩
  have ZA:=X7.tt k82
  have hsv82:w82.heap[sb]?=_:=(ZA.same _ l1 trivial).trans hsv
  have hx82:w82.heap[xb]?=_:=(ZA.same _ l4 trivial).trans hx
  unfold U1 at ha
  cases hans:Yo n l with
  |none=>
   rw[hans]at ha hR
   obtain⟨x,rfl⟩:=ha
   simp only at hR
   repeat' first|refine .x ?_|refine .y ?_|refine .z ?_|fail
   exact FY (l:=[5]) rfl rfl rfl (by simp) (by simp) fun w' k=>hR w' (ZA.tt k)
  |some rl=>
   rw[hans]at ha hR
   obtain⟨rv',rfl,hrn⟩:=ha
   simp only at hR
   have hrl:(∀n∈rl,n.s.length≤140737488355328)∧rl.length≤140737488355328:=by
    unfold Yo at hans
    split at hans
    ·cases hans;exact⟨fun n hn=>by have:=hsm n hn;omega,by omega⟩
    split at hans
    ·cases hans;exact⟨fun n hn=>absurd hn List.not_mem_nil,Nat.zero_le _⟩
    split at hans
    ·cases hans
    split at hans
    ·cases hans
    ·cases hans;exact⟨fun n hn=>by rw[List.mem_singleton.mp hn];simp,by simp⟩
   have kd2:Kp [] w82 w82.drew:=by exact kpA
   repeat' first|refine .x ?_|refine .y ?_|refine .z ?_|fail
   refine Cl.ret (Q4 (hc.kp (ZA.tt kd2)) hw ho.2 hs.2 (hrn.kp kd2) hrl.1 hrl.2 hl) ?_
   rintro r w99 ⟨k99,he⟩
   have k099:=(ZA.tt kd2).tt k99
   cases hme:Uz d.defs lim q.res rl with
   |no e a=>
    rw[hme]at he hR
    obtain⟨ev,rfl,hE⟩:=he
    obtain⟨eb,rfl,hE'⟩:=hE
    simp only at hR
    repeat' first|refine .x ?_|refine .y ?_|refine .z ?_|fail
    exact FY (l:=[5]) rfl rfl rfl (by simp) (by simp) fun w' k=>hR w' (k099.tt k)
   |ok s=>
    rw[hme]at he hR
    obtain rfl:r=_:=he
    have hsl:=Uy hod ho.2 hme
    have hwl:=dw [0]
    repeat' first|refine .x ?_|refine .y ?_|refine .z ?_|fail
    refine FY (l:=[0]) rfl rfl rfl (by simp) (by simp) fun w' k=>?_
    simp only[List.length_cons,List.length_nil]at hwl
    repeat' first|refine .x ?_|refine .y ?_|refine .z ?_|fail
    exact hR w' (k099.tt k)
theorem t_none{R:Ending→World→Prop}{a0 a2 x1 x42:Value}{W:World}(hR:∀w',Kp [] W w'→R (.returned (κs (dN [3]))) w'):tY R a0 a2 x1 (.bool false) x42 W:=by
 unfold tY
 refine .s ?_
 refine .t ?_
 exact F7 (l:=[3]) rfl (by simp) (by simp) fun w' k=>hR w' k
end Go.W.T
namespace Go.W.T
open Go Go.W Go.M Go.Proofs
theorem vs_len{d:CS}(h:∀x∈d.aV,x.2.length<1000000){g:Int}{vs:List Int}(hl:d.aV.lookup g=some vs):vs.length<1000000:=h (g,vs) (vg hl)
theorem Xw{w:World}{ds:List Def}{c d:CS}{cp:Value}(hc:vU w ds d cp)(hw:Whole ds c d)(ht:Tidy ds){sb nb most left:Nat}{hv rv:Value}{lim:Lim}{last closed:Bool}{n:Int}(hl:lim.valid=true)
  (hsv:w.heap[sb]?=some (cl (aZ cp lim most nb hv left last rv closed) 184)) (hn:w.heap[nb]?=some (cl [.int .i64 n] 3)) {key:Np} (hk:KL key) (b:By) (hb:b.length≤140737488355328) (hvl:∀x∈d.aV,x.2.length<1000000):
  Calls P qN #[pt sb 0,keyV key,κs b] w (Ret fun v w'=>v=κs (fG d (lh [] ds) lim n key b)∧Kp [] w w'):=by
 refine Ret.R fun R hR=>?_
 apply BF
 unfold qj
 have hR':∀x w',x=fG d (lh [] ds) lim n key b→Kp [] w w'→R (.returned (κs x)) w':=fun x w' h k=>hR _ _ ⟨by rw[h],k⟩
 clear hR
 unfold fG at hR'
 have l1:=lt_of_heap hsv
 have l2:=lt_of_heap hn
 refine .s ?_
 have k2:Kp [] w (w.alloc (cl [.int .u32 key.1,.int .u32 key.2.1,.int .u32 key.2.2] 182)):=by exact kpA
 have m1:(w.alloc (cl [.int .u32 key.1,.int .u32 key.2.1,.int .u32 key.2.2] 182)).heap[w.heap.size]?=some (cl [.int .u32 key.1,.int .u32 key.2.1,.int .u32 key.2.2] 182):=by exact lookA
 generalize w.alloc (cl [.int .u32 key.1,.int .u32 key.2.1,.int .u32 key.2.2] 182)=w2 at *
 have hsv2:w2.heap[sb]?=_:=(k2.same _ l1 trivial).trans hsv
 have hc2:=hc.kp k2
 have hvr:=hw.vr ht
 have l3:=lt_of_heap m1
 obtain⟨B,lv,rfl,e3,⟨es1,ck1,e4,e5,e6⟩,⟨es2,ck2,m,e7,e8,e9⟩,_⟩:=hc2.parts
 have l4:=lt_of_heap e3
 repeat' first|refine .x ?_|refine .y ?_|refine .z ?_|fail
 have e7d:w2.drew.heap[B+2]?=_:=e7
 refine Lk.int0 (k:=.u32) e8 e7d ?_
 rcases Ll key.1 e9 with⟨v1,v2⟩|⟨vv,vs,o,v1,v2,v3⟩
 ·rw[v2]
  rw[v1]at hR'
  simp only[Option.getD_none]
  repeat' first|refine .x ?_|refine .y ?_|refine .z ?_|fail
  exact FY (l:=[1]) rfl rfl rfl (by simp) (by simp) fun w' k=>hR' _ w' rfl (k2.tt ((by exact kpA:Kp [] w2 w2.drew).tt k))
 rw[v2]
 rw[v1]at hR'
 simp only[Option.getD_some]at hR' ⊢
 have hvsl:=vs_len hvl v1
 have hvsr:∀n∈vs,0≤n∧n≤4294967295:=hvr (key.1,vs) (vg v1)
 have hu:wY w2 vv vs:=⟨o,v3⟩
 refine hu.ln ?_
 refine .s ?_
 refine .split (fun hh=>?_) (fun hh=>?_)
 ·have hz:vs=[]:=by
   have:((vs.length:Nat):Int)=0:=by simpa using hh
   exact List.length_eq_zero_iff.mp (by omega)
  subst hz
  exact F7 (l:=[1]) rfl (by simp) (by simp) fun w' k=>hR' _ w' rfl (k2.tt ((by exact kpA:Kp [] w2 w2.drew).tt k))
 have hz:vs≠[]:=fun h=>by subst h;simp at hh
 have hze:vs.isEmpty=false:=by cases vs with
  |nil=>exact absurd rfl hz
  |cons a r=>rfl
 rw[hze]at hR'
 simp only[Bool.false_eq_true,if_false]at hR'
 have kd:Kp [] w2 w2.drew:=by exact kpA
 repeat' first|refine .x ?_|refine .y ?_|refine .z ?_|fail
 refine Cl.ret (S9 (hu.kp kd) key.2.1 (by omega)) ?_
 rintro _ w21 ⟨rfl,k21⟩
 have Jy:=kd.tt k21
 cases hct:vs.contains key.2.1 with
 |false=>
  rw[hct]at hR'
  simp only[Bool.not_false,if_true]at hR'
  repeat' first|refine .x ?_|refine .y ?_|refine .z ?_|fail
  refine Cl.ret (w_MinU (hu.kp Jy) hz (by omega)) ?_
  rintro _ w24 ⟨rfl,k24⟩
  refine Cl.ret (w_MaxU ((hu.kp Jy).kp k24) hz (by omega)) ?_
  rintro _ w26 ⟨rfl,k26⟩
  obtain⟨a,r,rfl⟩:=List.exists_cons_of_ne_nil hz
  have ha:=hvsr a (List.mem_cons_self ..)
  have hmin:=foldl_min r a ha.1 fun n hn=>(hvsr n (List.mem_cons_of_mem _ hn)).1
  have hmax:=foldl_max r a 4294967295 ha.1 ha.2 fun n hn=>hvsr n (List.mem_cons_of_mem _ hn)
  have hmin':0≤minL (a::r)∧minL (a::r)≤4294967295:=⟨hmin.1,by have:=hmin.2;show r.foldl min a≤_;omega⟩
  have hmax':0≤maxL (a::r)∧maxL (a::r)≤4294967295:=hmax
  refine F7 (l:=[2,(minL (a::r)).toNat,(maxL (a::r)).toNat]) ?_ ?_ (by simp) fun w' k=>hR' _ w' rfl (k2.tt (Jy.tt (k24.tt (k26.tt k))))
  ·simp only[List.map_cons,List.map_nil,Int.toNat_of_nonneg hmin'.1,Int.toNat_of_nonneg hmax'.1];rfl
  ·intro n hn
   simp only[List.mem_cons,List.not_mem_nil,or_false]at hn
   rcases hn with rfl|rfl|rfl<;>omega
 |true=>
  rw[hct]at hR'
  simp only[Bool.not_true,Bool.false_eq_true,if_false]at hR'
  have e3':w21.heap[B+3]?=_:=(Jy.same _ l4 trivial).trans e3
  have hsv21:w21.heap[sb]?=_:=(Jy.same _ (by omega) trivial).trans hsv2
  have m1':w21.heap[w.heap.size]?=_:=(Jy.same _ l3 trivial).trans m1
  have e4':w21.heap[B+1]?=_:=(Jy.same _ (lt_of_heap e4) trivial).trans e4
  have hn21:w21.heap[nb]?=_:=((k2.tt Jy).same _ l2 trivial).trans hn
  have hc21:=hc2.kp Jy
  have hu3:∀x∈d.procs.map fun x=>(x.1,GU x.2),KL x.1:=fun x hx=>by
   obtain⟨y,hy,rfl⟩:=List.mem_map.mp hx
   exact e6 y hy
  have hlk:(d.procs.map fun x=>(x.1,GU x.2)).lookup key=(d.procs.lookup key).map GU:=nS GU d.procs key
  have q4:=lt_of_heap e4'
  have q1:=lt_of_heap m1'
  have q2:=lt_of_heap hsv21
  have q3:=lt_of_heap e3'
  rcases hw.pm ht key with⟨p1,p2⟩|⟨v,q,p1,p2,p3,p4⟩
  ·rw[p2]at hR'
   simp only at hR'
   have fin:∀(W:World) (x42:Value),Kp [] w21 W→tY R (pt sb 0) (κs b) (pt w.heap.size 0) (.bool false) x42 W:=fun W x42 kW=>
    t_none fun w' k=>hR' _ w' rfl (k2.tt (Jy.tt (kW.tt k)))
   rw[p1]at hlk
   simp only[Option.map_none]at hlk
   repeat' first|refine .x ?_|refine .y ?_|refine .z ?_|fail
   refine⟨?_,?_⟩
   ·refine Nu e5 hu3 hk (show w21.drew.heap[B+1]?=_ from e4') ?_
    rw[hlk]
    simp only
    refine .s ?_
    refine .s ?_
    refine .s ?_
    refine .s ?_
    refine .s ?_
    refine .s ?_
    refine .s ?_
    exact fin _ _ (by exact kpA)
   ·refine .s ?_
    refine .s ?_
    refine .s ?_
    refine .s ?_
    refine Nu e5 hu3 hk (by exact lookA) ?_
    rw[hlk]
    simp only
    refine .s ?_
    refine .s ?_
    refine .s ?_
    exact fin _ _ (by exact kpA)
  ·rw[p2]at hR'
   simp only at hR'
   have fin:∀(W:World) (xb:Nat),Kp [] w21 W→W.heap[xb]?=some (cl [i64 (v.1:Nat),i64 (v.2.1:Nat),.bool v.2.2.1,.bool v.2.2.2] 207)→tY R (pt sb 0) (κs b) (pt w.heap.size 0) (.bool true) (pt xb 0) W:=fun W xb kW hx=>
    t_some (hc21.kp kW) hw hl ((kW.same _ q2 trivial).trans hsv21) ((kW.same _ (lt_of_heap hn21) trivial).trans hn21) ((kW.same _ q1 trivial).trans m1') hx p3 p4 b hb fun w' k=>hR' _ w' rfl (k2.tt (Jy.tt (kW.tt k)))
   rw[p1]at hlk
   simp only[Option.map_some]at hlk
   repeat' first|refine .x ?_|refine .y ?_|refine .z ?_|fail
   refine⟨?_,?_⟩
   ·refine Nu e5 hu3 hk (show w21.drew.heap[B+1]?=_ from e4') ?_
    rw[hlk]
    simp only
    refine .s ?_
    refine .s ?_
    refine .s ?_
    refine .s ?_
    refine .s ?_
    refine .s ?_
    refine .s ?_
    exact fin _ _ (by exact kpA) (by exact lookA)
   ·refine .s ?_
    refine .s ?_
    refine .s ?_
    refine .s ?_
    refine Nu e5 hu3 hk (by exact lookA) ?_
    rw[hlk]
    simp only
    refine .s ?_
    refine .s ?_
    refine .s ?_
    exact fin _ _ (by exact kpA) (by exact lookA)
end Go.W.T
namespace Go.W.T
open Go Go.W Go.M Go.Proofs
def Kv(R:Ending→World→Prop)(a0 a1 x20 x42:Value)(w44:World):Prop:=SlL 1 a1 (some (.int .i64 24)) none fun x45=>Lp [x45,(.int .i64 0)] w44 fun jk46 vals w47 C48=>V2 vals fun v49 v50=>Bi .lss v50 (.int .i64 2) fun x51=>If x51 ( Cl P 106 #[v49] w47 (pE R) fun x52 w53=>Ex x52 0 fun x54=>Ex x52 1 fun x55=>Nt x55 fun x56=>If x56 ( R (.returned (.string ⟨#[]⟩)) w53) ( Bi .add v50 (.int .i64 1) fun x57=>C48 [x54,x57] w53)) ( LdN x42 3 w47.drew fun x58=>CvB v49 w47.drew fun x59=>BuS 180 1 [x20,(.int .u32 1),(.int .u32 0),(.int .u32 0),(.int .u32 0)] w47.drew fun x60 w61=>(LdN x42 3 w61 fun x62=>x62=x58)∧(CvB v49 w61 fun x63=>x63=x59)∧Cl P 71 #[x60] w61 (pE R) fun x64 w65=>(LdN x42 3 w65 fun x66=>x66=x58)∧(CvB v49 w65 fun x67=>x67=x59)∧Cl P 107 #[a0,x58,x59] w65 (pE R) fun x68 w69=>Bs .add x64 x68 fun x70=>R (.returned x70) w69)
structure We (w:World) (ds:List Def) (c d:CS) (cp:Value) (lim:Lim) (nb:Nat) (n:Int):Prop where
 code:vU w ds d cp
 whole:Whole ds c d
 tidy:Tidy ds
 lim:lim.valid=true
 num:w.heap[nb]?=some (cl [.int .i64 n] 3)
 vl:∀x∈d.aV,x.2.length<1000000
theorem We.kp{w w':World}{ds:List Def}{c d:CS}{cp:Value}{lim:Lim}{nb:Nat}{n:Int}(h:We w ds c d cp lim nb n)(k:Kp [] w w'):We w' ds c d cp lim nb n:=
 ⟨h.code.kp k,h.whole,h.tidy,h.lim,(k.same _ (lt_of_heap h.num) trivial).trans h.num,h.vl⟩
theorem XP{ds:List Def}{c d:CS}(hw:Whole ds c d){lim:Lim}(hl:lim.valid=true)(n:Int){q:kz}(ho:okT q.res=true)(b:By):(TG d lim n q b).length≤100100:=by
 have hod:qF d.defs:=by rw[hw.defs];exact hw.comp.VW
 obtain⟨⟨v1,v2⟩,⟨v3,v4⟩,v5,v6⟩:=Lim.FN.mp hl
 unfold TG
 split
 ·rw[dw];simp
 split
 ·rw[dw];simp
 split
 ·rw[dw];simp
 split
 ·rw[dw];simp
 ·rename_i s hs
  have:=Uy hod ho hs
  rw[List.length_append,dw]
  simp only[List.length_cons,List.length_nil]
  omega
theorem Fq{ds:List Def}{c d:CS}(hw:Whole ds c d)(ht:Tidy ds){lim:Lim}(hl:lim.valid=true)(n:Int)(key:Np)(b:By):(fG d (lh [] ds) lim n key b).length≤100100:=by
 unfold fG
 simp only
 split
 ·rw[dw];simp
 split
 ·rw[dw];simp
 rcases hw.pm ht key with⟨p1,p2⟩|⟨v,q,p1,p2,p3,p4⟩
 ·rw[p2];simp only;rw[dw];simp
 ·rw[p2];exact XP hw hl n p4.2 b
theorem abk{R:Ending→World→Prop}{W:World}{ds:List Def}{c d:CS}{cp:Value}{lim:Lim}{nb:Nat}{n:Int}(hc:We W ds c d cp lim nb n){sb kb most left:Nat}{hv rv:Value}{last closed:Bool}
  (hsv:W.heap[sb]?=some (cl (aZ cp lim most nb hv left last rv closed) 184)) {key:Np} (hk:W.heap[kb]?=some (cl [.int .u32 key.1,.int .u32 key.2.1,.int .u32 key.2.2] 182)) (hu:KL key)
  {v:Value} {l:By} {o:Option Nat} (hvw:Vw W v l o) (h24:24≤l.length) (hl:l.length≤140737488355328) {xid:Nat} (hx:xid<4294967296)
  (hR:∀w',Kp [] W w'→R (.returned (κs (match AZ (l.drop 24)with
   |none=>[]
   |some r=>match AZ r with
    |none=>[]
    |some r=>dN [xid,1,0,0,0]++fG d (lh [] ds) lim n key r))) w'):Kv R (pt sb 0) v (.int .u32 (xid:Nat)) (pt kb 0) W:=by
 unfold Kv
 refine xg (k:=24) hvw h24 fun v24 h24'=>?_
 have q1:=lt_of_heap hsv
 have q2:=lt_of_heap hk
 refine Lp.nat (fun m vals w'=>∃(i:Nat) (r:By) (rv:Value),m+i=2∧vals=[rv,i64 i]∧Kp [] W w'∧Vw w' rv r o∧r.length≤l.length∧((i=0∧r=l.drop 24)∨(i=1∧AZ (l.drop 24)=some r)∨(i=2∧∃r1,AZ (l.drop 24)=some r1∧AZ r1=some r))) (n:=2) ⟨0,_,_,rfl,rfl,Kp.refl _ _,h24',by rw[List.length_drop];omega,Or.inl ⟨rfl,rfl⟩⟩ ?_
 rintro m _ w5 jk C ⟨i,r,rv',hi,rfl,k5,hr,hrl,hst⟩ hC
 have ht:=hc.tidy
 have alen:∀{x y:By},AZ x=some y→y.length≤x.length:=fun {x y} h=>by
  unfold AZ at h
  simp only at h
  split at h
  ·cases h
  split at h
  ·cases h
  split at h
  ·cases h
  split at h
  ·cases h;rw[List.length_drop,List.length_drop];omega
  ·cases h
 repeat' first|refine .x ?_|refine .y ?_|refine .z ?_|fail
 refine .split (fun hh=>?_) (fun hh=>?_)
 ·have hi':(i:Int)<2:=of_decide_eq_true hh
  refine Cl.ret (w_auth hr (by omega)) ?_
  rintro x w53 ⟨ha,k53⟩
  unfold Wl at ha
  cases hau:AZ r with
  |none=>
   rw[hau]at ha
   obtain rfl:x=_:=ha
   repeat' first|refine .x ?_|refine .y ?_|refine .z ?_|fail
   have:=hR w53 (k5.tt k53)
   rcases hst with⟨rfl,rfl⟩|⟨rfl,h1⟩|⟨rfl,_⟩
   ·rw[hau]at this;exact this
   ·rw[h1]at this;simp only[hau]at this;exact this
   ·omega
  |some r2=>
   rw[hau]at ha
   obtain⟨v2,rfl,hv2⟩:=ha
   have:=alen hau
   repeat' first|refine .x ?_|refine .y ?_|refine .z ?_|fail
   refine hC (m - 1) _ _ (by omega) ⟨i+1,r2,v2,by omega,rfl,k5.tt k53,Vw.kp hv2 k53 (fun _ _=>trivial),by omega,?_⟩
   rcases hst with⟨rfl,rfl⟩|⟨rfl,h1⟩|⟨rfl,_⟩
   ·exact Or.inr (Or.inl ⟨rfl,hau⟩)
   ·exact Or.inr (Or.inr ⟨rfl,r,h1,hau⟩)
   ·omega
 ·have hi':¬ (i:Int)<2:=of_decide_eq_false hh
  rcases hst with⟨rfl,rfl⟩|⟨rfl,h1⟩|⟨rfl,r1,h1,h2⟩
  ·omega
  ·omega
  rw[h1]at hR
  simp only[h2]at hR
  have hk5:w5.heap[kb]?=_:=(k5.same _ q2 trivial).trans hk
  have hsv5:w5.heap[sb]?=_:=(k5.same _ q1 trivial).trans hsv
  have kd:Kp [] w5 w5.drew:=by exact kpA
  have q5:=lt_of_heap hk5
  refine .s ?_
  refine CvB.view (hr.kp kd fun _ _=>trivial) ?_
  refine .s ?_
  have k61:Kp [] w5 (w5.drew.alloc (cl [.int .u32 (xid:Nat),.int .u32 1,.int .u32 0,.int .u32 0,.int .u32 0] 180)):=by exact kpA
  refine .s ?_
  refine⟨CvB.view (hr.kp k61 fun _ _=>trivial) rfl,?_⟩
  refine FY (w:=w5.drew) (vals:=[.int .u32 (xid:Nat),.int .u32 1,.int .u32 0,.int .u32 0,.int .u32 0]) (b:=w5.heap.size) (n:=5) (l:=[xid,1,0,0,0]) rfl rfl rfl ?_ (by simp) fun w65 k65=>?_
  ·intro n hn
   simp only[List.mem_cons,List.not_mem_nil,or_false]at hn
   rcases hn with rfl|rfl|rfl|rfl|rfl<;>omega
  have Zz:=kd.tt k65
  have hk65:w65.heap[kb]?=_:=(Zz.same _ q5 trivial).trans hk5
  have hsv65:w65.heap[sb]?=_:=(Zz.same _ (lt_of_heap hsv5) trivial).trans hsv5
  refine .s ?_
  refine⟨CvB.view (hr.kp Zz fun _ _=>trivial) rfl,?_⟩
  have ZZ:=hc.kp (k5.tt Zz)
  have hcl:=Fq hc.whole ht hc.lim n key r
  refine Cl.ret (Xw ZZ.code ZZ.whole ht ZZ.lim hsv65 ZZ.num hu r (by omega) ZZ.vl) ?_
  rintro _ w69 ⟨rfl,k69⟩
  have hwl:=dw [xid,1,0,0,0]
  simp only[List.length_cons,List.length_nil]at hwl
  repeat' first|refine .x ?_|refine .y ?_|refine .z ?_|fail
  exact hR w69 (k5.tt (Zz.tt k69))
end Go.W.T
namespace Go.W.T
open Go Go.W Go.M Go.Proofs
theorem RQ(b:By):inU ((w32 b:Nat):Int):=by
 have:=Q7 b
 unfold inU;omega
theorem aaQ{w:World}{ds:List Def}{c d:CS}{cp:Value}{lim:Lim}{nb:Nat}{n:Int}(hc:We w ds c d cp lim nb n){sb most left:Nat}{hv rv:Value}{last closed:Bool}
  (hsv:w.heap[sb]?=some (cl (aZ cp lim most nb hv left last rv closed) 184)) {v:Value} {l:By} {o:Option Nat} (hvw:Vw w v l o) (hl:l.length≤140737488355328):
  Calls P jU #[pt sb 0,v] w (Ret fun r w'=>r=κs (kQ (fG d (lh [] ds) lim n) l)∧Kp [] w w'):=by
 refine Ret.R fun R hR=>?_
 apply Du
 unfold rQ
 have hR':∀x w',x=kQ (fG d (lh [] ds) lim n) l→Kp [] w w'→R (.returned (κs x)) w':=fun x w' h k=>hR _ _ ⟨by rw[h],k⟩
 clear hR
 unfold kQ at hR'
 have q1:=lt_of_heap hsv
 refine hvw.ln ?_
 refine .s ?_
 by_cases c12:l.length<12
 ·have hd:decide ((l.length:Int)<12)=true:=decide_eq_true (by omega)
  rw[if_pos c12]at hR'
  repeat' first|refine .x ?_|refine .y ?_|refine .z ?_|fail
  exact hR' _ _ rfl (Kp.refl _ _)
 have hd:decide ((l.length:Int)<12)=false:=decide_eq_false (by omega)
 rw[if_neg c12]at hR'
 refine .t ?_
 refine .t ?_
 refine xg (k:=4) hvw (by omega) fun v4 h4=>?_
 refine .t ?_
 refine Cl.ret (zO h4 (by rw[List.length_drop];omega)) ?_
 rintro _ w12 ⟨rfl,k12⟩
 refine .t ?_
 refine .s ?_
 refine .f ?_
 by_cases c4:w32 (l.drop 4)≠0
 ·rw[if_pos c4]at hR'
  have hb:(((w32 (l.drop 4):Nat):Int) != 0)=true:=by simpa using c4
  repeat' first|refine .x ?_|refine .y ?_|refine .z ?_|fail
  exact hR' _ _ rfl k12
 have hb:(((w32 (l.drop 4):Nat):Int) != 0)=false:=by simpa using c4
 rw[if_neg c4]at hR'
 repeat' first|refine .x ?_|refine .y ?_|refine .z ?_|fail
 have hvw12:=Vw.kp hvw k12 fun _ _=>trivial
 refine Cl.ret (zO hvw12 (by omega)) ?_
 rintro _ w21 ⟨rfl,k21⟩
 have Jy:=k12.tt k21
 have hvw21:=Vw.kp hvw Jy fun _ _=>trivial
 refine xg (k:=8) hvw21 (by omega) fun v8 h8=>?_
 refine Cl.ret (zO h8 (by rw[List.length_drop];omega)) ?_
 rintro _ w24 ⟨rfl,k24⟩
 have X8:=Jy.tt k24
 have hxid:=Q7 l
 refine .s ?_
 by_cases c8:w32 (l.drop 8)≠2
 ·rw[if_pos c8]at hR'
  have hb:(((w32 (l.drop 8):Nat):Int) != 2)=true:=by
   rw[bne_iff_ne];omega
  refine .t ?_
  refine F7 (l:=[w32 l,1,1,0,2,2]) rfl ?_ (by simp) fun w' k=>?_
  ·intro n hn
   simp only[List.mem_cons,List.not_mem_nil,or_false]at hn
   rcases hn with rfl|rfl|rfl|rfl|rfl|rfl<;>omega
  ·exact hR' _ w' rfl (X8.tt k)
 have hb:(((w32 (l.drop 8):Nat):Int) != 2)=false:=by
  rw[bne_eq_false_iff_eq];omega
 rw[if_neg c8]at hR'
 refine .f ?_
 have Ui:=Vw.kp hvw X8 fun _ _=>trivial
 refine Ui.ln ?_
 refine .s ?_
 by_cases c24:l.length<24
 ·have hd:decide ((l.length:Int)<24)=true:=decide_eq_true (by omega)
  rw[if_pos c24]at hR'
  repeat' first|refine .x ?_|refine .y ?_|refine .z ?_|fail
  exact hR' _ _ rfl X8
 have hd:decide ((l.length:Int)<24)=false:=decide_eq_false (by omega)
 rw[if_neg c24]at hR'
 refine .f ?_
 refine xg (k:=12) Ui (by omega) fun v12 h12=>?_
 refine xg (k:=16) Ui (by omega) fun v16 h16=>?_
 refine xg (k:=20) Ui (by omega) fun v20 h20=>?_
 have fin:∀(W:World) (kb:Nat),Kp [] w24 W→W.heap[kb]?=some (cl [.int .u32 (w32 (l.drop 12):Nat),.int .u32 (w32 (l.drop 16):Nat),.int .u32 (w32 (l.drop 20):Nat)] 182)→Kv R (pt sb 0) v (.int .u32 (w32 l:Nat)) (pt kb 0) W:=fun W kb kW hkb=>
  abk (key:=((w32 (l.drop 12):Nat),(w32 (l.drop 16):Nat),(w32 (l.drop 20):Nat))) (hc.kp (X8.tt kW)) (((X8.tt kW).same _ q1 trivial).trans hsv) hkb ⟨RQ _,RQ _,RQ _⟩ (Vw.kp Ui kW fun _ _=>trivial) (by omega) hl hxid fun w' k=>hR' _ w' rfl (X8.tt (kW.tt k))
 have l12:4≤(l.drop 12).length:=by rw[List.length_drop];omega
 have l16:4≤(l.drop 16).length:=by rw[List.length_drop];omega
 have l20:4≤(l.drop 20).length:=by rw[List.length_drop];omega
 have kd:Kp [] w24 w24.drew:=by exact kpA
 have num:∀{W:World} {v:Value} {x:By},Vw w24 v x o→4≤x.length→Kp [] w24 W→Calls P vP #[v] W (Ret fun r w'=>r=.int .u32 (w32 x:Nat)∧Kp [] W w'):=fun h hl k=>zO (Vw.kp h k fun _ _=>trivial) hl
 refine⟨?_,?_⟩
 ·refine Cl.ret (num h12 l12 kd) ?_
  rintro _ w36 ⟨rfl,k36⟩
  have k036:=kd.tt k36
  have z36:=k036.size
  refine⟨?_,?_⟩
  ·refine Cl.ret (num h16 l16 k036) ?_
   rintro _ w38 ⟨rfl,k38⟩
   have k038:=k036.tt k38
   have z38:=k038.size
   refine⟨?_,?_⟩
   ·refine Cl.ret (num h20 l20 k038) ?_
    rintro _ w40 ⟨rfl,k40⟩
    have k040:=k038.tt k40
    refine .s ?_
    refine .s ?_
    refine .s ?_
    exact fin _ _ (k040.tt (by exact kpA)) (by exact lookA)
   ·refine .s ?_
    have kA:Kp [] w24 (w38.alloc (cl [.int .u32 0,.int .u32 0,.int .u32 0] 182)):=by exact kpA
    have nA:(w38.alloc (cl [.int .u32 0,.int .u32 0,.int .u32 0] 182)).heap[w38.heap.size]?=some (cl [.int .u32 0,.int .u32 0,.int .u32 0] 182):=by exact lookA
    generalize w38.alloc (cl [.int .u32 0,.int .u32 0,.int .u32 0] 182)=wA at *
    have zA:=lt_of_heap nA
    refine Cl.ret (num h20 l20 kA) ?_
    rintro _ w74 ⟨rfl,k74⟩
    have VO:=kA.tt k74
    have nA:w74.heap[w38.heap.size]?=_:=(k74.same _ (by omega) trivial).trans nA
    refine .s ?_
    have zB:=lt_of_heap nA
    refine .s ?_
    exact fin _ _ (VO.trans (by exact kpA:Kp [(w38.heap.size,w38.heap.size+1)] w74 _) fun i hi _=>⟨trivial,by omega,trivial⟩) (by exact lookA)
  ·refine .s ?_
   have kA:Kp [] w24 (w36.alloc (cl [.int .u32 0,.int .u32 0,.int .u32 0] 182)):=by exact kpA
   have nA:(w36.alloc (cl [.int .u32 0,.int .u32 0,.int .u32 0] 182)).heap[w36.heap.size]?=some (cl [.int .u32 0,.int .u32 0,.int .u32 0] 182):=by exact lookA
   generalize w36.alloc (cl [.int .u32 0,.int .u32 0,.int .u32 0] 182)=wA at *
   have zA:=lt_of_heap nA
   refine Cl.ret (num h16 l16 kA) ?_
   rintro _ w74 ⟨rfl,k74⟩
   have VO:=kA.tt k74
   have nA:w74.heap[w36.heap.size]?=_:=(k74.same _ (by omega) trivial).trans nA
   refine Cl.ret (num h20 l20 VO) ?_
   rintro _ w75 ⟨rfl,k75⟩
   have k075:=VO.tt k75
   have nA:w75.heap[w36.heap.size]?=_:=(k75.same _ (lt_of_heap nA) trivial).trans nA
   refine .s ?_
   have zB:=lt_of_heap nA
   refine .s ?_
   exact fin _ _ (k075.trans (by exact kpA:Kp [(w36.heap.size,w36.heap.size+1)] w75 _) fun i hi _=>⟨trivial,by omega,trivial⟩) (by exact lookA)
 ·refine .s ?_
  have kA:Kp [] w24 (w24.drew.alloc (cl [.int .u32 0,.int .u32 0,.int .u32 0] 182)):=by exact kpA
  have nA:(w24.drew.alloc (cl [.int .u32 0,.int .u32 0,.int .u32 0] 182)).heap[w24.heap.size]?=some (cl [.int .u32 0,.int .u32 0,.int .u32 0] 182):=by exact lookA
  generalize w24.drew.alloc (cl [.int .u32 0,.int .u32 0,.int .u32 0] 182)=wA at *
  have zA:=lt_of_heap nA
  refine Cl.ret (num h12 l12 kA) ?_
  rintro _ w74 ⟨rfl,k74⟩
  have VO:=kA.tt k74
  have nA:w74.heap[w24.heap.size]?=_:=(k74.same _ (by omega) trivial).trans nA
  refine Cl.ret (num h16 l16 VO) ?_
  rintro _ w75 ⟨rfl,k75⟩
  have k075:=VO.tt k75
  have nA:w75.heap[w24.heap.size]?=_:=(k75.same _ (lt_of_heap nA) trivial).trans nA
  refine Cl.ret (num h20 l20 k075) ?_
  rintro _ w76 ⟨rfl,k76⟩
  have k076:=k075.tt k76
  have nA:w76.heap[w24.heap.size]?=_:=(k76.same _ (lt_of_heap nA) trivial).trans nA
  refine .s ?_
  have zB:=lt_of_heap nA
  refine .s ?_
  exact fin _ _ (k076.trans (by exact kpA:Kp [(w24.heap.size,w24.heap.size+1)] w76 _) fun i hi _=>⟨trivial,by omega,trivial⟩) (by exact lookA)
end Go.W.T
namespace Go.W.T
open Go Go.W Go.M Go.Proofs
structure FX (w:World) (cp:Value) (lim:Lim) (most nb sb eb:Nat) (F0:Nat→Prop) (w1:World) (s:Srv) (out:By) (hv rv a buf:Value) (oh orr bo:Option Nat):Prop where
 cell:w1.heap[sb]?=some (cl (aZ cp lim most nb hv s.left s.last rv s.closed) 184)
 hd:Gw w1 5 1 hv s.head.length (aG s.head) oh
 rc:Gw w1 5 1 rv s.bz.length (aG s.bz) orr
 bl:w1.heap[eb]?=some (cl [a,buf] 139)
 ba:a=.pointer none∨a=pt eb 0
 bf:Gw w1 5 1 buf out.length (aG out) bo
 d1:∀b,oh=some b→b≠sb∧b≠eb∧orr≠some b∧bo≠some b
 d2:∀b,orr=some b→b≠sb∧b≠eb∧bo≠some b
 d3:∀b,bo=some b→b≠sb∧b≠eb∧w.heap.size≤b
 se:sb≠eb∧sb<w.heap.size∧w.heap.size≤eb
 kf:Kf F0 w w1
 fh:∀b,oh=some b→F0 b∨w.heap.size≤b
 fr:∀b,orr=some b→F0 b∨w.heap.size≤b
 fs:F0 sb
section
variable {w:World} {cp:Value} {lim:Lim} {most nb sb eb:Nat} {F0:Nat→Prop} {w1 w2:World} {s s':Srv} {out:By} {hv rv a buf:Value} {oh orr bo:Option Nat}
theorem FX.elt(h:FX w cp lim most nb sb eb F0 w1 s out hv rv a buf oh orr bo):eb<w1.heap.size∧sb<w1.heap.size:=⟨lt_of_heap h.bl,lt_of_heap h.cell⟩
theorem FX.turn(h:FX w cp lim most nb sb eb F0 w1 s out hv rv a buf oh orr bo)(k:Kp [(sb,sb+1)] w1 w2)(hc:w2.heap[sb]?=some (cl (aZ cp lim most nb hv s'.left s'.last rv s'.closed) 184))(hh:s'.head=s.head)(hr:s'.bz=s.bz):
  FX w cp lim most nb sb eb F0 w2 s' out hv rv a buf oh orr bo:=by
 have out1:∀b,b≠sb→Out [(sb,sb+1)] b:=fun b hb=>⟨by omega,trivial⟩
 refine⟨hc,?_,?_,?_,h.ba,h.bf.kp k (fun b hb=>out1 b (h.d3 b hb).1),h.d1,h.d2,h.d3,h.se,?_,h.fh,h.fr,h.fs⟩
 ·rw[hh];exact h.hd.kp k fun b hb=>out1 b (h.d1 b hb).1
 ·rw[hr];exact h.rc.kp k fun b hb=>out1 b (h.d2 b hb).1
 ·exact(k.same _ h.elt.1 (out1 _ (Ne.symm h.se.1))).trans h.bl
 ·exact h.kf.trans (Kp.kfX (F:=fun i=>i=sb) k fun i _ hi=>out1 i hi) fun i hi=>Or.inl (by rw[hi];exact h.fs)
theorem FX.kp(h:FX w cp lim most nb sb eb F0 w1 s out hv rv a buf oh orr bo)(k:Kp [] w1 w2):FX w cp lim most nb sb eb F0 w2 s out hv rv a buf oh orr bo:=
 h.turn (k.mono fun i _ _=>trivial) ((k.same _ h.elt.2 trivial).trans h.cell) rfl rfl
theorem FX.headed{x:By}{v':Value}{o':Option Nat}(h:FX w cp lim most nb sb eb F0 w1 s out hv rv a buf oh orr bo)(hg:Gw w2 5 1 v' (s.head.length+x.length) (aG s.head++aG x) o')(ho:o'=oh∨o'=some w1.heap.size)(k:Kp (own oh) w1 w2){w3:World}(k3:Kp [(sb,sb+1)] w2 w3)
  (hc:w3.heap[sb]?=some (cl (aZ cp lim most nb v' s.left s.last rv s.closed) 184)):FX w cp lim most nb sb eb F0 w3 { s with head:=s.head++x } out v' rv a buf o' orr bo:=by
 have out1:∀b,b≠sb→Out [(sb,sb+1)] b:=fun b hb=>⟨by omega,trivial⟩
 have Gj:∀b,oh≠some b→Out (own oh) b:=fun b hb=>aB hb
 have hz:=k.size
 have hsz:w.heap.size≤w1.heap.size:=h.kf.size
 have hlr:=h.rc.lt
 have hlb:=h.bf.lt
 have hgg:Gw w3 5 1 v' (s.head++x).length (aG (s.head++x)) o':=by
  rw[List.length_append,Cm]
  refine hg.kp k3 fun b hb=>out1 b ?_
  rcases ho with rfl|rfl
  ·exact(h.d1 b hb).1
  ·have:=Option.some.inj hb;have:=h.elt.2;omega
 refine⟨hc,hgg,?_,?_,h.ba,?_,?_,h.d2,h.d3,h.se,?_,?_,h.fr,h.fs⟩
 ·exact(h.rc.kp k fun b hb=>Gj b fun e=>(h.d1 b e).2.2.1 hb).kp k3 fun b hb=>out1 b (h.d2 b hb).1
 ·exact(k3.same _ (Nat.lt_of_lt_of_le h.elt.1 hz) (out1 _ (Ne.symm h.se.1))).trans ((k.same _ h.elt.1 (Gj _ fun e=>(h.d1 _ e).2.1 rfl)).trans h.bl)
 ·exact(h.bf.kp k fun b hb=>Gj b fun e=>(h.d1 b e).2.2.2 hb).kp k3 fun b hb=>out1 b (h.d3 b hb).1
 ·intro b hb
  rcases ho with rfl|rfl
  ·exact h.d1 b hb
  ·have e:=Option.some.inj hb
   have:=h.elt
   refine⟨by omega,by omega,fun e2=>?_,fun e2=>?_⟩
   ·have:=hlr b e2;omega
   ·have:=hlb b e2;omega
 ·refine(h.kf.trans (Kp.kfX (F:=fun i=>oh=some i) k fun i _ hi=>Gj i hi) fun i hi=>h.fh i hi).trans (Kp.kfX (F:=fun i=>i=sb) k3 fun i _ hi=>out1 i hi) fun i hi=>Or.inl (by rw[hi];exact h.fs)
 ·intro b hb
  rcases ho with rfl|rfl
  ·exact h.fh b hb
  ·have:=Option.some.inj hb;exact Or.inr (by omega)
theorem FX.recd{x:By}{v':Value}{o':Option Nat}(h:FX w cp lim most nb sb eb F0 w1 s out hv rv a buf oh orr bo)(hg:Gw w2 5 1 v' (s.bz.length+x.length) (aG s.bz++aG x) o')(ho:o'=orr∨o'=some w1.heap.size)(k:Kp (own orr) w1 w2){w3:World}(k3:Kp [(sb,sb+1)] w2 w3)
  (hc:w3.heap[sb]?=some (cl (aZ cp lim most nb hv s.left s.last v' s.closed) 184)):FX w cp lim most nb sb eb F0 w3 { s with bz:=s.bz++x } out hv v' a buf oh o' bo:=by
 have out1:∀b,b≠sb→Out [(sb,sb+1)] b:=fun b hb=>⟨by omega,trivial⟩
 have Gj:∀b,orr≠some b→Out (own orr) b:=fun b hb=>aB hb
 have hz:=k.size
 have hsz:w.heap.size≤w1.heap.size:=h.kf.size
 have hlr:=h.hd.lt
 have hlb:=h.bf.lt
 have hgg:Gw w3 5 1 v' (s.bz++x).length (aG (s.bz++x)) o':=by
  rw[List.length_append,Cm]
  refine hg.kp k3 fun b hb=>out1 b ?_
  rcases ho with rfl|rfl
  ·exact(h.d2 b hb).1
  ·have:=Option.some.inj hb;have:=h.elt.2;omega
 refine⟨hc,?_,hgg,?_,h.ba,?_,?_,?_,h.d3,h.se,?_,h.fh,?_,h.fs⟩
 ·exact(h.hd.kp k fun b hb=>Gj b fun e=>(h.d1 b hb).2.2.1 e).kp k3 fun b hb=>out1 b (h.d1 b hb).1
 ·exact(k3.same _ (Nat.lt_of_lt_of_le h.elt.1 hz) (out1 _ (Ne.symm h.se.1))).trans ((k.same _ h.elt.1 (Gj _ fun e=>(h.d2 _ e).2.1 rfl)).trans h.bl)
 ·exact(h.bf.kp k fun b hb=>Gj b fun e=>(h.d2 b e).2.2 hb).kp k3 fun b hb=>out1 b (h.d3 b hb).1
 ·intro b hb
  obtain⟨a1,a2,a3,a4⟩:=h.d1 b hb
  refine⟨a1,a2,?_,a4⟩
  rcases ho with rfl|rfl
  ·exact a3
  ·intro e;have:=Option.some.inj e;have:=hlr b hb;omega
 ·intro b hb
  rcases ho with rfl|rfl
  ·exact h.d2 b hb
  ·have e:=Option.some.inj hb
   have:=h.elt
   refine⟨by omega,by omega,fun e2=>?_⟩
   have:=hlb b e2;omega
 ·refine(h.kf.trans (Kp.kfX (F:=fun i=>orr=some i) k fun i _ hi=>Gj i hi) fun i hi=>h.fr i hi).trans (Kp.kfX (F:=fun i=>i=sb) k3 fun i _ hi=>out1 i hi) fun i hi=>Or.inl (by rw[hi];exact h.fs)
 ·intro b hb
  rcases ho with rfl|rfl
  ·exact h.fr b hb
  ·have:=Option.some.inj hb;exact Or.inr (by omega)
theorem gw_cut{e:TypeId}{v:Value}{n:Nat}{l:List Value}{o:Option Nat}(h:Gw w1 e 1 v n l o):∃v',Gw w1 e 1 v' 0 [] o∧∀K:Value→Prop,K v'→SlL 1 v none (some (.int .i64 0)) K:=by
 obtain⟨h1,h2⟩:=h
 cases o with
 |none=>
  obtain⟨rfl,rfl⟩:=h2
  exact⟨.slice none 0 0,Gw.nil _ _ _,fun K hK=>⟨hK⟩⟩
 |some b=>
  obtain⟨rest,cap,rfl,h3,h4⟩:=h2
  exact⟨.slice (some ⟨b,0,none⟩) 0 cap,⟨rfl,l++rest,cap,rfl,h3,by rw[← h4];simp⟩,fun K hK=>Rk (k:=0) (Nat.zero_le _) hK⟩
theorem FX.ZV{v':Value}(h:FX w cp lim most nb sb eb F0 w1 s out hv rv a buf oh orr bo)(hg:Gw w1 5 1 v' 0 [] oh)(k:Kp [(sb,sb+1)] w1 w2)(hc:w2.heap[sb]?=some (cl (aZ cp lim most nb v' s.left s.last rv s.closed) 184)):
  FX w cp lim most nb sb eb F0 w2 { s with head:=[] } out v' rv a buf oh orr bo:=by
 have out1:∀b,b≠sb→Out [(sb,sb+1)] b:=fun b hb=>⟨by omega,trivial⟩
 refine⟨hc,hg.kp k fun b hb=>out1 b (h.d1 b hb).1,h.rc.kp k fun b hb=>out1 b (h.d2 b hb).1,?_,h.ba,h.bf.kp k (fun b hb=>out1 b (h.d3 b hb).1),h.d1,h.d2,h.d3,h.se,?_,h.fh,h.fr,h.fs⟩
 ·exact(k.same _ h.elt.1 (out1 _ (Ne.symm h.se.1))).trans h.bl
 ·exact h.kf.trans (Kp.kfX (F:=fun i=>i=sb) k fun i _ hi=>out1 i hi) fun i hi=>Or.inl (by rw[hi];exact h.fs)
theorem FX.abq(h:FX w cp lim most nb sb eb F0 w1 s out hv rv a buf oh orr bo)(k:Kp [(sb,sb+1)] w1 w2)(hc:w2.heap[sb]?=some (cl (aZ cp lim most nb hv s.left s.last (.slice none 0 0) s.closed) 184)):
  FX w cp lim most nb sb eb F0 w2 { s with bz:=[] } out hv (.slice none 0 0) a buf oh none bo:=by
 have out1:∀b,b≠sb→Out [(sb,sb+1)] b:=fun b hb=>⟨by omega,trivial⟩
 refine⟨hc,h.hd.kp k fun b hb=>out1 b (h.d1 b hb).1,Gw.nil _ _ _,?_,h.ba,h.bf.kp k (fun b hb=>out1 b (h.d3 b hb).1),fun b hb=>⟨(h.d1 b hb).1,(h.d1 b hb).2.1,by simp,(h.d1 b hb).2.2.2⟩,fun b hb=>(by cases hb),h.d3,h.se,?_,h.fh,fun b hb=>(by cases hb),h.fs⟩
 ·exact(k.same _ h.elt.1 (out1 _ (Ne.symm h.se.1))).trans h.bl
 ·exact h.kf.trans (Kp.kfX (F:=fun i=>i=sb) k fun i _ hi=>out1 i hi) fun i hi=>Or.inl (by rw[hi];exact h.fs)
theorem FX.say(h:FX w cp lim most nb sb eb F0 w1 s out hv rv a buf oh orr bo)(t:By)(hn:out.length+t.length≤4000000000):Calls P dB #[pt eb 0,κs t] w1 (Ret fun _ w2=>∃buf' bo',FX w cp lim most nb sb eb F0 w2 s (out++t) hv rv (pt eb 0) buf' oh orr bo'):=by
 refine Calls.mono (aaK t h.bl h.ba h.bf (fun b hb=>(h.d3 b hb).2.1) hn) ?_
 rintro en w2 ⟨v,rfl,buf',o',c1,c2,c3,c4⟩
 refine⟨v,rfl,buf',o',?_⟩
 have hsz:w.heap.size≤w1.heap.size:=h.kf.size
 have nin:∀b,b≠eb→bo≠some b→Out ((eb,eb+1)::own bo) b:=fun b h1 h2=>⟨by omega,aB h2⟩
 refine⟨?_,?_,?_,c1,Or.inr rfl,?_,?_,?_,?_,h.se,?_,h.fh,h.fr,h.fs⟩
 ·exact(c4.same _ h.elt.2 (nin _ h.se.1 fun e=>(h.d3 _ e).1 rfl)).trans h.cell
 ·exact h.hd.kp c4 fun b hb=>nin b (h.d1 b hb).2.1 (h.d1 b hb).2.2.2
 ·exact h.rc.kp c4 fun b hb=>nin b (h.d2 b hb).2.1 (h.d2 b hb).2.2
 ·rw[List.length_append,Cm];exact c2
 ·intro b hb
  obtain⟨a1,a2,a3,a4⟩:=h.d1 b hb
  refine⟨a1,a2,a3,fun e=>?_⟩
  rcases(c3 b e).2 with e|e
  ·exact a4 e
  ·have:=h.hd.lt b hb;omega
 ·intro b hb
  obtain⟨a1,a2,a3⟩:=h.d2 b hb
  refine⟨a1,a2,fun e=>?_⟩
  rcases(c3 b e).2 with e|e
  ·exact a3 e
  ·have:=h.rc.lt b hb;omega
 ·intro b hb
  rcases(c3 b hb).2 with e|e
  ·exact h.d3 b e
  ·have:=h.elt;exact⟨by omega,(c3 b hb).1,by omega⟩
 ·exact h.kf.trans (Kp.kfX (F:=fun i=>i=eb∨bo=some i) c4 fun i _ hi=>nin i (fun e=>hi (Or.inl e)) fun e=>hi (Or.inr e)) fun i hi=>by
   rcases hi with rfl|hi
   ·exact Or.inr h.se.2.2
   ·exact Or.inr (h.d3 i hi).2.2
end
end Go.W.T
