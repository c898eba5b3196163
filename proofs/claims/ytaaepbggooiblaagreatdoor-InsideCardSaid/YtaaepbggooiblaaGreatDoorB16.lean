/- Texts of mine, one behind the other; nothing is assumed. -/
import Derived.Test.YtaaepbggooiblaaGreatDoorB11
import Derived.Lib.OthersKept
import Derived.Laws.RangeAny
import Derived.Lib.ConvBytes
import Derived.Test.YtaaepbggooiblaaGreatDoorB05
set_option linter.unusedSimpArgs false
set_option linter.unusedVariables false
set_option maxRecDepth 4000
namespace Go.W.T
open Go Go.W Go.M Go.Proofs
theorem jW:∀(x a:By),starts x a=(decide (x.length≤a.length)&&a.take x.length==x)
 |[],a=>by simp[starts]
 |c::x,[]=>by simp[starts]
 |c::x,d::a=>by
  rw[starts,jW x a]
  simp only[List.length_cons,List.take_succ_cons,List.cons_beq_cons,Nat.add_le_add_iff_right]
  rw[Bool.eq_iff_iff]
  simp only[Bool.and_eq_true,beq_iff_eq,decide_eq_true_eq]
  constructor
  ·rintro⟨rfl,h,h2⟩;exact⟨h,rfl,h2⟩
  ·rintro⟨h,rfl,h2⟩;exact⟨rfl,h,h2⟩
theorem Fp(w:World)(a x:By):Calls P fF #[.string (bs a),.string (bs x)] w fun en w'=>en=.returned (.bool (starts x a))∧w'=w:=by
 apply mG
 have hR:∀b,b=starts x a→(fun en w'=>en=.returned (.bool (starts x a))∧w'=w:Ending→World→Prop) (.returned (.bool b)) w:=fun b h=>⟨by rw[h],rfl⟩
 generalize (fun en w'=>en=.returned (.bool (starts x a))∧w'=w:Ending→World→Prop)=R at *
 unfold fD
 repeat' first|refine .x ?_|refine .y ?_|refine .z ?_|fail
 refine .split (fun h=>?_) (fun h=>?_)
 ·have h':x.length≤a.length:=by simpa using h
  repeat' first|refine .x ?_|refine .y ?_|refine .z ?_|fail
  refine hR _ ?_
  rw[jW]
  simp[h']
 ·have h':¬ x.length≤a.length:=by simpa using h
  repeat' first|refine .x ?_|refine .y ?_|refine .z ?_|fail
  refine hR _ ?_
  rw[jW]
  simp[h']
theorem Fq(w:World)(a x:By):Calls P qY #[.string (bs a),.string (bs x)] w fun en w'=>en=.returned (.bool (starts x a))∧w'=w:=by
 apply BA
 unfold qM
 exact Cl.same (Fp w a x) ⟨rfl,rfl⟩
theorem xG(s:By):bU s=if starts [45] s then s.drop 1 else s:=by
 match s with
 |[]=>rfl
 |c::r=>
  by_cases h:c=45
  ·subst h;rfl
  ·have:starts [45] (c::r)=false:=by
    rw[starts,starts]
    simp only[Bool.and_true,beq_eq_false_iff_ne]
    exact fun e=>h e.symm
   rw[this]
   unfold bU
   split
   ·rename_i h2;exact absurd (by injection h2) h
   ·rfl
theorem JX(w:World)(a:By):Calls P qm #[.string (bs a),.string (bs [45])] w fun en w'=>en=.returned (.string (bs (bU a)))∧w'=w:=by
 apply zV
 unfold pR
 refine Cl.same (x:=.string (bs (bU a))) ?_ ⟨rfl,rfl⟩
 apply lM
 have hR:∀b,b=bU a→(fun en w'=>en=.returned (.string (bs (bU a)))∧w'=w:Ending→World→Prop) (.returned (.string (bs b))) w:=fun b h=>⟨by rw[h],rfl⟩
 generalize (fun en w'=>en=.returned (.string (bs (bU a)))∧w'=w:Ending→World→Prop)=R at *
 unfold eQ
 refine Cl.same (Fp w a [45]) ?_
 have hl:starts [45] a=true→1≤a.length:=by rw[jW];intro h;simp at h;exact h.1
 refine .split (fun h=>?_) (fun h=>?_)
 ·have:=hl h
  repeat' first|refine .x ?_|refine .y ?_|refine .z ?_|fail
  exact hR _ (by rw[xG,h];rfl)
 ·exact hR _ (by rw[xG,h];rfl)
theorem Xe(x l:By):∀{n:Nat},find x l=some n→n+x.length≤l.length:=by
 induction l with
 |nil=>intro n h;cases x<;>simp[find]at h;subst h;simp
 |cons c r ih=>
  intro n h
  unfold find at h
  split at h
  ·rename_i hs
   rw[jW]at hs
   simp only[Bool.and_eq_true,decide_eq_true_eq]at hs
   cases h;omega
  ·cases hf:find x r with
   |none=>rw[hf]at h;cases h
   |some k=>rw[hf]at h;have:=ih hf;simp only[Option.map_some,Option.some.injEq]at h;subst h;simp only[List.length_cons];omega
theorem yI:∀(x a:By),x.isPrefixOf a=starts x a
 |[],_=>by simp[starts]
 |_::_,[]=>by simp[starts,List.isPrefixOf]
 |c::x,d::a=>by rw[List.isPrefixOf,starts,yI x a]
theorem Ip(l x:By):Lib.index l x=match find x l with|some n=>(n:Int)|none => -1:=by
 induction l with
 |nil=>cases x<;>rfl
 |cons c r ih=>
  rw[Lib.index,yI]
  unfold find
  cases starts x (c::r)with
  |true=>rfl
  |false=>
   simp only[Bool.false_eq_true,if_false,ih]
   cases find x r with
   |none=>rfl
   |some n=>simp only[Option.map_some];rw[if_neg (by simp)];rfl
theorem VD{w:World}(hg:Gl w)(a x:By)(ha:a.length<4294967281):Calls P Gs #[.string (bs a),.string (bs x)] w fun en w'=>en=.returned (.int .i64 (match find x a with|some n=>(n:Int)|none => -1))∧w'=w:=by
 obtain⟨m,hm⟩:=hg.maxLen
 rw[← Ip]
 exact Tryz.strings_Index (bs a) (bs x) m w (by rw[iR];exact ha) hm
theorem OU{w:World}(hg:Gl w)(a x:By)(ha:a.length<4294967281):Calls P CU #[.string (bs a),.string (bs x)] w fun en w'=>en=.returned (.bool (contains a x))∧w'=w:=by
 obtain⟨m,hm⟩:=hg.maxLen
 have:contains a x=Lib.contains a x:=by
  unfold Lib.contains contains
  rw[Ip]
  cases find x a with
  |none=>rfl
  |some n=>simp
 rw[this]
 exact Tryz.strings_Contains (bs a) (bs x) m w (by rw[iR];exact ha) hm
theorem uj(l:By)(c:UInt8):decide (0≤Lib.indexByte l c)=l.contains c:=by
 induction l with
 |nil=>rfl
 |cons b r ih=>
  rw[Lib.indexByte,List.contains_cons]
  cases hb:b==c with
  |true=>have:c=b:=by simpa using (beq_iff_eq.mp hb).symm
         simp [this]
  |false=>
   have:(c==b)=false:=by rw[beq_eq_false_iff_ne]at *;exact fun e=>hb e.symm
   rw[this,Bool.false_or,← ih]
   simp only[Bool.false_eq_true,if_false]
   by_cases h:Lib.indexByte r c = -1
   ·simp[h]
   ·have:=Lib.indexByte_ge r c
    rw[if_neg (by simpa using h)]
    have h1:0≤Lib.indexByte r c:=by omega
    simp[h1];omega
theorem LQ(w:World)(a:By)(c:UInt8):Calls P BH #[.string (bs a),.int .u8 c.toNat] w fun en w'=>(∃n,en=.returned (.int .i64 n)∧decide (0≤n)=a.contains c)∧w'=w:=by
 refine(Tryz.strings_IndexByte (bs a) c.toNat w).mono ?_
 rintro e w' ⟨rfl,rfl⟩
 refine⟨⟨_,rfl,?_⟩,rfl⟩
 rw[← uj]
 simp
theorem G7(w:World)(a:By):Calls P xY #[.string (bs a),.int .i32 95] w fun en w'=>en=.returned (.bool (a.contains 95))∧w'=w:=by
 refine(Tryz.strings_ContainsRune_ascii (bs a) 95 w (by decide) (by decide)).mono ?_
 rintro e w' ⟨rfl,rfl⟩
 refine⟨?_,rfl⟩
 rw[← uj]
 rfl
def vX(r:Int):Bool:=decide (r<128)&&jd r.toNat.toUInt8
theorem TU:((List.range 128).all fun c=>(Lib.isLetterL (c:Nat)||Lib.isDigitL (c:Nat)||decide (c=95))==jd c.toUInt8)=true:=by decide +kernel
theorem OL{w:World}(hg:Gl w)(r:Nat):Calls P DN #[.int .i32 r] w fun en w'=>en=.returned (.bool (vX r))∧w'=w:=by
 apply KF
 have hR:∀b,b=vX r→(fun en w'=>en=.returned (.bool (vX r))∧w'=w:Ending→World→Prop) (.returned (.bool b)) w:=fun b h=>⟨by rw[h],rfl⟩
 generalize (fun en w'=>en=.returned (.bool (vX r))∧w'=w:Ending→World→Prop)=R at *
 unfold Dt
 repeat' first|refine .x ?_|refine .y ?_|refine .z ?_|fail
 refine .split (fun h=>?_) (fun h=>?_)
 ·have h':r<128:=by have:=of_decide_eq_true h;omega
  have hp:(Lib.isLetterL r||Lib.isDigitL r||decide (r=95))=jd r.toUInt8:=eq_of_beq (List.all_eq_true.mp TU r (List.mem_range.mpr h'))
  have hq:vX r=jd r.toUInt8:=by unfold vX;rw[decide_eq_true (by omega)];rfl
  repeat' first|refine .x ?_|refine .y ?_|refine .z ?_|fail
  refine Cl.same (Tryz.unicode_IsLetter r w (by omega) hg.props) ?_
  have hD:∀K:KV,K (.bool (Lib.isDigitL r)) w→Cl P 156 #[.int .i32 r] w (pE R) K:=fun K h=>Cl.same (Tryz.unicode_IsDigit r w (by omega)) h
  repeat' (first|refine .a ?_|refine .s ?_|refine .t ?_|refine .f ?_|apply hD|((first|apply If.split|apply Gd.split|apply Gd.split')<;>intro _))
  all_goals (refine hR _ ?_;rw[hq,← hp])
  all_goals (first|(simp_all;done)|(simp_all;rw[← hp];by_cases h9:r=95<;>simp[h9];omega))
 ·repeat' first|refine .x ?_|refine .y ?_|refine .z ?_|fail
  refine hR _ ?_
  unfold vX
  rw[decide_eq_false (by have:=of_decide_eq_false h;omega)];rfl
theorem TG:P.underlying 9=some .string:=by kernel_rfl
theorem Jv{c:UInt8}(h:jd c=true):c.toNat<128:=by
 simp only[jd,letter,digit,Bool.or_eq_true,Bool.and_eq_true,decide_eq_true_eq,beq_iff_eq,UInt8.le_iff_toNat_le]at h
 rcases h with((⟨_,h⟩|⟨_,h⟩)|⟨_,h⟩)|h
 ·exact Nat.lt_of_le_of_lt h (by decide)
 ·exact Nat.lt_of_le_of_lt h (by decide)
 ·exact Nat.lt_of_le_of_lt h (by decide)
 ·subst h;decide
theorem Ba:∀(l:By) (k:Nat),(∀j,j<k→∃c,l[j]?=some c∧jd c=true)→(∀c,l[k]?=some c→jd c=false)→k≤l.length→bP l=k
 |[],k,_,_,h=>by simp at h;subst h;rfl
 |c::r,0,_,h,_=>by
  have:=h c rfl
  simp[bP,this]
 |c::r,k+1,h1,h2,h3=>by
  obtain⟨c',hc,hp⟩:=h1 0 (by omega)
  cases hc
  rw[bP,if_pos hp,Ba r k (fun j hj=>by have:=h1 (j+1) (by omega);simpa using this) (fun c hc=>h2 c (by simpa using hc)) (by simp at h3;omega)]
theorem Xz{w:World}(hg:Gl w)(l:By)(hl:l.length≤2000):Calls P FQ #[.string (bs l)] w fun en w'=>en=.returned (.int .i64 (bP l))∧Kp [] w w':=by
 apply Nh
 have hR:∀(n:Nat) w',n=bP l→Kp [] w w'→(fun en w'=>en=.returned (.int .i64 (bP l))∧Kp [] w w':Ending→World→Prop) (.returned (.int .i64 n)) w':=fun b w' h hk=>⟨by rw[h],hk⟩
 generalize (fun en w'=>en=.returned (.int .i64 (bP l))∧Kp [] w w':Ending→World→Prop)=R at *
 unfold FK
 refine bY.by (run_range_string w 9 (bs l) TG) ?_
 refine Lp.nat (n:=l.length) (fun n vals w'=>vals=[]∧∃pos,pos+n=l.length∧w'.heap[w.heap.size]?=some (.stringIter (bs l) pos)∧Kp [] w w'∧∀j,j<pos→∃c,l[j]?=some c∧jd c=true) ?_ ?_
 ·refine⟨rfl,0,by omega,aK ..,(Kp.refl _ _).alloc _,fun j hj=>by omega⟩
 ·rintro n _ w' jk C ⟨rfl,pos,hp,hi,hk,ha⟩ hC
  by_cases hlt:pos<l.length
  ·have hsz:pos<(bs l).size:=by rw[iR];exact hlt
   have hc:l[pos]?=some l[pos]:=List.getElem?_eq_getElem hlt
   have hcc:(bs l)[pos]'hsz=l[pos]:=by
    have:(bs l)[pos]'hsz=l.toArray[pos]:=rfl
    rw[this];simp
   by_cases h8:(l[pos]).toNat<128
   ·refine bY.by (Lib.run_next_ascii_at w' _ (bs l) pos 0 hi hsz (by rw[hcc];exact h8)) ?_
    repeat' first|refine .x ?_|refine .y ?_|refine .z ?_|fail
    rw[hcc]
    have hk':Kp [] w (w'.iterAt w.heap.size (bs l) (pos+1)):=hk.obj (Nat.le_refl _) _
    refine Cl.same (OL (hg.kp hk' fun _ _=>trivial) _) ?_
    repeat' first|refine .x ?_|refine .y ?_|refine .z ?_|fail
    have hpr:vX (l[pos]).toNat=jd l[pos]:=by unfold vX;rw[decide_eq_true (by omega)];simp
    refine .split (fun h=>?_) (fun h=>?_)
    ·refine hR _ _ (Ba l pos ha (fun c hcx=>?_) (by omega)).symm hk'
     rw[hc]at hcx;cases hcx
     rw[← hpr];simpa using h
    ·refine hC (n - 1) _ _ (by omega) ⟨rfl,pos+1,by omega,Lib.iterAt_heap _ _ _ _ _ hi,hk',fun j hj=>?_⟩
     by_cases hjp:j=pos
     ·subst hjp;exact⟨_,hc,by rw[← hpr];simpa using h⟩
     ·exact ha j (by omega)
   ·have hd:=decode_high (bs l) pos hsz (by rw[hcc];omega)
    refine bY.by (Lib.run_next_any_at w' _ (bs l) pos 0 hi hsz) ?_
    repeat' first|refine .x ?_|refine .y ?_|refine .z ?_|fail
    have hk':Kp [] w (w'.iterAt w.heap.size (bs l) (pos+(Utf8.decode (bs l) pos).2)):=hk.obj (Nat.le_refl _) _
    refine Cl.same (OL (hg.kp hk' fun _ _=>trivial) _) ?_
    have hf:vX ((Utf8.decode (bs l) pos).1:Nat)=false:=by unfold vX;rw[decide_eq_false (by omega)];rfl
    rw[hf]
    repeat' first|refine .x ?_|refine .y ?_|refine .z ?_|fail
    refine hR _ _ (Ba l pos ha (fun c hcx=>?_) (by omega)).symm hk'
    rw[hc]at hcx;cases hcx
    cases hq:jd l[pos]with
    |false=>rfl
    |true=>exact absurd (Jv hq) h8
  ·refine bY.by (Lib.run_next_end_at w' _ (bs l) pos 0 hi (by rw[iR];omega)) ?_
   repeat' first|refine .x ?_|refine .y ?_|refine .z ?_|fail
   refine hR _ _ ?_ hk
   exact(Ba l l.length (fun j hj=>ha j (by omega)) (fun c hc=>by simp at hc) (Nat.le_refl _)).symm
theorem U4(c:UInt8):uU c=([32,9,10]:By).contains c:=by
 rw[Bool.eq_iff_iff]
 simp[uU,or_assoc]
theorem Gh{w:World}{b:Nat}{cs:List Value}{t:TypeId}(hb:w.heap[b]?=some (cl cs t))(hcs:∀c:UInt8,cs[c.toNat]?=some (.bool (uU c)))(l:By):
  Calls P lh #[.string (bs l),pt b 0] w fun en w'=>en=.returned (.string (bs (l.drop (blanks l))))∧w'=w:=by
 apply wE
 have hR:∀r,r=l.drop (blanks l)→(fun en w'=>en=.returned (.string (bs (l.drop (blanks l))))∧w'=w:Ending→World→Prop) (.returned (.string (bs r))) w:=fun b h=>⟨by rw[h],rfl⟩
 generalize (fun en w'=>en=.returned (.string (bs (l.drop (blanks l))))∧w'=w:Ending→World→Prop)=R at *
 unfold kK
 refine Jn.by (fun vals w'=>∃r,vals=[.string (bs r)]∧r=l.drop (blanks l)∧w'=w) (fun J hJ=>?_) ?_
 ·refine Lp.nat (n:=l.length) (fun n vals w'=>∃r,vals=[.string (bs r)]∧r.length=n∧r.drop (blanks r)=l.drop (blanks l)∧w'=w) ⟨l,rfl,rfl,rfl,rfl⟩ ?_
  rintro n _ w' jk C ⟨r,rfl,hn,hd,rfl⟩ hC
  repeat' first|refine .x ?_|refine .y ?_|refine .z ?_|fail
  cases r with
  |nil=>
   repeat' first|refine .x ?_|refine .y ?_|refine .z ?_|fail
   exact hJ _ _ ⟨[],rfl,by simpa using hd,rfl⟩
  |cons c r=>
   refine If.t ?_ (by simp only[List.length_cons];exact decide_eq_true (by omega))
   refine IxS.s (i:=0) (c:=c) ?_ rfl
   have hc:w'.cell? ⟨b,c.toNat,none⟩=some (.bool (uU c)):=by
    rw[jS,hb,Option.bind_some,fG,List.getElem?_toArray]
    exact hcs c
   refine Cl.same (Tryz.asciiSet_contains b c (uU c) w' hc) ?_
   repeat' first|refine .x ?_|refine .y ?_|refine .z ?_|fail
   cases hbl:uU c with
   |false=>
    refine If.t ?_ rfl
    refine hJ _ _ ⟨_,rfl,?_,rfl⟩
    rw[← hd,blanks,hbl];rfl
   |true=>
    refine If.f ?_ rfl
    refine SlS.f (n:=1) ?_ (by simp)
    refine hC (n - 1) _ _ (by simp at hn;omega) ⟨r,rfl,by simp at hn;omega,?_,rfl⟩
    rw[← hd,blanks,hbl];rfl
 ·rintro _ w' jk ⟨r,rfl,hr,rfl⟩
  repeat' first|refine .x ?_|refine .y ?_|refine .z ?_|fail
  exact hR _ hr
theorem Vl(w:World):(zeroValue 377).run P w=.ok (.agg (Array.replicate 256 (.bool false))) w:=by kernel_rfl
theorem OT(w:World)(l:By):
  Calls P tq #[.string (bs l),.string (bs [32,9,10])] w fun en w'=>en=.returned (.string (bs (l.drop (blanks l))))∧Kp [] w w':=by
 apply Cm
 have hR:∀r w',r=l.drop (blanks l)→Kp [] w w'→(fun en w'=>en=.returned (.string (bs (l.drop (blanks l))))∧Kp [] w w':Ending→World→Prop) (.returned (.string (bs r))) w':=fun b w' h hk=>⟨by rw[h],hk⟩
 generalize (fun en w'=>en=.returned (.string (bs (l.drop (blanks l))))∧Kp [] w w':Ending→World→Prop)=R at *
 unfold sH
 repeat' first|refine .x ?_|refine .y ?_|refine .z ?_|fail
 cases l with
 |nil=>
  repeat' first|refine .x ?_|refine .y ?_|refine .z ?_|fail
  exact hR _ _ rfl (Kp.refl _ _)
 |cons c l=>
  have h1:((c::l)==([]:By))=false:=rfl
  rw[h1]
  repeat' first|refine .x ?_|refine .y ?_|refine .z ?_|fail
  refine Cl.by (Tryz.strings_makeASCIISet Vl (bs [32,9,10]) w (by decide) ?_) ?_ ?_ ?_
  ·intro j b hj
   have:b∈([32,9,10]:By):=List.mem_of_getElem? hj
   simp only[List.mem_cons,List.not_mem_nil,or_false]at this
   rcases this with rfl|rfl|rfl<;>decide
  ·rintro v w' ⟨h,rfl⟩
   cases h
   obtain⟨cs,hcs,hn,ho,hat⟩:∃cs:List Value,Lib.setCells (bs [32,9,10]).data.toList=List.toArray cs∧cs.length=256∧(cs.all (·.oneCell'))=true∧∀c:UInt8,cs[c.toNat]?=some (.bool (uU c)):=by
    refine⟨(Lib.setCells [32,9,10]).toList,(Array.toArray_toList).symm,by rw[Array.length_toList,Lib.setCells_size],?_,?_⟩
    ·have:=Lib.setCells_one [32,9,10];rw[← Array.all_toList]at this;exact this
    ·intro c;rw[Array.getElem?_toList,Lib.setCells_at,U4]
   rw[hcs]
   refine .s ?_
   refine .s ?_
   refine .s ?_
   refine StN.s (l':=cs) ?_ (jP (by simp only[size_alloc])) hn ho (by decide) (by rw[hn];exact List.append_nil _)
   refine If.t ?_ rfl
   refine Cl.same (Gh (aj rfl (by simp only[size_alloc];omega)) hat (c::l)) ?_
   exact hR _ _ rfl (by exact kpA)
  ·rintro _ _ ⟨h,_⟩;cases h
  ·rintro _ ⟨h,_⟩;cases h
theorem JC:∀l:By,blanks l≤l.length
 |[]=>Nat.le_refl _
 |c::r=>by
  rw[blanks]
  split
  ·have:=JC r;simp only[List.length_cons];omega
  ·omega
abbrev tx(txt:By)(pos:Nat):Obj:=cl [.string (bs txt),i64 pos] rD
theorem Yi{w:World}{t pos:Nat}{txt:By}(hg:Gl w)(hN:NG≤t)(ht:w.heap[t]?=some (tx txt pos))(hlen:txt.length≤1200)(hpos:pos≤txt.length):
  Calls P uQ #[pt t 0] w fun en w'=>(en=.returned (.tuple #[])∧w'.heap[t]?=some (tx txt (pos+skip (txt.length+1) (txt.drop pos)))∧pos+skip (txt.length+1) (txt.drop pos)≤txt.length)∧Kp [(t,t+1)] w w':=by
 apply DJ
 generalize hT:pos+skip (txt.length+1) (txt.drop pos)=T
 have hR:∀w',w'.heap[t]?=some (tx txt T)→T≤txt.length→Kp [(t,t+1)] w w'→(fun en w'=>(en=.returned (.tuple #[])∧w'.heap[t]?=some (tx txt T)∧T≤txt.length)∧Kp [(t,t+1)] w w':Ending→World→Prop) (.returned (.tuple #[])) w':=fun w' h h2 hk=>⟨⟨rfl,h,h2⟩,hk⟩
 generalize (fun en w'=>(en=.returned (.tuple #[])∧w'.heap[t]?=some (tx txt T)∧T≤txt.length)∧Kp [(t,t+1)] w w':Ending→World→Prop)=R at *
 unfold uM
 have hlt:=lt_of_heap ht
 refine Lp.nat (n:=txt.length+1) (fun n vals w'=>vals=[]∧∃cur,w'.heap[t]?=some (tx txt cur)∧cur≤txt.length∧txt.length<cur+n∧cur+skip n (txt.drop cur)=T∧Kp [(t,t+1)] w w') ⟨rfl,pos,ht,hpos,by omega,hT,Kp.refl _ _⟩ ?_
 rintro n _ w1 jk C ⟨rfl,cur,h1,hcur,hn,hs,hk⟩ hC
 obtain⟨n,rfl⟩:∃m,n=m+1:=⟨n - 1,by omega⟩
 have hlt1:=lt_of_heap h1
 repeat' first|refine .x ?_|refine .y ?_|refine .z ?_|fail
 refine Cl.plain (w0:=w) (X0:=[(t,t+1)]) (OT w1.drew (txt.drop cur)) (fun w2 hk1 hk2 hs1=>?_) (by exact kpA)
 have hb:=JC (txt.drop cur)
 rw[List.length_drop]at hb
 have hl1:(txt.drop cur).length=txt.length - cur:=List.length_drop
 have hl2:((txt.drop cur).drop (blanks (txt.drop cur))).length=txt.length - cur - blanks (txt.drop cur):=by rw[List.length_drop,List.length_drop]
 repeat' first|refine .x ?_|refine .y ?_|refine .z ?_|fail
 have e1:(cur:Int)+(((txt.drop cur).length:Int) - (((txt.drop cur).drop (blanks (txt.drop cur))).length:Int))=((cur+blanks (txt.drop cur):Nat):Int):=by rw[hl1,hl2];omega
 rw[e1]
 simp only[skip]at hs
 generalize blanks (txt.drop cur)=k at *
 rw[List.drop_drop]at *
 have hk3:Kp [(t,t+1)] w (ah w2 t (tx txt (cur+k))):=Kp.Gn hk2 (by simp[Out]) _
 have h3:(ah w2 t (tx txt (cur+k))).heap[t]?=some (tx txt (cur+k)):=aj rfl (by simp only[size_drew]at hs1;omega)
 have hg3:Gl (ah w2 t (tx txt (cur+k))):=hg.kp hk3 fun i hi=>⟨by omega,trivial⟩
 generalize ah w2 t (tx txt (cur+k))=w3 at *
 have hlt3:=lt_of_heap h3
 refine Cl.same (Fq w3 (txt.drop (cur+k)) [47,42]) ?_
 repeat' first|refine .x ?_|refine .y ?_|refine .z ?_|fail
 refine .split (fun h=>?_) (fun h=>?_)
 ·have h:starts [47,42] (txt.drop (cur+k))=false:=by simpa using h
  rw[h]at hs
  simp only[Bool.false_eq_true,if_false]at hs
  subst hs
  exact hR _ h3 (by omega) hk3
 ·have h:starts [47,42] (txt.drop (cur+k))=true:=by simpa using h
  rw[h]at hs
  simp only[if_true]at hs
  have h2:2≤(txt.drop (cur+k)).length:=by rw[jW]at h;simp only[Bool.and_eq_true,decide_eq_true_eq]at h;exact h.1
  refine SlS.f (n:=2) ?_ h2
  rw[List.length_drop]at h2
  refine Cl.same (VD hg3 _ [42,47] (by rw[List.length_drop,List.length_drop];omega)) ?_
  cases hf:find [42,47] ((txt.drop (cur+k)).drop 2)with
  |none=>
   rw[hf]at hs
   simp only[]at hs
   dsimp only
   repeat' first|refine .x ?_|refine .y ?_|refine .z ?_|fail
   subst hs
   exact hR _ h3 (by omega) hk3
  |some e=>
   rw[hf]at hs
   have hfl:=Xe _ _ hf
   simp only[List.length_drop,List.length_cons,List.length_nil]at hfl
   simp only[]at hs
   dsimp only
   refine .s ?_
   refine .f ?_ (decide_eq_false (by omega))
   repeat' first|refine .x ?_|refine .y ?_|refine .z ?_|fail
   refine hC n _ _ (by omega) ⟨rfl,cur+k+(e+4),?_,by omega,by omega,?_,Kp.Gn hk3 (by simp[Out]) _⟩
   ·refine(aj rfl (by omega)).trans ?_
    congr 5
    try omega
   ·rw[← hs,List.drop_drop];omega
theorem TI:P.underlying 137=some (.slice 5):=by kernel_rfl
theorem YD:P.underlying 5=some (.int .u8):=by kernel_rfl
theorem Vw(w:World)(c:Int):Calls P jM #[.int .u8 c] w fun en w'=>en=.returned (.int .u8 (IntKind.u8.wrap (BitVec.ofInt IntKind.u8.bits c|||BitVec.ofInt IntKind.u8.bits 32).toNat))∧w'=w:=by
 apply vJ
 unfold jI
 refine .s ?_
 exact⟨rfl,rfl⟩
def low(c:UInt8):Nat:=(IntKind.u8.wrap (BitVec.ofInt IntKind.u8.bits c.toNat|||BitVec.ofInt IntKind.u8.bits 32).toNat).toNat
theorem Xg:((List.range 256).all fun n=>let c:=UInt8.ofNat n
  (IntKind.u8.wrap (BitVec.ofInt IntKind.u8.bits c.toNat|||BitVec.ofInt IntKind.u8.bits 32).toNat==(low c:Int))&&decide (low c<256) &&
  (if 48≤n∧n≤57 then dig c==n - 48 else if 97≤low c∧low c≤122 then dig c==low c - 87 else dig c==99)&&(dig c≤99))=true:=by decide +kernel
theorem Zy(c:UInt8):(IntKind.u8.wrap (BitVec.ofInt IntKind.u8.bits c.toNat|||BitVec.ofInt IntKind.u8.bits 32).toNat=(low c:Int))∧low c<256 ∧
  (48≤c.toNat∧c.toNat≤57→dig c=c.toNat - 48)∧(¬ (48≤c.toNat∧c.toNat≤57)→97≤low c∧low c≤122→dig c=low c - 87)∧(¬ (48≤c.toNat∧c.toNat≤57)→¬ (97≤low c∧low c≤122)→dig c=99):=by
 have h:=List.all_eq_true.mp Xg c.toNat (List.mem_range.mpr (UInt8.toNat_lt c))
 have hc:UInt8.ofNat c.toNat=c:=UInt8.ofNat_toNat
 simp only[hc,Bool.and_eq_true,beq_iff_eq,decide_eq_true_eq]at h
 obtain⟨⟨⟨h1,h2⟩,h3⟩,_⟩:=h
 refine⟨h1,h2,fun hd=>?_,fun hd hl=>?_,fun hd hl=>?_⟩
 ·rw[if_pos hd]at h3;simpa using h3
 ·rw[if_neg hd,if_pos hl]at h3;simpa using h3
 ·rw[if_neg hd,if_neg hl]at h3;simpa using h3
def Ej(M:Option Nat)(w:World):Ending→World→Prop:=fun en w'=>(match M with
 |some v=>en=.returned (.tuple #[.int .u64 v,.nilIface])
 |none=>∃n e:Int,en=.returned (.tuple #[.int .u64 n,.iface 399 (.int .i64 e)])∧(e=1∨e=2))∧Kp [] w w'
theorem LM{w:World}(s:By)(base:Nat)(hb:base=10∨base=16)(hs:s.length≤2000):
  Calls P iI #[.string (bs s),i64 base,i64 32] w (Ej (qE base s) w):=by
 apply qG
 generalize hM:qE base s=M
 have hok:∀(v:Nat) w',M=some v→Kp [] w w'→Ej M w (.returned (.tuple #[.int .u64 v,.nilIface])) w':=fun v w' h hk=>by subst h;exact⟨rfl,hk⟩
 have hno:∀(n e:Int) w',M=none→(e=1∨e=2)→Kp [] w w'→Ej M w (.returned (.tuple #[.int .u64 n,.iface 399 (.int .i64 e)])) w':=fun n e w' h he hk=>by subst h;exact⟨⟨n,e,rfl,he⟩,hk⟩
 generalize Ej M w=R at *
 have hb2:decide ((2:Int)≤base)=true:=decide_eq_true (by omega)
 have hb3:decide ((base:Int)≤36)=true:=decide_eq_true (by omega)
 have hb0:((base:Int)==0)=false:=by rw[beq_eq_false_iff_ne];omega
 unfold iF
 refine .s ?_
 cases hse:s==([]:By)with
 |true=>
  refine .t ?_
  have:s=[]:=by simpa using hse
  subst this
  exact hno _ _ _ hM.symm (Or.inr rfl) (Kp.refl _ _)
 |false=>
  refine .f ?_
  have hne:s.isEmpty=false:=by cases s<;>simp_all
  rw[qE,hne]at hM
  simp only[Bool.false_eq_true,if_false]at hM
  refine .s ?_
  refine Jn.by (fun vals w'=>vals=[.string (bs s),i64 base]∧w'=w) (fun J hJ=>?_) ?_
  ·repeat' first|refine .x ?_|refine .y ?_|refine .z ?_|fail
   exact hJ _ _ ⟨rfl,rfl⟩
  ·rintro _ w' jk ⟨rfl,rfl⟩
   refine .s ?_
   refine Jn.by (fun vals w1=>vals=[i64 32]∧w1=w') (fun J hJ=>?_) ?_
   ·repeat' first|refine .x ?_|refine .y ?_|refine .z ?_|fail
    exact hJ _ _ ⟨rfl,rfl⟩
   ·rintro _ w1 jk1 ⟨rfl,rfl⟩
    refine .s ?_
    refine Jn.by (fun vals w2=>(∃n:Int,4294967296≤n∧vals=[.int .u64 n])∧w2=w1) (fun J hJ=>?_) ?_
    ·rcases hb with rfl|rfl
     ·repeat' first|refine .x ?_|refine .y ?_|refine .z ?_|fail
      exact hJ _ _ ⟨⟨_,by decide,rfl⟩,rfl⟩
     ·repeat' first|refine .x ?_|refine .y ?_|refine .z ?_|fail
      exact hJ _ _ ⟨⟨_,by decide,rfl⟩,rfl⟩
    ·rintro _ w2 jk2 ⟨⟨cut,hcut,rfl⟩,rfl⟩
     repeat' first|refine .x ?_|refine .y ?_|refine .z ?_|fail
     refine bY.by (Lib.run_convert_string_bytes w2 9 137 5 (bs s) TG TI YD) ?_
     have hcell:∀(j:Nat) (c:UInt8),s[j]?=some c→(Lib.bytesWorld w2 5 (bs s)).cell? ⟨w2.heap.size,j,none⟩=some (.int .u8 c.toNat):=by
      intro j c hj
      have hlt:j<s.length:=(List.getElem?_eq_some_iff.mp hj).1
      rw[Lib.bytesWorld_cell w2 5 (bs s) j (by rw[iR];exact hlt)]
      have:(bs s).data.toList.getD j 0=c:=by
       show s.getD j 0=c
       rw[List.getD_eq_getElem?_getD,hj];rfl
      rw[this]
     have hk:Kp [] w2 (Lib.bytesWorld w2 5 (bs s)):=by
      refine⟨rfl,rfl,rfl,by rw[Lib.bytesWorld_size];omega,fun b hb _=>Lib.bytesWorld_at_old w2 5 (bs s) b hb⟩
     have hsz:(bs s).size=s.length:=iR s
     rw[hsz]
     generalize Lib.bytesWorld w2 5 (bs s)=w3 at *
     generalize grownCap w2 s.length 0 5=cap at *
     generalize w2.heap.size=b at *
     generalize hmx:IntKind.u64.wrap (IntKind.u64.wrap (1*2 ^ min (IntKind.u64.wrap 32).toNat IntKind.u64.bits) - 1)=mx
     have hmx':mx=4294967295:=by rw[← hmx];decide
     repeat' first|refine .x ?_|refine .y ?_|refine .z ?_|fail
     refine Lp.nat (n:=s.length) (fun n vals w'=>∃(i v:Nat) (x:Value),vals=[.bool false,.int .u64 v,x,.int .i64 i]∧i+n=s.length∧uint base (s.drop i) v=M∧v<4294967296∧w'=w3) ⟨0,0,_,rfl,by omega,by simpa using hM,by omega,rfl⟩ ?_
     rintro n _ w' jk3 C ⟨i,v,x,rfl,hi,hu,hv,rfl⟩ hC
     repeat' first|refine .x ?_|refine .y ?_|refine .z ?_|fail
     refine .split (fun hlt=>?_) (fun hge=>?_)
     ·have hlt:i<s.length:=by have:=of_decide_eq_true hlt;omega
      obtain⟨c,hc⟩:∃c,s[i]?=some c:=⟨_,List.getElem?_eq_getElem hlt⟩
      rw[List.drop_eq_getElem_cons hlt,uint]at hu
      have hcc:s[i]=c:=by rw[List.getElem?_eq_getElem hlt]at hc;exact Option.some.inj hc
      rw[hcc]at hu
      obtain⟨d1,d2,d3,d4,d5⟩:=Zy c
      refine Jn.by (fun vals w4=>∃v' y,vals=[.bool false,.int .u64 ((v':Nat):Int),y]∧uint base (s.drop (i+1)) v'=M∧v'<4294967296∧w4=w') (fun J hJ=>?_) ?_
      ·refine .s ?_
       refine Ld.by (by rw[Nat.mul_one,Nat.zero_add];exact hcell i c hc) ?_
       refine Jn.by (fun vals w4=>(∃d:Nat,vals=[.bool false,.int .u8 d]∧d=dig c∧d<256)∧w4=w') (fun J2 hJ2=>?_) ?_
       ·have h95:((c.toNat:Int)==95&&((base:Int)==0))=false:=by rw[hb0];simp
        have hL:∀K:KV,K (.int .u8 (low c)) w'→Cl P 215 #[.int .u8 c.toNat] w' (pE R) K:=fun K h=>Cl.same (by rw[← d1];exact Vw w' c.toNat) h
        repeat' (first|refine .a ?_|refine .s ?_|refine .t ?_|refine .f ?_|apply hL|((first|apply If.split|apply Gd.split|apply Gd.split')<;>intro _))
        all_goals (simp only[decide_eq_true_eq,decide_eq_false_iff_not]at *)
        all_goals first
         |(refine hno _ _ _ ?_ (Or.inr rfl) hk;rw[← hu,if_neg (by omega)])
         |(refine hJ2 _ _ ⟨⟨dig c,congrArg (fun z:Int=>[Value.bool false,Value.int .u8 z]) ?_,rfl,by omega⟩,rfl⟩;rw[IntKind.wrap_u8];omega)
         |(refine hJ2 _ _ ⟨⟨dig c,congrArg (fun z:Int=>[Value.bool false,Value.int .u8 z]) ?_,rfl,by omega⟩,rfl⟩;rw[IntKind.wrap_u8,IntKind.wrap_u8];omega)
       ·rintro _ w4 jk4 ⟨⟨d,rfl,hd,hd2⟩,rfl⟩
        repeat' first|refine .x ?_|refine .y ?_|refine .z ?_|fail
        obtain⟨p,hp⟩:∃p,p=v*base:=⟨_,rfl⟩
        have hpb:p<68719476736:=by rw[hp];rcases hb with rfl|rfl<;>omega
        have e1:IntKind.u8.wrap (base:Int)=base:=by rw[IntKind.wrap_u8];rcases hb with rfl|rfl<;>rfl
        have e2:IntKind.u64.wrap (base:Int)=base:=by rw[IntKind.wrap_u64];rcases hb with rfl|rfl<;>rfl
        have e3:IntKind.u64.wrap ((v:Int)*base)=p:=by rw[IntKind.wrap_u64,hp,Int.natCast_mul];rw[← Int.natCast_mul,← hp];omega
        have e4:IntKind.u64.wrap (d:Int)=d:=by rw[IntKind.wrap_u64];omega
        have e5:IntKind.u64.wrap ((p:Int)+d)=((p+d:Nat):Int):=by rw[IntKind.wrap_u64];omega
        rw[← hp,← hd]at hu
        rw[e1]
        refine .split (fun h=>?_) (fun h=>?_)
        ·have:=of_decide_eq_true h
         exact hno _ _ _ (by rw[← hu,if_neg (by omega)]) (Or.inr rfl) hk
        ·have hlt2:=of_decide_eq_false h
         rw[if_pos (by omega)]at hu
         refine .s ?_
         refine .f ?_ (decide_eq_false (by omega))
         refine .s ?_
         rw[e2]
         refine .s ?_
         rw[e3]
         refine .s ?_
         rw[e4]
         refine .s ?_
         rw[e5]
         refine .s ?_
         have h6:decide (((p+d:Nat):Int)<(p:Int))=false:=decide_eq_false (by omega)
         repeat' first|refine .x ?_|refine .y ?_|refine .z ?_|fail
         refine .split (fun h=>?_) (fun h=>?_)
         ·have:=of_decide_eq_true h
          exact hno _ _ _ (by rw[← hu,if_neg (by omega)]) (Or.inl rfl) hk
         ·have:=of_decide_eq_false h
          rw[if_pos (by omega)]at hu
          exact hJ _ _ ⟨p+d,_,rfl,hu,by omega,rfl⟩
      ·rintro _ w4 jk4 ⟨v',y,rfl,hu',hv',rfl⟩
       repeat' first|refine .x ?_|refine .y ?_|refine .z ?_|fail
       refine hC (n - 1) _ _ (by omega) ⟨i+1,v',y,rfl,by omega,hu',hv',rfl⟩
     ·have hge:i=s.length:=by have:=of_decide_eq_false hge;omega
      subst hge
      rw[List.drop_length]at hu
      repeat' first|refine .x ?_|refine .y ?_|refine .z ?_|fail
      exact hok _ _ hu.symm hk
theorem Qh(w:World)(s:By)(hs:s.length≤2000):Calls P 257 #[.string (bs s)] w fun en w'=>en=.returned (.string (bs s))∧Kp [] w w':=by
 refine(Tryz.stringslite_Clone (bs s) w (by rw[iR];omega)).mono ?_
 rintro e w' ⟨rfl,h⟩
 exact⟨rfl,Kp.below h⟩
def Errs(w:World):Ending→World→Prop:=fun en w'=>(∃t v,en=.returned (.iface t v))∧Kp [] w w'
theorem IY{w:World}(hg:Gl w)(a s:By)(hs:s.length≤2000):Calls P 217 #[.string (bs a),.string (bs s)] w fun en w'=>(∃b,en=.returned (pt b 0))∧Kp [] w w':=by
 apply yR
 have hR:∀b w',Kp [] w w'→(fun en w'=>(∃b,en=.returned (pt b 0))∧Kp [] w w':Ending→World→Prop) (.returned (pt b 0)) w':=fun b w' h=>⟨⟨b,rfl⟩,h⟩
 generalize (fun en w'=>(∃b,en=.returned (pt b 0))∧Kp [] w w':Ending→World→Prop)=R at *
 unfold nN
 obtain⟨t5,v,hv⟩:=hg.esyn
 have hsz:=hg.size
 have h5:5<w.heap.size:=by unfold NG at hsz;omega
 repeat' first|refine .x ?_|refine .y ?_|refine .z ?_|fail
 refine Cl.plain (w0:=w) (X0:=[]) (Qh w.drew s hs) (fun w1 hk1 hk2 hs1=>?_) (by exact kpA)
 refine⟨?_,?_⟩
 ·repeat' first|refine .x ?_|refine .y ?_|refine .z ?_|fail
  rfl
 ·repeat' first|refine .x ?_|refine .y ?_|refine .z ?_|fail
  exact hR _ _ (by exact kpA)
theorem JS{w:World}(hg:Gl w)(a s:By)(hs:s.length≤2000):Calls P 218 #[.string (bs a),.string (bs s)] w fun en w'=>(∃b,en=.returned (pt b 0))∧Kp [] w w':=by
 apply zW
 have hR:∀b w',Kp [] w w'→(fun en w'=>(∃b,en=.returned (pt b 0))∧Kp [] w w':Ending→World→Prop) (.returned (pt b 0)) w':=fun b w' h=>⟨⟨b,rfl⟩,h⟩
 generalize (fun en w'=>(∃b,en=.returned (pt b 0))∧Kp [] w w':Ending→World→Prop)=R at *
 unfold pU
 obtain⟨t6,v,hv⟩:=hg.erng
 have hsz:=hg.size
 have h5:6<w.heap.size:=by unfold NG at hsz;omega
 repeat' first|refine .x ?_|refine .y ?_|refine .z ?_|fail
 refine Cl.plain (w0:=w) (X0:=[]) (Qh w.drew s hs) (fun w1 hk1 hk2 hs1=>?_) (by exact kpA)
 refine⟨?_,?_⟩
 ·repeat' first|refine .x ?_|refine .y ?_|refine .z ?_|fail
  rfl
 ·repeat' first|refine .x ?_|refine .y ?_|refine .z ?_|fail
  exact hR _ _ (by exact kpA)
theorem Q5{w:World}(hg:Gl w)(a s:By)(hs:s.length≤2000)(x y:Value)(e:Int)(he:e=1∨e=2):
  Calls P 190 #[.string (bs a),.string (bs s),x,y,.iface 399 (.int .i64 e)] w (Errs w):=by
 apply DL
 have hR:∀t v w',Kp [] w w'→Errs w (.returned (.iface t v)) w':=fun t v w' h=>⟨⟨t,v,rfl⟩,h⟩
 generalize Errs w=R at *
 unfold uO
 rcases he with rfl|rfl
 ·refine bY.by (v:=.bool false) (w':=w) (by kernel_rfl) ?_
  repeat' first|refine .x ?_|refine .y ?_|refine .z ?_|fail
  refine bY.by (v:=.bool true) (w':=w) (by kernel_rfl) ?_
  repeat' first|refine .x ?_|refine .y ?_|refine .z ?_|fail
  refine Cl.by (JS hg a s hs) ?_ ?_ ?_
  ·rintro v w' ⟨⟨b,h⟩,hk⟩
   cases h
   exact hR _ _ _ hk
  ·rintro ch w' ⟨⟨b,h⟩,hk⟩;cases h
  ·rintro w' ⟨⟨b,h⟩,hk⟩;cases h
 ·refine bY.by (v:=.bool true) (w':=w) (by kernel_rfl) ?_
  repeat' first|refine .x ?_|refine .y ?_|refine .z ?_|fail
  refine Cl.by (IY hg a s hs) ?_ ?_ ?_
  ·rintro v w' ⟨⟨b,h⟩,hk⟩
   cases h
   exact hR _ _ _ hk
  ·rintro ch w' ⟨⟨b,h⟩,hk⟩;cases h
  ·rintro w' ⟨⟨b,h⟩,hk⟩;cases h
def La(M:Option Nat)(w:World):Ending→World→Prop:=fun en w'=>(match M with
 |some v=>en=.returned (.tuple #[.int .u64 v,.nilIface])
 |none=>∃(n:Int) (t:TypeId) (v:Value),en=.returned (.tuple #[.int .u64 n,.iface t v]))∧Kp [] w w'
theorem JY{w:World}(hg:Gl w)(s:By)(base:Nat)(hb:base=10∨base=16)(hs:s.length≤2000):
  Calls P qZ #[.string (bs s),i64 base,i64 32] w (La (qE base s) w):=by
 apply BB
 generalize hM:qE base s=M
 have hok:∀(v:Nat) w',M=some v→Kp [] w w'→La M w (.returned (.tuple #[.int .u64 v,.nilIface])) w':=fun v w' h hk=>by subst h;exact⟨rfl,hk⟩
 have hno:∀(n:Int) t v w',M=none→Kp [] w w'→La M w (.returned (.tuple #[.int .u64 n,.iface t v])) w':=fun n t v w' h hk=>by subst h;exact⟨⟨n,t,v,rfl⟩,hk⟩
 generalize La M w=R at *
 unfold qN
 refine Cl.by (LM s base hb hs) ?_ ?_ ?_
 ·rintro v w' ⟨h,hk⟩
  rw[hM]at h
  cases hm:M with
  |some u=>
   rw[hm]at h
   cases h
   repeat' first|refine .x ?_|refine .y ?_|refine .z ?_|fail
   exact hok _ _ hm hk
  |none=>
   rw[hm]at h
   obtain⟨n,e,h,he⟩:=h
   cases h
   repeat' first|refine .x ?_|refine .y ?_|refine .z ?_|fail
   refine Cl.by (Q5 (hg.kp hk fun _ _=>trivial) [80,97,114,115,101,85,105,110,116] s hs _ _ e he) ?_ ?_ ?_
   ·rintro v w2 ⟨⟨t,u,h⟩,hk2⟩
    cases h
    exact hno _ _ _ _ hm (hk.trans hk2 fun _ _ _=>⟨trivial,trivial⟩)
   ·rintro ch w2 ⟨⟨t,u,h⟩,hk2⟩;cases h
   ·rintro w2 ⟨⟨t,u,h⟩,hk2⟩;cases h
 ·rintro ch w' ⟨h,hk⟩
  rw[hM]at h
  cases M with
  |some u=>cases h
  |none=>obtain⟨n,e,h,he⟩:=h;cases h
 ·rintro w' ⟨h,hk⟩
  rw[hM]at h
  cases M with
  |some u=>cases h
  |none=>obtain⟨n,e,h,he⟩:=h;cases h
end Go.W.T
namespace Go.W.T
open Go Go.W Go.M Go.Proofs
def GI(M:Option Int)(w:World):Ending→World→Prop:=fun en w'=>(match M with
 |some v=>en=.returned (.tuple #[.int .i64 v,.bool true])
 |none=>∃n:Int,en=.returned (.tuple #[.int .i64 n,.bool false]))∧Kp [] w w'
theorem Qk(b:Nat):∀(l:By) (v r:Nat),v<4294967296→uint b l v=some r→r<4294967296
 |[],v,r,h,e=>by simp only[uint,Option.some.injEq]at e;omega
 |c::l,v,r,h,e=>by
  rw[uint]at e
  split at e
  ·split at e
   ·rename_i h2;exact Qk b l _ r h2 e
   ·cases e
  ·cases e
theorem RJ{b:Nat}{l:By}{r:Nat}(h:qE b l=some r):r<4294967296:=by
 unfold qE at h
 split at h
 ·cases h
 ·exact Qk b l 0 r (by omega) h
theorem Vp{w:World}(hg:Gl w)(s:By)(hs:s.length≤2000)(hne:s≠[]):Calls P BO #[.string (bs s)] w (GI (number s) w):=by
 apply Jc
 generalize hM:number s=M
 have hok:∀(v:Int) w',M=some v→Kp [] w w'→GI M w (.returned (.tuple #[.int .i64 v,.bool true])) w':=fun v w' h hk=>by subst h;exact⟨rfl,hk⟩
 have hno:∀(n:Int) w',M=none→Kp [] w w'→GI M w (.returned (.tuple #[.int .i64 n,.bool false])) w':=fun n w' h hk=>by subst h;exact⟨⟨n,rfl⟩,hk⟩
 generalize GI M w=R at *
 unfold BK
 refine Cl.same (JX w s) ?_
 unfold number at hM
 refine Jn.by (fun vals w'=>∃(base:Nat) (ds:By),vals=[i64 base,.string (bs ds)]∧(base=10∨base=16)∧ds.length≤2000∧Kp [] w w' ∧
   M=(if ds.contains 95 then none else match qE base ds with
    |none=>none
    |some v=>if s.head?==some 45 then(if v≤2147483648 then some (-(v:Int))else none)else some (v:Int))) (fun J hJ=>?_) ?_
 ·refine Cl.same (Fq w s [48,120]) ?_
  refine .split (fun h=>?_) (fun h=>?_)
  ·rw[h]at hM
   simp only[if_true]at hM
   have h2:2≤s.length:=by rw[jW]at h;simp only[Bool.and_eq_true,decide_eq_true_eq]at h;exact h.1
   refine SlS.f (n:=2) ?_ h2
   refine .s ?_
   refine .s ?_
   refine .split (fun hc=>?_) (fun hc=>?_)
   ·have hc:=of_decide_eq_true hc
    refine hno _ _ ?_ (by exact kpA)
    rw[← hM,if_pos (decide_eq_true (by omega))]
   ·have hc:=of_decide_eq_false hc
    rw[if_neg (by rw[decide_eq_false (by omega)];decide)]at hM
    exact hJ _ _ ⟨16,s.drop 2,rfl,Or.inr rfl,by rw[List.length_drop];omega,by exact kpA,hM.symm⟩
  ·rw[h]at hM
   simp only[Bool.false_eq_true,if_false]at hM
   have htl:(bU s).length≤s.length:=by rw[xG];split<;>simp
   refine .s ?_
   refine .s ?_
   have key:∀(b:Bool),b=(decide (1<(bU s).length)&&(bU s).head?==some 48) →
     If (.bool b) (R (.returned (.tuple #[.int .i64 0,.bool false])) w) (J [i64 10,.string (bs (bU s))] w):=by
    intro b hb
    refine .split (fun hc=>?_) (fun hc=>?_)
    ·refine hno _ _ ?_ (Kp.refl _ _)
     rw[← hM,← hb,hc];rfl
    ·rw[← hb,hc]at hM
     simp only[Bool.false_eq_true,if_false]at hM
     exact hJ _ _ ⟨10,bU s,rfl,Or.inl rfl,by omega,Kp.refl _ _,hM.symm⟩
   refine .split (fun hc=>?_) (fun hc=>?_)
   ·have hc':=of_decide_eq_true hc
    obtain⟨c,r,hcr⟩:∃c r,bU s=c::r:=by
     cases h9:bU s with
     |nil=>rw[h9]at hc';simp at hc'
     |cons c r=>exact⟨c,r,rfl⟩
    refine .t ?_
    refine IxS.s (i:=0) (c:=c) ?_ (by rw[hcr];rfl)
    repeat' first|refine .x ?_|refine .y ?_|refine .z ?_|fail
    refine key _ ?_
    rw[hcr]at hc' ⊢
    rw[decide_eq_true (by omega)]
    simp only[Bool.true_and,List.head?_cons]
    rw[Bool.eq_iff_iff,beq_iff_eq,beq_iff_eq,Option.some.injEq]
    constructor
    ·intro h9;exact UInt8.toNat_inj.mp (by simpa using (by omega:c.toNat=48))
    ·rintro rfl;rfl
   ·have:=of_decide_eq_false hc
    repeat' first|refine .x ?_|refine .y ?_|refine .z ?_|fail
    rw[decide_eq_false (by omega)]at hM
    simp only[Bool.false_and,Bool.false_eq_true,if_false]at hM
    exact hJ _ _ ⟨10,bU s,rfl,Or.inl rfl,by omega,Kp.refl _ _,hM.symm⟩
 ·rintro _ w1 jk ⟨base,ds,rfl,hb,hl,hk,hM2⟩
  refine .s ?_
  refine Cl.same (G7 w1 ds) ?_
  refine .split (fun h=>?_) (fun h=>?_)
  ·exact hno _ _ (by rw[hM2,h];rfl) hk
  ·rw[h]at hM2
   simp only[Bool.false_eq_true,if_false]at hM2
   have hg1:=hg.kp hk fun _ _=>trivial
   refine Cl.by (JY hg1 ds base hb hl) ?_ ?_ ?_
   ·rintro v w2 ⟨hp,hk2⟩
    have hk3:Kp [] w w2:=hk.trans hk2 fun _ _ _=>⟨trivial,trivial⟩
    cases hu:qE base ds with
    |none=>
     rw[hu]at hp hM2
     obtain⟨n,t,u,hp⟩:=hp
     cases hp
     repeat' first|refine .x ?_|refine .y ?_|refine .z ?_|fail
     exact hno _ _ hM2 hk3
    |some u=>
     rw[hu]at hp hM2
     cases hp
     have hul:=RJ hu
     simp only[]at hM2
     obtain⟨c,r,rfl⟩:∃c r,s=c::r:=by
      cases s with
      |nil=>exact absurd rfl hne
      |cons c r=>exact⟨c,r,rfl⟩
     refine .s ?_
     refine .s ?_
     refine .s ?_
     refine .f ?_ rfl
     refine IxS.s (i:=0) (c:=c) ?_ rfl
     have e1:IntKind.i64.wrap (u:Int)=u:=fB (by omega) (by omega)
     have e2:IntKind.i64.wrap (0 - (u:Int)) = -(u:Int):=by rw[fB (by omega) (by omega)];omega
     refine .s ?_
     refine .split (fun hc=>?_) (fun hc=>?_)
     ·have hc:c=45:=UInt8.toNat_inj.mp (by have:=beq_iff_eq.mp hc;show c.toNat=45;omega)
      subst hc
      simp only[List.head?_cons,beq_self_eq_true,if_true]at hM2
      refine .s ?_
      rw[e1]
      refine .s ?_
      rw[e2]
      refine .s ?_
      by_cases hle:u≤2147483648
      ·rw[if_pos hle]at hM2
       rw[decide_eq_true (by omega)]
       exact hok _ _ hM2 hk3
      ·rw[if_neg hle]at hM2
       rw[decide_eq_false (by omega)]
       exact hno _ _ hM2 hk3
     ·have hc:c≠45:=fun e=>by subst e;revert hc;decide
      have h9:((c::r).head?==some 45)=false:=by rw[beq_eq_false_iff_ne];simp[hc]
      rw[h9]at hM2
      refine .s ?_
      rw[e1]
      exact hok _ _ hM2 hk3
   ·rintro ch w2 ⟨hp,hk2⟩
    cases hu:qE base ds with
    |none=>rw[hu]at hp;obtain⟨n,t,u,hp⟩:=hp;cases hp
    |some u=>rw[hu]at hp;cases hp
   ·rintro w2 ⟨hp,hk2⟩
    cases hu:qE base ds with
    |none=>rw[hu]at hp;obtain⟨n,t,u,hp⟩:=hp;cases hp
    |some u=>rw[hu]at hp;cases hp
theorem EH:∀l:By,bP l≤l.length
 |[]=>Nat.le_refl _
 |c::r=>by
  rw[bP]
  split
  ·have:=EH r;simp only[List.length_cons];omega
  ·omega
theorem g_num{n:Nat}{w:World}{K:KV}(h:K (.bool ((n:Int)==45||(decide ((48:Int)≤n)&&decide ((n:Int)≤57)))) w):
  Bi .eql (.int .u8 n) (.int .u8 45) fun x17=>
  Gd x17 false w (fun K18=>K18 (.int .u8 n) w) fun x19 w20=>
  Gd x17 false w20 (fun K21=>Bi .geq x19 (.int .u8 48) fun x22=>K21 x22 w20) fun x23 w24=>
  Gd x17 false w24 (fun K25=>K25 x23 w24) fun x26 w27=>
  Gd x26 true w27 (fun K28=>K28 (.int .u8 n) w27) fun x29 w30=>
  Gd x26 true w30 (fun K31=>Bi .leq x29 (.int .u8 57) fun x32=>K31 x32 w30) fun x33 w34=>
  Gd x17 false w34 (fun K35=>Pk x26 x33 (.bool false) fun x36=>K35 x36 w34) fun x37 w38=>
  Pk x17 (.bool true) x37 fun x39=>K x39 w38:=by
 repeat' (first|refine .a ?_|refine .d ?_|refine .s ?_|refine .t ?_|refine .f ?_|((first|apply If.split|apply Gd.split|apply Gd.split')<;>intro _))
 all_goals (simp only[*,Bool.true_or,Bool.false_or,Bool.true_and,Bool.false_and]at h)
 all_goals (first|exact h|(simp_all;done))
theorem g_let{c:UInt8}{w:World}{K:KV}{E:KE}(hg:Gl w)(h:K (.bool ((c.toNat:Int) != 95&&jd c)) w):
  Bi .neq (.int .u8 c.toNat) (.int .u8 95) fun x66=>
  Gd x66 true w (fun K67=>K67 (.int .u8 c.toNat) w) fun x68 w69=>
  Gd x66 true w69 (fun K70=>Cv .i32 x68 fun x71=>K70 x71 w69) fun x72 w73=>
  Gd x66 true w73 (fun K74=>Cl P 111 #[x72] w73 E fun x75 w76=>K74 x75 w76) fun x77 w78=>
  Pk x66 x77 (.bool false) fun x79=>K x79 w78:=by
 have hlt:=UInt8.toNat_lt c
 have e1:IntKind.i32.wrap (c.toNat:Int)=c.toNat:=by rw[IntKind.wrap_i32];omega
 have e2:vX c.toNat=jd c:=by
  unfold vX
  by_cases h8:c.toNat<128
  ·rw[decide_eq_true (by omega)];simp
  ·rw[decide_eq_false (by omega)]
   cases hp:jd c with
   |false=>rfl
   |true=>exact absurd (Jv hp) h8
 refine .s ?_
 refine .split (fun hc=>?_) (fun hc=>?_)
 ·repeat' first|refine .x ?_|refine .y ?_|refine .z ?_|fail
  rw[e1]
  refine Cl.same (OL hg c.toNat) ?_
  rw[e2]
  repeat' first|refine .x ?_|refine .y ?_|refine .z ?_|fail
  rw[hc]at h
  exact h
 ·repeat' first|refine .x ?_|refine .y ?_|refine .z ?_|fail
  rw[hc]at h
  exact h
theorem Yq{w:World}{t pos:Nat}{txt:By}(hg:Gl w)(hN:NG≤t)(ht:w.heap[t]?=some (tx txt pos))(hlen:txt.length≤1200)(hpos:pos≤txt.length):
  Calls P uS #[pt t 0] w (Post w (next txt pos) [(t,t+1)] fun x v w'=>v=wdv x.1∧w'.heap[t]?=some (tx txt x.2)∧x.2≤txt.length):=by
 refine Post.R fun R M hM hok hno=>?_
 apply DK
 unfold uN
 have hlt:=lt_of_heap ht
 have hgp:∀{w':World},Kp [(t,t+1)] w w'→Gl w':=fun h=>hg.kp h fun i hi=>⟨by omega,trivial⟩
 repeat' first|refine .x ?_|refine .y ?_|refine .z ?_|fail
 refine Cl.by (Yi (t:=t) (pos:=pos) (txt:=txt) (hg.kp ((Kp.refl [] w).alloc _) fun _ _=>trivial) hN ((bf hlt).trans ht) hlen hpos) ?_ ?_ ?_
 rotate_left
 ·rintro ch w' ⟨⟨h,_⟩,_⟩;cases h
 ·rintro w' ⟨⟨h,_⟩,_⟩;cases h
 rintro v w1 ⟨⟨hv,h1,hq⟩,hk1⟩
 cases hv
 rw[next]at hM
 generalize pos+skip (txt.length+1) (txt.drop pos)=q at *
 have hk:Kq [(t,t+1)] w w1:=((Kp.refl [(t,t+1)] w).alloc _).trans hk1 fun i hi ho=>⟨ho,ho⟩
 have hs1:=hk1.size
 rw[size_alloc]at hs1
 have hg1:=hgp hk.out
 have hlt1:=lt_of_heap h1
 have hdl:(txt.drop q).length=txt.length - q:=List.length_drop
 repeat' first|refine .x ?_|refine .y ?_|refine .z ?_|fail
 cases hr:txt.drop q with
 |nil=>
  rw[hr]at hM
  repeat' first|refine .x ?_|refine .y ?_|refine .z ?_|fail
  refine hok _ _ _ hM (by exact kpA) ⟨rfl,?_,hq⟩
  exact(aQ (by omega)).trans h1
 |cons c r=>
  rw[hr]at hM hdl
  simp only[List.length_cons]at hdl
  have hce:((c::r)==([]:By))=false:=rfl
  simp only[]at hM
  have hrl:=EH r
  have hcd:digit c=(decide ((48:Int)≤c.toNat)&&decide ((c.toNat:Int)≤57)):=by
   unfold digit
   congr 1
   ·rw[Bool.eq_iff_iff,decide_eq_true_eq,decide_eq_true_eq,UInt8.le_iff_toNat_le];show 48≤c.toNat↔_;omega
   ·rw[Bool.eq_iff_iff,decide_eq_true_eq,decide_eq_true_eq,UInt8.le_iff_toNat_le];show c.toNat≤57↔_;omega
  have hc45:(c==45)=((c.toNat:Int)==45):=by
   rw[Bool.eq_iff_iff,beq_iff_eq,beq_iff_eq]
   exact⟨fun h=>by rw[h];rfl,fun h=>UInt8.toNat_inj.mp (by show c.toNat=45;omega)⟩
  have hc95:(c != 95)=((c.toNat:Int) != 95):=by
   rw[Bool.eq_iff_iff,bne_iff_ne,bne_iff_ne]
   exact⟨fun h h2=>h (UInt8.toNat_inj.mp (by show c.toNat=95;omega)),fun h h2=>h (by rw[h2];rfl)⟩
  have key:∀b:Bool,b=(c==45||digit c)→∀A B:Prop,(b=true→A)→(b=false→B)→If (.bool b) A B:=fun b _ A B ha hb=>If.split ha hb
  refine .f ?_
  refine IxS.s (i:=0) (c:=c) ?_ rfl
  refine g_num ?_
  rw[← hcd,← hc45]
  cases hA:(c==45||digit c)with
  |true=>
   rw[hA]at hM
   simp only[if_true]at hM
   refine If.t ?_ rfl
   refine SlS.f (n:=1) ?_ (by simp)
   refine Cl.plain (w0:=w) (X0:=[(t,t+1)]) (Xz hg1 r (by omega)) (fun w2 hk2 hq2 hs2=>?_) (by exact kpA)
   have hn:(1:Int)+(bP r:Nat)=((1+bP r:Nat):Int):=by omega
   repeat' first|refine .x ?_|refine .y ?_|refine .z ?_|fail
   have hk3:Kq [(t,t+1)] w (ah w2 t (tx txt (q+(1+bP r)))):=Kp.Gn hq2.out (by simp[Out]) _
   have h3:(ah w2 t (tx txt (q+(1+bP r)))).heap[t]?=some (tx txt (q+(1+bP r))):=aj rfl (by omega)
   have hb3:(ah w2 t (tx txt (q+(1+bP r)))).heap[w.heap.size]?=some (cl [.int .i64 0,.string ⟨#[]⟩,.int .i64 0,.int .i64 0] 104):=by
    rw[aQ (by omega),hk2.same _ (by omega) trivial,hk1.same _ (by rw[size_alloc];omega) ⟨by omega,trivial⟩]
    exact aK ..
   have hlt3:=lt_of_heap hb3
   have e3:((q:Int)+(1+(bP r:Nat)))=((q+(1+bP r):Nat):Int):=by omega
   rw[e3]
   generalize ah w2 t (tx txt (q+(1+bP r)))=w3 at *
   refine Cl.by (Vp (hgp hk3.out) (List.take (1+bP r) (c::r)) (by rw[List.length_take];simp only[List.length_cons];omega) (by rw[Nat.add_comm,List.take_succ_cons];simp)) ?_ ?_ ?_
   ·rintro v w4 ⟨hv,hk4⟩
    cases hnum:number (List.take (1+bP r) (c::r))with
    |none=>
     rw[hnum]at hv hM
     obtain⟨n,hv⟩:=hv
     cases hv
     simp only[]at hM
     have hk5:Kp [(t,t+1)] w w4:=hk3.out.trans hk4 fun i hi ho=>⟨ho,trivial⟩
     repeat' first|refine .x ?_|refine .y ?_|refine .z ?_|fail
     refine Jn.by (fun _ _=>False) (fun J hJ=>?_) ?_
     ·repeat' first|refine .x ?_|refine .y ?_|refine .z ?_|fail
      exact Cl.fail hM hno hk5
     ·rintro _ _ _ h;exact h.elim
    |some v=>
     rw[hnum]at hv hM
     cases hv
     simp only[]at hM
     have hk5:Kq [(t,t+1)] w w4:=hk3.out.trans hk4 fun i hi ho=>⟨ho,trivial⟩
     have hs4:=hk4.size
     repeat' first|refine .x ?_|refine .y ?_|refine .z ?_|fail
     refine Jn.direct ?_
     repeat' first|refine .x ?_|refine .y ?_|refine .z ?_|fail
     intro jk
     repeat' first|refine .x ?_|refine .y ?_|refine .z ?_|fail
     refine hok _ _ _ hM (by exact kpA) ⟨rfl,?_,by omega⟩
     exact(aQ (by omega)).trans ((hk4.same _ (by omega) trivial).trans h3)
   ·rintro ch w4 ⟨hv,hk4⟩
    cases hnum:number (List.take (1+bP r) (c::r))with
    |none=>rw[hnum]at hv;obtain⟨n,hv⟩:=hv;cases hv
    |some v=>rw[hnum]at hv;cases hv
   ·rintro w4 ⟨hv,hk4⟩
    cases hnum:number (List.take (1+bP r) (c::r))with
    |none=>rw[hnum]at hv;obtain⟨n,hv⟩:=hv;cases hv
    |some v=>rw[hnum]at hv;cases hv
  |false=>
   rw[hA]at hM
   simp only[Bool.false_eq_true,if_false]at hM
   refine If.f ?_ rfl
   refine g_let hg1 ?_
   rw[← hc95]
   cases hB:(c != 95&&jd c)with
   |true=>
    rw[hB]at hM
    simp only[if_true]at hM
    refine If.t ?_ rfl
    have hrl2:=EH (c::r)
    simp only[List.length_cons]at hrl2
    refine Cl.plain (w0:=w) (X0:=[(t,t+1)]) (Xz hg1 (c::r) (by simp only[List.length_cons];omega)) (fun w2 hk2 hq2 hs2=>?_) (by exact kpA)
    have htk:(List.take (bP (c::r)) (c::r)).length=bP (c::r):=by rw[List.length_take,List.length_cons];omega
    refine SlS.t (n:=bP (c::r)) ?_ (by simp only[List.length_cons];omega)
    generalize hsd:List.take (bP (c::r)) (c::r)=sd at *
    repeat' first|refine .x ?_|refine .y ?_|refine .z ?_|fail
    have hk3:Kq [(t,t+1)] w (ah w2 t (tx txt (q+sd.length))):=Kp.Gn hq2.out (by simp[Out]) _
    have h3:(ah w2 t (tx txt (q+sd.length))).heap[t]?=some (tx txt (q+sd.length)):=aj rfl (by omega)
    have hb3:(ah w2 t (tx txt (q+sd.length))).heap[w.heap.size]?=some (cl [.int .i64 0,.string ⟨#[]⟩,.int .i64 0,.int .i64 0] 104):=by
     rw[aQ (by omega),hk2.same _ (by omega) trivial,hk1.same _ (by rw[size_alloc];omega) ⟨by omega,trivial⟩]
     exact aK ..
    have hlt3:=lt_of_heap hb3
    have e3:((q:Int)+(sd.length:Nat))=((q+sd.length:Nat):Int):=by omega
    rw[e3]
    generalize ah w2 t (tx txt (q+sd.length))=w3 at *
    refine Cl.same (OU (hgp hk3.out) keys (32::sd++[32]) (by decide)) ?_
    cases hkey:contains keys (32::sd++[32])with
    |true=>
     rw[hkey]at hM
     simp only[if_true]at hM
     repeat' first|refine .x ?_|refine .y ?_|refine .z ?_|fail
     refine hok _ _ _ hM (by exact kpA) ⟨rfl,?_,by omega⟩
     exact(aQ (by omega)).trans h3
    |false=>
     rw[hkey]at hM
     simp only[Bool.false_eq_true,if_false]at hM
     refine If.f ?_ rfl
     by_cases h16:16<sd.length
     ·rw[if_pos h16]at hM
      refine Jn.by (fun _ _=>False) (fun J hJ=>?_) ?_
      ·refine .s ?_
       refine .s ?_
       refine If.t ?_ (decide_eq_true (by omega))
       exact Cl.fail hM hno hk3.out
      ·rintro _ _ _ h;exact h.elim
     ·rw[if_neg h16]at hM
      refine Jn.direct ?_
      refine .s ?_
      refine .s ?_
      refine If.f ?_ (decide_eq_false (by omega))
      intro jk
      repeat' first|refine .x ?_|refine .y ?_|refine .z ?_|fail
      refine hok _ _ _ hM (by exact kpA) ⟨rfl,?_,by omega⟩
      exact(aQ (by omega)).trans h3
   |false=>
    rw[hB]at hM
    simp only[Bool.false_eq_true,if_false]at hM
    refine If.f ?_ rfl
    refine Cl.by (LQ w1 signs c) ?_ ?_ ?_
    ·rintro v w2 ⟨⟨n,hv,hn⟩,rfl⟩
     cases hv
     refine .s ?_
     cases hs9:signs.contains c with
     |true=>
      rw[hs9]at hM hn
      simp only[if_true]at hM
      refine If.t ?_ hn
      repeat' first|refine .x ?_|refine .y ?_|refine .z ?_|fail
      refine hok _ _ _ hM (by exact kpA) ⟨rfl,?_,by show q+1≤txt.length;omega⟩
      exact(aQ (by omega)).trans (aj rfl (by omega))
     |false=>
      rw[hs9]at hM hn
      simp only[Bool.false_eq_true,if_false]at hM
      refine If.f ?_ hn
      exact Cl.fail hM hno hk.out
    ·rintro ch w2 ⟨⟨n,hv,hn⟩,_⟩;cases hv
    ·rintro w2 ⟨⟨n,hv,hn⟩,_⟩;cases hv
end Go.W.T
namespace Go.W.T
open Go Go.W Go.M
theorem Tt(w:World)(b:Nat)(l:List By)(k:By)(at_:Nat)(h:aF w b l):
  Calls P kX #[.map (some b),.string (bs k),i64 at_] w (Post w (once l k at_) [(b,b+1)] fun l' _ w'=>aF w' b l'):=by
 refine Post.R fun R M hM hok hno=>?_
 apply wo
 unfold kF
 obtain⟨es,clock,hb,hm⟩:=h
 have hlt:=lt_of_heap hb
 rw[once]at hM
 refine Jn.by (fun vals w'=>vals=[]∧l.contains k=false∧Kp [] w w') (fun J hJ=>?_) ?_
 ·refine .set hm hb ?_
  repeat' (first|refine .a ?_|refine .d ?_|refine .s ?_|refine .t ?_|refine .f ?_|((first|apply If.split|apply Gd.split|apply Gd.split')<;>intro _))
  ·rename_i h
   rw[h,if_pos rfl]at hM
   exact Cl.fail hM hno
  ·rename_i h
   exact hJ _ _ ⟨rfl,h,by exact kpA⟩
 ·rintro _ w' jk ⟨rfl,hc,hk⟩
  rw[hc]at hM
  repeat' first|refine .x ?_|refine .y ?_|refine .z ?_|fail
  refine .set hm ((hk.same b hlt trivial).trans hb) hc fun es' clock' hm'=>?_
  refine hok _ _ _ hM (Kp.Gn hk.any (by simp[Out]) _) ⟨es',clock',aj rfl (Nat.lt_of_lt_of_le hlt hk.size),hm'⟩
theorem Jl(w:World)(b:Nat)(l:List Int)(k:Int)(at_:Nat)(h:ak .i64 w b l):
  Calls P mM #[.map (some b),.int .i64 k,i64 at_] w (Post w (once l k at_) [(b,b+1)] fun l' _ w'=>ak .i64 w' b l'):=by
 refine Post.R fun R M hM hok hno=>?_
 apply xN
 unfold lX
 obtain⟨es,clock,hb,hm⟩:=h
 have hlt:=lt_of_heap hb
 rw[once]at hM
 refine Jn.by (fun vals w'=>vals=[]∧l.contains k=false∧Kp [] w w') (fun J hJ=>?_) ?_
 ·refine .Un hm hb ?_
  repeat' (first|refine .a ?_|refine .d ?_|refine .s ?_|refine .t ?_|refine .f ?_|((first|apply If.split|apply Gd.split|apply Gd.split')<;>intro _))
  ·rename_i h
   rw[h,if_pos rfl]at hM
   exact Cl.fail hM hno
  ·rename_i h
   exact hJ _ _ ⟨rfl,h,by exact kpA⟩
 ·rintro _ w' jk ⟨rfl,hc,hk⟩
  rw[hc]at hM
  repeat' first|refine .x ?_|refine .y ?_|refine .z ?_|fail
  refine .Un hm ((hk.same b hlt trivial).trans hb) hc fun es' clock' hm'=>?_
  refine hok _ _ _ hM (Kp.Gn hk.any (by simp[Out]) _) ⟨es',clock',aj rfl (Nat.lt_of_lt_of_le hlt hk.size),hm'⟩
theorem Rh(w:World)(b:Nat)(l:List Int)(k:Int)(at_:Nat)(h:ak .u32 w b l):
  Calls P kW #[.map (some b),.int .u32 k,i64 at_] w (Post w (once l k at_) [(b,b+1)] fun l' _ w'=>ak .u32 w' b l'):=by
 refine Post.R fun R M hM hok hno=>?_
 apply vZ
 unfold kE
 obtain⟨es,clock,hb,hm⟩:=h
 have hlt:=lt_of_heap hb
 rw[once]at hM
 refine Jn.by (fun vals w'=>vals=[]∧l.contains k=false∧Kp [] w w') (fun J hJ=>?_) ?_
 ·refine .Un hm hb ?_
  repeat' (first|refine .a ?_|refine .d ?_|refine .s ?_|refine .t ?_|refine .f ?_|((first|apply If.split|apply Gd.split|apply Gd.split')<;>intro _))
  ·rename_i h
   rw[h,if_pos rfl]at hM
   exact Cl.fail hM hno
  ·rename_i h
   exact hJ _ _ ⟨rfl,h,by exact kpA⟩
 ·rintro _ w' jk ⟨rfl,hc,hk⟩
  rw[hc]at hM
  repeat' first|refine .x ?_|refine .y ?_|refine .z ?_|fail
  refine .Un hm ((hk.same b hlt trivial).trans hb) hc fun es' clock' hm'=>?_
  refine hok _ _ _ hM (Kp.Gn hk.any (by simp[Out]) _) ⟨es',clock',aj rfl (Nat.lt_of_lt_of_le hlt hk.size),hm'⟩
def Dc(H:Hp)(v:Value)(nums:List Int):Prop:=
 ∃b nm at_ ns sb rest cap,v=pt b 0∧H b=some ([.string (bs nm),i64 at_,ns,.slice (some ⟨sb,0,none⟩) nums.length cap],bI)∧H sb=some (nums.map i64++rest,fU)∧nums.length≤12
def fZ(H:Hp):List (By×Value)→List (By×List Int)→Prop
 |[],[]=>True
 |x::m,y::l=>x.1=y.1∧Dc H x.2 y.2∧fZ H m l
 |_,_=>False
theorem Dc.le{H H':Hp}{v:Value}{l:List Int}(h:Dc H v l)(k:Hle H H'):Dc H' v l:=by
 obtain⟨b,nm,at_,ns,sb,rest,cap,h1,h2,h3,h4⟩:=h
 exact⟨b,nm,at_,ns,sb,rest,cap,h1,k _ _ h2,k _ _ h3,h4⟩
theorem fZ.le{H H':Hp}(k:Hle H H'):∀{m:List (By×Value)} {l:List (By×List Int)},fZ H m l→fZ H' m l
 |[],[],_=>trivial
 |_::_,_::_,h=>⟨h.1,h.2.1.le k,fZ.le k h.2.2⟩
 |[],_::_,h=>h.elim
 |_::_,[],h=>h.elim
def aO(B:Nat)(p:PS):List Value:=
 [pt B 0,i64 p.w.kind,.string (bs p.w.s),i64 p.w.at_,i64 p.w.n,.map (some (B+1)),.map (some (B+2)),.map (some (B+3)),.map (some (B+4)),i64 p.n0,i64 p.n1,i64 p.n2]
structure PR (B:Nat) (H:Hp) (w:World) (p:PS):Prop where
 gl:Gl w
 hB:NG≤B
 sub:Sub H w
 dom:∀b x,H b=some x→B+6≤b
 lt:B+6≤w.heap.size
 hp:w.heap[B+5]?=some (cl (aO B p) aI)
 ht:w.heap[B]?=some (cl [.string (bs p.txt),i64 p.pos] rD)
 hn:aF w (B+1) p.names
 hc:∃es clock,w.heap[B+2]?=some (.map es clock)∧MK κs es clock (p.consts.map fun x=>(x.1,i64 x.2))
 he:∃es clock m,w.heap[B+3]?=some (.map es clock)∧MK κs es clock m∧fZ H m p.enums
 hg:ak .u32 w (B+4) p.iQ
 len:p.txt.length≤1200
 pos:p.pos≤p.txt.length
 c0:p.n0≤24
 c1:p.n1≤40
 c2:p.n2≤4
theorem PR.kp{B:Nat}{H:Hp}{w w':World}{p:PS}{X:List (Nat×Nat)}(h:PR B H w p)(k:Kp X w w')(h0:∀i,i<B→Out X i)(h1:∀i,B≤i→i<B+6→Out X i)(h2:∀b x,H b=some x→Out X b):PR B H w' p:=by
 have hl:=h.lt
 have hB:=h.hB
 have hs:∀i,B≤i→i<B+6→w'.heap[i]?=w.heap[i]?:=fun i a b=>k.same i (by omega) (h1 i a b)
 obtain⟨e1,c1,n1,n2⟩:=h.hn
 obtain⟨e2,c2,k1,k2⟩:=h.hc
 obtain⟨e3,c3,m,l1,l2,l3⟩:=h.he
 obtain⟨e4,c4,g1,g2⟩:=h.hg
 exact { gl:=h.gl.kp k (fun i hi=>h0 i (by omega)),hB:=h.hB,sub:=h.sub.kp k h2,dom:=h.dom,lt:=by have:=k.size;omega,hp:=(hs _ (by omega) (by omega)).trans h.hp,ht:=(hs _ (by omega) (by omega)).trans h.ht,
         hn := ⟨e1, c1, (hs _ (by omega) (by omega)).trans n1, n2⟩, hc := ⟨e2, c2, (hs _ (by omega) (by omega)).trans k1, k2⟩,
         he := ⟨e3, c3, m, (hs _ (by omega) (by omega)).trans l1, l2, l3⟩, hg := ⟨e4, c4, (hs _ (by omega) (by omega)).trans g1, g2⟩,
         len := h.len, pos := h.pos, c0 := h.c0, c1 := h.c1, c2 := h.c2 }
theorem PR.ext{B:Nat}{H:Hp}{w w':World}{p:PS}(h:PR B H w p)(k:Kp [] w w'):PR B H w' p:=h.kp k (fun _ _=>trivial) (fun _ _ _=>trivial) (fun _ _ _=>trivial)
theorem PR.map{B:Nat}{H:Hp}{w w':World}{p:PS}{s:Nat}{es:Array MapEntry}{clock:Nat}(h:PR B H w p)(k:Kp [(s,s+1)] w w')(hs:B+6≤s)(hm:w.heap[s]?=some (.map es clock)):PR B H w' p:=by
 refine h.kp k (fun i h1=>⟨by omega,trivial⟩) (fun i h1 h2=>⟨by omega,trivial⟩) (fun b x hx=>⟨?_,trivial⟩)
 have:=h.sub b x.1 x.2 hx
 by_cases e:b=s
 ·subst e;rw[hm]at this;cases this
 ·omega
theorem GZ{β:Type}{B:Nat}{H:Hp}{w:World}{p:PS}(h:PR B H w p):
  Calls P qW #[pt (B+5) 0] w (Post w (bad p:Res β) [] fun _ _ _=>False):=by
 refine Post.R fun R M hM hok hno=>?_
 apply Bv
 unfold qJ
 have hp:=h.hp
 repeat' first|refine .x ?_|refine .y ?_|refine .z ?_|fail
 exact Cl.fail hM hno
theorem iO{B:Nat}{H:Hp}{w:World}{p:PS}(h:PR B H w p)(n most:Nat):
  Calls P nZ #[pt (B+5) 0,i64 n,i64 most] w (Post w (count p n most) [] fun _ _ w'=>w'=w):=by
 refine Post.R fun R M hM hok hno=>?_
 apply yN
 unfold nH
 have hp:=h.hp
 rw[count]at hM
 repeat' first|refine .x ?_|refine .y ?_|refine .z ?_|fail
 refine .split (fun hc=>?_) (fun hc=>?_)
 ·rw[if_pos (by simpa using hc)]at hM
  repeat' first|refine .x ?_|refine .y ?_|refine .z ?_|fail
  exact Cl.fail hM hno
 ·rw[if_neg (by simpa using hc)]at hM
  exact hok _ _ _ hM (Kp.refl _ _) rfl
theorem PR.step{B:Nat}{H:Hp}{w w':World}{p p':PS}(h:PR B H w p)(k:Kp [(B,B+1),(B+5,B+6)] w w')(hp:w'.heap[B+5]?=some (cl (aO B p') aI))
  (ht:w'.heap[B]?=some (tx p'.txt p'.pos)) (e1:p'.names=p.names) (e2:p'.consts=p.consts) (e3:p'.enums=p.enums) (e4:p'.iQ=p.iQ)
  (e5:p'.txt=p.txt) (e6:p'.pos≤p'.txt.length) (c0:p'.n0≤24) (c1:p'.n1≤40) (c2:p'.n2≤4):PR B H w' p':=by
 have hl:=h.lt
 have hB:=h.hB
 have hs:∀i,B+1≤i→i<B+5→w'.heap[i]?=w.heap[i]?:=fun i a b=>k.same i (by omega) ⟨by omega,by omega,trivial⟩
 obtain⟨a1,a2,a3,a4⟩:=h.hn
 obtain⟨b1,b2,b3,b4⟩:=h.hc
 obtain⟨d1,d2,m,d3,d4,d5⟩:=h.he
 obtain⟨f1,f2,f3,f4⟩:=h.hg
 exact { gl:=h.gl.kp k (fun i hi=>⟨by omega,by omega,trivial⟩),hB:=h.hB,sub:=h.sub.kp k (fun b x hx=>by have:=h.dom b x hx;exact⟨by omega,by omega,trivial⟩),dom:=h.dom,
         lt := by have := k.size; omega, hp := hp, ht := ht,
         hn := by rw [e1]; exact ⟨a1, a2, (hs _ (by omega) (by omega)).trans a3, a4⟩, hc := by rw [e2]; exact ⟨b1, b2, (hs _ (by omega) (by omega)).trans b3, b4⟩,
         he := by rw [e3]; exact ⟨d1, d2, m, (hs _ (by omega) (by omega)).trans d3, d4, d5⟩, hg := by rw [e4]; exact ⟨f1, f2, (hs _ (by omega) (by omega)).trans f3, f4⟩,
         len := by rw [e5]; exact h.len, pos := e6, c0 := c0, c1 := c1, c2 := c2 }
abbrev PX(B:Nat):List (Nat×Nat):=[(B,B+6)]
theorem qB{B:Nat}{H:Hp}{w:World}{p:PS}(h:PR B H w p):
  Calls P ja #[pt (B+5) 0] w (Post w (advance p) (PX B) fun p' v w'=>v=.tuple #[]∧PR B H w' p'):=by
 refine Post.R fun R M hM hok hno=>?_
 apply zO
 unfold pI
 have hp:=h.hp
 have hl:=h.lt
 rw[aO]at hp
 rw[advance]at hM
 repeat' first|refine .x ?_|refine .y ?_|refine .z ?_|fail
 refine Cl.bind (w0:=w) (X0:=PX B) hM (Yq h.gl h.hB h.ht h.len h.pos) hno ?_
 rintro x v w1 hM hk hq hs ⟨rfl,ht,hx⟩
 have hp1:w1.heap[B+5]?=_:=(hk.same (B+5) (by omega) ⟨by omega,trivial⟩).trans hp
 unfold wdv
 repeat' first|refine .x ?_|refine .y ?_|refine .z ?_|fail
 have ht2:(ah w1 (B+5) (cl (aO B { p with w:=x.1,pos:=x.2 }) aI)).heap[B]?=some (tx p.txt x.2):=(aQ (by omega)).trans ht
 have hp2:(ah w1 (B+5) (cl (aO B { p with w:=x.1,pos:=x.2 }) aI)).heap[B+5]?=some (cl (aO B { p with w:=x.1,pos:=x.2 }) aI):=aj rfl (by omega)
 have hk2:Kp [(B,B+1),(B+5,B+6)] w (ah w1 (B+5) (cl (aO B { p with w:=x.1,pos:=x.2 }) aI)):=
  Kp.Gn (hk.mono (Y:=[(B,B+1),(B+5,B+6)]) fun i hi ho=>⟨ho.1,trivial⟩) (by simp only[Out];omega) _
 exact hok _ _ _ hM (by exact kpA) ⟨rfl,h.step hk2 hp2 ht2 rfl rfl rfl rfl rfl hx h.c0 h.c1 h.c2⟩
theorem gu{B:Nat}{H:Hp}{w:World}{p:PS}(h:PR B H w p)(s:By):
  Calls P qf #[pt (B+5) 0,.string (bs s)] w (Post w (take p s) (PX B) fun x v w'=>v=.bool x.1∧PR B H w' x.2):=by
 refine Post.R fun R M hM hok hno=>?_
 apply zM
 unfold pF
 have hp:=h.hp
 have hl:=h.lt
 rw[aO]at hp
 rw[take]at hM
 repeat' first|refine .x ?_|refine .y ?_|refine .z ?_|fail
 refine Cl.plain (w0:=w) (X0:=PX B) (yK w p.w s) (fun w1 hk hq hs=>?_) (by exact kpA)
 have h1:=h.ext hk
 cases hc:p.w.is s with
 |true=>
  rw[hc,if_pos rfl]at hM
  repeat' first|refine .x ?_|refine .y ?_|refine .z ?_|fail
  refine Cl.bind (w0:=w) (X0:=PX B) hM (qB h1) hno ?_
  rintro p' v w2 hM hk2 hq2 hs2 ⟨rfl,h2⟩
  exact hok _ _ _ hM hq2.out ⟨rfl,h2⟩
 |false=>
  rw[hc,if_neg (by decide)]at hM
  repeat' first|refine .x ?_|refine .y ?_|refine .z ?_|fail
  exact hok _ _ _ hM (by exact kpA) ⟨rfl,h1⟩
theorem JR{B:Nat}{H:Hp}{w:World}{p:PS}(h:PR B H w p)(l:List By){b:Nat}{t:TypeId}(hb:w.heap[b]?=some (cl (l.map κs) t))(hB:B+6≤b)(hl:l.length<100):
  Calls P iY #[pt (B+5) 0,.slice (some ⟨b,0,none⟩) l.length l.length] w (Post w (want p l) (PX B) fun p' v w'=>v=.tuple #[]∧PR B H w' p'):=by
 refine Post.R fun R M hM hok hno=>?_
 apply zK
 unfold pz
 have hbl:=lt_of_heap hb
 have hlB:=h.lt
 repeat' first|refine .x ?_|refine .y ?_|refine .z ?_|fail
 refine Lp.nat (n:=l.length) (fun n vals w'=>∃(i:Nat) (p':PS),vals=[i64 i]∧i+n=l.length∧PR B H w' p'∧M=want p' (l.drop i)∧Kp (PX B) w w') ⟨0,p,rfl,by omega,h,hM,Kp.refl _ _⟩ ?_
 rintro n _ w1 jk C ⟨i,p',rfl,hi,h1,hM1,hk⟩ hC
 have hb1:w1.heap[b]?=some (cl (l.map κs) t):=(hk.same b hbl ⟨by omega,trivial⟩).trans hb
 have hp:=h1.hp
 have hl1:=h1.lt
 have hs1:=hk.size
 rw[aO]at hp
 repeat' first|refine .x ?_|refine .y ?_|refine .z ?_|fail
 refine .split (fun hc=>?_) (fun hc=>?_)
 ·have hlt:i<l.length:=by have:=of_decide_eq_true hc;omega
  rw[List.drop_eq_getElem_cons hlt,want]at hM1
  have hx:(l.map κs)[0+i*1]?=some (κs l[i]):=by rw[Nat.zero_add,Nat.mul_one,List.getElem?_map,List.getElem?_eq_getElem hlt];rfl
  refine .s ?_
  refine Ld.s ?_ hb1 hx
  cases hw:p'.w.is l[i]with
  |true=>
   rw[hw,if_pos rfl]at hM1
   refine Jn.by (fun _ w2=>PR B H w2 p'∧Kp (PX B) w w2) (fun J hJ=>?_) ?_
   ·repeat' first|refine .x ?_|refine .y ?_|refine .z ?_|fail
    refine Cl.plain (w0:=w) (X0:=PX B) (yK w1 p'.w l[i]) (fun w2 hk2 hq hs=>?_) (by exact kpA)
    rw[hw]
    repeat' first|refine .x ?_|refine .y ?_|refine .z ?_|fail
    exact hJ _ _ ⟨h1.ext hk2,hq.out⟩
   ·rintro _ w2 jk2 ⟨h2,hk2⟩
    refine Cl.bind (w0:=w) (X0:=PX B) hM1 (qB h2) hno ?_
    rintro p2 v w3 hM3 hk3 hq3 hs3 ⟨rfl,h3⟩
    repeat' first|refine .x ?_|refine .y ?_|refine .z ?_|fail
    exact hC (n - 1) _ _ (by omega) ⟨i+1,p2,rfl,by omega,h3,hM3,hq3.out⟩
  |false=>
   rw[hw,if_neg (by decide)]at hM1
   refine Jn.by (fun _ _=>False) (fun J hJ=>?_) (fun _ _ _ hf=>hf.elim)
   repeat' first|refine .x ?_|refine .y ?_|refine .z ?_|fail
   refine Cl.plain (w0:=w) (X0:=PX B) (yK w1 p'.w l[i]) (fun w2 hk2 hq hs=>?_) (by exact kpA)
   rw[hw]
   repeat' first|refine .x ?_|refine .y ?_|refine .z ?_|fail
   refine Cl.bind (w0:=w) (X0:=PX B) (m:=(bad p':Res PS)) (k:=fun x=>.ok x) (by rw[hM1];rfl) (GZ (h1.ext hk2)) hno ?_
   rintro _ _ _ _ _ _ _ hf
   exact hf.elim
 ·have hge:i=l.length:=by have:=of_decide_eq_false hc;omega
  subst hge
  rw[List.drop_length,want]at hM1
  repeat' first|refine .x ?_|refine .y ?_|refine .z ?_|fail
  exact hok _ _ _ hM1 hk ⟨rfl,h1⟩
theorem OO{B:Nat}{H:Hp}{w:World}{p:PS}(h:PR B H w p):
  Calls P qh #[pt (B+5) 0] w (Post w (name p) [] fun x v w'=>x=p.w∧v=wdv x∧PR B H w' p):=by
 refine Post.R fun R M hM hok hno=>?_
 apply zQ
 unfold pJ
 have hp:=h.hp
 have hl:=h.lt
 rw[aO]at hp
 rw[name]at hM
 repeat' first|refine .x ?_|refine .y ?_|refine .z ?_|fail
 cases hc:p.w.kind==1 with
 |true=>
  rw[hc,if_pos rfl]at hM
  have hc':((p.w.kind:Int) != 1)=false:=by have:=beq_iff_eq.mp hc;rw[this];rfl
  refine Jn.direct ?_
  repeat' first|refine .x ?_|refine .y ?_|refine .z ?_|fail
  intro jk
  repeat' first|refine .x ?_|refine .y ?_|refine .z ?_|fail
  exact hok _ _ _ hM (by exact kpA) ⟨rfl,rfl,h.ext (by exact kpA)⟩
 |false=>
  rw[hc,if_neg (by decide)]at hM
  have hc':((p.w.kind:Int) != 1)=true:=by have:=beq_eq_false_iff_ne.mp hc;rw[bne_iff_ne];omega
  refine Jn.by (fun _ _=>False) (fun J hJ=>?_) (fun _ _ _ hf=>hf.elim)
  repeat' first|refine .x ?_|refine .y ?_|refine .z ?_|fail
  refine Cl.bind (w0:=w) (X0:=[]) (m:=(bad p:Res Wd)) (k:=fun x=>.ok x) (by rw[hM];rfl) (GZ (h.ext (by exact kpA))) hno ?_
  rintro _ _ _ _ _ _ _ hf
  exact hf.elim
theorem PR.tmp{B:Nat}{H:Hp}{w w':World}{p:PS}{a:Nat}(h:PR B H w p)(k:Kp [(a,a+1)] w w')(hB:B+6≤a)(ha:H a=none):PR B H w' p:=by
 refine h.kp k (fun i h1=>⟨by omega,trivial⟩) (fun i h1 h2=>⟨by omega,trivial⟩) (fun b x hx=>⟨?_,trivial⟩)
 by_cases e:b=a
 ·subst e;rw[ha]at hx;cases hx
 ·omega
theorem Sub.fresh{H:Hp}{w:World}{a:Nat}(h:Sub H w)(ha:w.heap.size≤a):H a=none:=by
 cases hx:H a with
 |none=>rfl
 |some x=>have:=lt_of_heap (h a x.1 x.2 hx);omega
theorem PR.names{B:Nat}{H:Hp}{w w':World}{p:PS}{l:List By}(h:PR B H w p)(k:Kp [(B+1,B+2)] w w')(hn:aF w' (B+1) l):PR B H w' { p with names:=l }:=by
 have hl:=h.lt
 have hB:=h.hB
 have hs:∀i,B≤i→i<B+6→i≠B+1→w'.heap[i]?=w.heap[i]?:=fun i a b c=>k.same i (by omega) ⟨by omega,trivial⟩
 obtain⟨b1,b2,b3,b4⟩:=h.hc
 obtain⟨d1,d2,m,d3,d4,d5⟩:=h.he
 obtain⟨f1,f2,f3,f4⟩:=h.hg
 exact { gl:=h.gl.kp k (fun i hi=>⟨by omega,trivial⟩),hB:=h.hB,sub:=h.sub.kp k (fun b x hx=>by have:=h.dom b x hx;exact⟨by omega,trivial⟩),dom:=h.dom,
         lt := by have := k.size; omega, hp := (hs _ (by omega) (by omega) (by omega)).trans h.hp, ht := (hs _ (by omega) (by omega) (by omega)).trans h.ht,
         hn := hn, hc := ⟨b1, b2, (hs _ (by omega) (by omega) (by omega)).trans b3, b4⟩,
         he := ⟨d1, d2, m, (hs _ (by omega) (by omega) (by omega)).trans d3, d4, d5⟩, hg := ⟨f1, f2, (hs _ (by omega) (by omega) (by omega)).trans f3, f4⟩,
         len := h.len, pos := h.pos, c0 := h.c0, c1 := h.c1, c2 := h.c2 }
theorem Jj{B:Nat}{H:Hp}{w:World}{p:PS}(h:PR B H w p):
  Calls P qV #[pt (B+5) 0] w (Post w (M.own p) (PX B) fun x v w'=>v=.agg #[.string (bs x.1.s),i64 x.1.at_]∧PR B H w' x.2):=by
 refine Post.R fun R M hM hok hno=>?_
 apply Bq
 unfold qI
 have hl:=h.lt
 rw[M.own]at hM
 repeat' first|refine .x ?_|refine .y ?_|refine .z ?_|fail
 have h0:=h.ext (w':=w.alloc (cl [.string ⟨#[]⟩,.int .i64 0] 194)) (by exact kpA)
 refine Cl.bind (w0:=w) (X0:=PX B) hM (OO h0) hno ?_
 rintro x v w1 hM hk1 hq1 hs1 ⟨rfl,rfl,h1⟩
 rw[size_alloc]at hs1
 unfold wdv
 have hp:=h1.hp
 rw[aO]at hp
 have hl1:=h1.lt
 repeat' first|refine .x ?_|refine .y ?_|refine .z ?_|fail
 refine Cl.bind (w0:=w) (X0:=PX B) hM (Tt _ (B+1) p.names p.w.s p.w.at_ ?_) hno ?_
 ·obtain⟨es,ck,a,b⟩:=h1.hn
  exact⟨es,ck,(aQ (by omega)).trans ((bf (by omega)).trans a),b⟩
 rintro l v w2 hM hk2 hq2 hs2 hn2
 rw[size_drew,ag,size_alloc]at hs2
 have h2:PR B H w2 { p with names:=l }:=by
  refine PR.names (w:=(ah (w1.alloc (cl [.int .i64 0,.string ⟨#[]⟩,.int .i64 0,.int .i64 0] 104)) w1.heap.size (cl [i64 p.w.kind,.string (bs p.w.s),i64 p.w.at_,i64 p.w.n] 104)).drew) ?_ hk2 hn2
  exact h1.ext (by exact kpA)
 refine Cl.bind (w0:=w) (X0:=PX B) hM (qB h2) hno ?_
 rintro p3 v w3 hM hk3 hq3 hs3 ⟨rfl,h3⟩
 repeat' first|refine .x ?_|refine .y ?_|refine .z ?_|fail
 exact hok _ _ _ hM (by exact kpA) ⟨rfl,h3.tmp (a:=w.heap.size) (by exact kpA) (by omega) (h.sub.fresh (Nat.le_refl _))⟩
theorem LK{B:Nat}{H:Hp}{w:World}{p:PS}(h:PR B H w p){s:Nat}{l:List By}(hs:B+6≤s)(hset:aF w s l):
  Calls P dM #[pt (B+5) 0,.map (some s)] w (Post w (called p l) [(B,B+6),(s,s+1)] fun x v w'=>v=wdv x.1∧aF w' s x.2.1∧PR B H w' x.2.2):=by
 refine Post.R fun R M hM hok hno=>?_
 apply mD
 unfold ik
 have hl:=h.lt
 obtain⟨es,ck,hm1,hm2⟩:=hset
 have hsl:=lt_of_heap hm1
 rw[called]at hM
 repeat' first|refine .x ?_|refine .y ?_|refine .z ?_|fail
 have h0:=h.ext (w':=w.alloc (cl [.int .i64 0,.string ⟨#[]⟩,.int .i64 0,.int .i64 0] 104)) (by exact kpA)
 refine Cl.bind (w0:=w) (X0:=[(B,B+6),(s,s+1)]) hM (OO h0) hno ?_
 rintro x v w1 hM hk1 hq1 hs1 ⟨rfl,rfl,h1⟩
 rw[size_alloc]at hs1
 unfold wdv
 have hp:=h1.hp
 rw[aO]at hp
 have hl1:=h1.lt
 repeat' first|refine .x ?_|refine .y ?_|refine .z ?_|fail
 have hm3:(ah (w1.alloc (cl [.int .i64 0,.string ⟨#[]⟩,.int .i64 0,.int .i64 0] 104)) w1.heap.size (cl [i64 p.w.kind,.string (bs p.w.s),i64 p.w.at_,i64 p.w.n] 104)).heap[s]?=some (.map es ck):=
  (aQ (by omega)).trans ((bf (by omega)).trans ((hk1.same s (by rw[size_alloc];omega) trivial).trans ((bf hsl).trans hm1)))
 refine Cl.bind (w0:=w) (X0:=[(B,B+6),(s,s+1)]) hM (Tt _ s l p.w.s p.w.at_ ⟨es,ck,hm3,hm2⟩) hno ?_
 rintro l' v w2 hM hk2 hq2 hs2 hn2
 rw[ag,size_alloc]at hs2
 have h2:PR B H w2 p:=by
  refine PR.map (w:=(ah (w1.alloc (cl [.int .i64 0,.string ⟨#[]⟩,.int .i64 0,.int .i64 0] 104)) w1.heap.size (cl [i64 p.w.kind,.string (bs p.w.s),i64 p.w.at_,i64 p.w.n] 104))) ?_ hk2 hs hm3
  exact h1.ext (by exact kpA)
 refine Cl.bind (w0:=w) (X0:=[(B,B+6),(s,s+1)]) hM (qB h2) hno ?_
 rintro p3 v w3 hM hk3 hq3 hs3 ⟨rfl,h3⟩
 obtain⟨es2,ck2,hn3,hn4⟩:=hn2
 have hs2l:=lt_of_heap hn3
 repeat' first|refine .x ?_|refine .y ?_|refine .z ?_|fail
 exact hok _ _ _ hM (by exact kpA) ⟨rfl,⟨es2,ck2,(aQ (by omega)).trans ((hk3.same s (by omega) ⟨by omega,trivial⟩).trans hn3),hn4⟩,h3.tmp (a:=w.heap.size) (by exact kpA) (by omega) (h.sub.fresh (Nat.le_refl _))⟩
end Go.W.T
namespace Go.W.T
open Go Go.W Go.M Go.Proofs
theorem ku{α β γ:Type}[BEq α](f:β→γ)(l:List (α×β))(a:α):(l.map fun x=>(x.1,f x.2)).lookup a=(l.lookup a).map f:=by
 induction l with
 |nil=>rfl
 |cons c r ih=>
  obtain⟨k,v⟩:=c
  simp only[List.map_cons,List.lookup_cons]
  cases a==k with
  |true=>rfl
  |false=>exact ih
def AX{σ:Type}(kv:Value)(kf:Int→Nat→Res σ)(I:World→Prop)(I':σ→World→Prop)(X:List (Nat×Nat)):Prop:=
 (kv=.nilFunc∧∃s,(∀n a,kf n a=.ok s)∧∀w,I w→I' s w) ∨
 (isNil .fn kv=some false∧∀(w:World) (n:Int) (a:Nat) (E:KE) (K:KV),I w →
  (∀s v w',kf n a=.ok s→Kp X w w'→w.heap.size≤w'.heap.size→I' s w'→K v w')→(∀e c ch w',kf n a=.no e c→Kp X w w'→Flt e c ch w'→E ch w')→eY P kv #[.int .i64 n,i64 a] w E K)
theorem zf{σ:Type}{B:Nat}{H:Hp}{w:World}{p:PS}(h:PR B H w p)(lo hi:Int)(kv:Value)(kf:Int→Nat→Res σ)(I:World→Prop)(I':σ→World→Prop)(X:List (Nat×Nat))
  (upd:σ→PS→PS)
  (hI:I w) (hIs:∀w1 w2,I w1→Kp [] w1 w2→I w2) (hkeep:AX kv kf I I' X)
  (hup:∀s w',I' s w'→PR B H w' (upd s p)) (WX:∀s,advance (upd s p)=(advance p).andThen fun q=>.ok (upd s q)):
  Calls P iK #[pt (B+5) 0,i64 lo,i64 hi,kv] w (Post w (value p lo hi kf) ((B,B+6)::X) fun x v w'=>v=.int .i64 x.1∧PR B H w' (upd x.2.1 x.2.2)∧∃w1,I' x.2.1 w1∧Kp (PX B) w1 w'):=by
 refine Post.R fun R M hM hok hno=>?_
 apply yL
 unfold nD
 have hp:=h.hp
 rw[aO]at hp
 have hl:=h.lt
 rw[value]at hM
 repeat' first|refine .x ?_|refine .y ?_|refine .z ?_|fail
 have hA:Kp [] w (ah (w.alloc (cl [.int .i64 0,.string ⟨#[]⟩,.int .i64 0,.int .i64 0] 104)) w.heap.size (cl [i64 p.w.kind,.string (bs p.w.s),i64 p.w.at_,i64 p.w.n] 104)):=by exact kpA
 have hAb:(ah (w.alloc (cl [.int .i64 0,.string ⟨#[]⟩,.int .i64 0,.int .i64 0] 104)) w.heap.size (cl [i64 p.w.kind,.string (bs p.w.s),i64 p.w.at_,i64 p.w.n] 104)).heap[w.heap.size]?=some (cl [i64 p.w.kind,.string (bs p.w.s),i64 p.w.at_,i64 p.w.n] 104):=aj rfl (by simp only[size_alloc];omega)
 generalize ah (w.alloc (cl [.int .i64 0,.string ⟨#[]⟩,.int .i64 0,.int .i64 0] 104)) w.heap.size (cl [i64 p.w.kind,.string (bs p.w.s),i64 p.w.at_,i64 p.w.n] 104)=wA at *
 have hAs:=lt_of_heap hAb
 have hdf:∀{w1:World},Kp [] w w1→Kp ((B,B+6)::X) w w1:=fun k=>k.any
 refine Jn.by (fun vals w1=>∃n,vals=[.int .i64 n]∧zG p=.ok n∧Kp [] w w1∧w1.heap[w.heap.size]?=some (cl [i64 p.w.kind,.string (bs p.w.s),i64 p.w.at_,i64 p.w.n] 104)) (fun J hJ=>?_) ?_
 ·have hM0:∀e a,zG p=.no e a→M=.no e a:=fun e a he=>by rw[hM,he];rfl
  rw[zG]at hJ hM0
  cases h3:p.w.kind==3 with
  |true=>
   rw[h3]at hJ
   have h3':((p.w.kind:Int)==3)=true:=by have:=beq_iff_eq.mp h3;rw[this];rfl
   repeat' first|refine .x ?_|refine .y ?_|refine .z ?_|fail
   exact hJ _ _ ⟨_,rfl,rfl,hA,hAb⟩
  |false=>
   rw[h3]at hJ hM0
   have h3':((p.w.kind:Int)==3)=false:=by have:=beq_eq_false_iff_ne.mp h3;rw[beq_eq_false_iff_ne];omega
   simp only[Bool.false_eq_true,if_false]at hJ hM0
   repeat' first|refine .x ?_|refine .y ?_|refine .z ?_|fail
   refine Cl.plain (w0:=w) (X0:=[]) (yK wA p.w [84,82,85,69]) (fun w1 hk1 hq1 hs1=>?_) (by exact kpA)
   have hb1:w1.heap[w.heap.size]?=_:=(hk1.same _ hAs trivial).trans hAb
   refine .split (fun hT=>?_) (fun hT=>?_)
   ·rw[hT,if_pos rfl]at hJ
    exact hJ _ _ ⟨1,rfl,rfl,hq1.out,hb1⟩
   ·rw[hT,if_neg (by decide)]at hJ hM0
    repeat' first|refine .x ?_|refine .y ?_|refine .z ?_|fail
    refine Cl.plain (w0:=w) (X0:=[]) (yK w1 p.w [70,65,76,83,69]) (fun w2 hk2 hq2 hs2=>?_) (by exact kpA)
    have hb2:w2.heap[w.heap.size]?=_:=(hk2.same _ (by omega) trivial).trans hb1
    refine .split (fun hF=>?_) (fun hF=>?_)
    ·rw[hF,if_pos rfl]at hJ
     exact hJ _ _ ⟨0,rfl,rfl,hq2.out,hb2⟩
    ·rw[hF,if_neg (by decide)]at hJ hM0
     have hp2:w2.heap[B+5]?=_:=(hq2.out.same _ (by omega) trivial).trans hp
     cases h1:p.w.kind==1 with
     |true=>
      rw[h1,if_pos rfl]at hJ hM0
      have h1':((p.w.kind:Int)==1)=true:=by have:=beq_iff_eq.mp h1;rw[this];rfl
      obtain⟨es,ck,hc1,hc2⟩:=h.hc
      have hc3:w2.heap[B+2]?=_:=(hq2.out.same _ (by omega) trivial).trans hc1
      repeat' first|refine .x ?_|refine .y ?_|refine .z ?_|fail
      refine Lk.str hc2 hc3 ?_
      rw[ku i64 p.consts p.w.s]
      cases hv:p.consts.lookup p.w.s with
      |none=>
       rw[hv]at hM0
       repeat' first|refine .x ?_|refine .y ?_|refine .z ?_|fail
       refine Jn.by (fun _ _=>False) (fun J2 hJ2=>?_) (fun _ _ _ hf=>hf.elim)
       repeat' first|refine .x ?_|refine .y ?_|refine .z ?_|fail
       exact Cl.fail (hM0 _ _ rfl) hno (hdf (by exact kpA))
      |some v=>
       rw[hv]at hJ
       repeat' first|refine .x ?_|refine .y ?_|refine .z ?_|fail
       refine Jn.direct ?_
       repeat' first|refine .x ?_|refine .y ?_|refine .z ?_|fail
       refine If.f ?_ rfl
       exact fun _=>hJ _ _ ⟨v,rfl,rfl,hq2.out.drew,hb2⟩
     |false=>
      rw[h1,if_neg (by decide)]at hM0
      have h1':((p.w.kind:Int)==1)=false:=by have:=beq_eq_false_iff_ne.mp h1;rw[beq_eq_false_iff_ne];omega
      repeat' first|refine .x ?_|refine .y ?_|refine .z ?_|fail
      refine Cl.bind (w0:=w) (X0:=(B,B+6)::X) (m:=(bad p:Res Unit)) (k:=fun _=>M) (by rw[hM0 _ _ rfl];rfl) (GZ (h.ext hq2.out)) hno ?_ (hdf (by exact kpA)) (fun _ _ _=>trivial)
      rintro _ _ _ _ _ _ _ hf
      exact hf.elim
 ·rintro _ w1 jk ⟨n,rfl,hn,hk1,hb1⟩
  rw[hn]at hM
  simp only[Res.dw]at hM
  have hs1:=lt_of_heap hb1
  have h1:=h.ext hk1
  have hat:∀w2,Kp [] w1 w2→w2.heap[w.heap.size]?=some (cl [i64 p.w.kind,.string (bs p.w.s),i64 p.w.at_,i64 p.w.n] 104):=fun w2 k=>(k.same _ hs1 trivial).trans hb1
  refine .s ?_
  by_cases hr:n<lo∨hi<n
  ·rw[if_pos hr]at hM
   refine Jn.by (fun _ _=>False) (fun J2 hJ2=>?_) (fun _ _ _ hf=>hf.elim)
   by_cases hlo:n<lo
   ·have hlo':decide (n<lo)=true:=decide_eq_true hlo
    repeat' first|refine .x ?_|refine .y ?_|refine .z ?_|fail
    exact Cl.fail hM hno (hdf hk1)
   ·have hlo':decide (n<lo)=false:=decide_eq_false hlo
    have hhi':decide (n>hi)=true:=decide_eq_true (by omega)
    repeat' first|refine .x ?_|refine .y ?_|refine .z ?_|fail
    exact Cl.fail hM hno (hdf hk1)
  ·rw[if_neg hr]at hM
   have hlo':decide (n<lo)=false:=decide_eq_false (by omega)
   have hhi':decide (n>hi)=false:=decide_eq_false (by omega)
   refine Jn.direct ?_
   repeat' first|refine .x ?_|refine .y ?_|refine .z ?_|fail
   intro jk2
   have rest:∀s w2,kf n p.w.at_=.ok s→Kp ((B,B+6)::X) w w2→I' s w2→Cl P ja #[pt (B+5) 0] w2 (pE R) fun x70 w71=>R (.returned (.int .i64 n)) w71:=by
    intro s w2 hs hkw hi2
    rw[hs]at hM
    simp only[Res.dw]at hM
    have hkn:∀{w3:World} {Y:List (Nat×Nat)},Kp Y w2 w3→(∀i,Out (PX B) i→Out Y i)→Kp ((B,B+6)::X) w w3:=fun k hy=>hkw.trans k fun i hi ho=>⟨ho,hy i ⟨ho.1,trivial⟩⟩
    cases ha:advance p with
    |no e a=>
     rw[ha]at hM
     refine Cl.eX (w0:=w) (X0:=(B,B+6)::X) (m:=advance (upd s p)) (k:=fun _=>M) (by rw[WX,ha,hM];rfl) (qB (hup s w2 hi2)) hno ?_ hkw (fun i hi ho=>⟨ho.1,trivial⟩)
     intro q v w3 hq
     rw[WX,ha]at hq;cases hq
    |ok q=>
     rw[ha]at hM
     refine Cl.eX (w0:=w) (X0:=(B,B+6)::X) (m:=advance (upd s p)) (k:=fun _=>M) (by rw[WX,ha];rfl) (qB (hup s w2 hi2)) hno ?_ hkw (fun i hi ho=>⟨ho.1,trivial⟩)
     rintro q' v w3 hq _ hk3 hq3 hs3 ⟨rfl,hp3⟩
     rw[WX,ha]at hq
     cases hq
     exact hok _ _ _ hM hq3.out ⟨rfl,hp3,w2,hi2,hk3⟩
   have hI1:I w1:=hIs _ _ hI hk1
   rcases hkeep with⟨hkv,s,hks,hI'⟩|⟨hkv,hcall⟩
   ·subst hkv
    refine Jn.direct ?_
    repeat' first|refine .x ?_|refine .y ?_|refine .z ?_|fail
    intro jk3
    exact rest s w1 (hks n _) (hdf hk1) (hI' _ hI1)
   ·refine Jn.by (fun _ w2=>∃s,kf n p.w.at_=.ok s∧Kp ((B,B+6)::X) w w2∧I' s w2) (fun J2 hJ2=>?_) ?_
    ·refine En.s ?_ hkv
     repeat' first|refine .x ?_|refine .y ?_|refine .z ?_|fail
     refine hcall w1 n p.w.at_ _ _ hI1 (fun s v w2 hs hk2 hs2 hi2=>?_) (fun e c ch w2 hs hk2 hf=>?_)
     ·exact hJ2 _ _ ⟨s,hs,hk1.trans hk2 fun i hi ho=>⟨trivial,ho.2⟩,hi2⟩
     ·exact hno e c ch w2 (by rw[hM,hs];rfl) (hk1.trans hk2 fun i hi ho=>⟨trivial,ho.2⟩) hf
    ·rintro _ w2 jk3 ⟨s,hs,hk2,hi2⟩
     exact rest s w2 hs hk2 hi2
theorem GV{B:Nat}{H:Hp}{w:World}{p:PS}(h:PR B H w p)(lo hi:Int):
  Calls P iK #[pt (B+5) 0,i64 lo,i64 hi,.nilFunc] w (Post w (value p lo hi wU) (PX B) fun x v w'=>v=.int .i64 x.1∧PR B H w' x.2.2):=by
 refine(zf h lo hi .nilFunc wU (fun w'=>PR B H w' p) (fun _ w'=>PR B H w' p) [] (fun _ q=>q) h (fun _ _ a k=>a.ext k) (Or.inl ⟨rfl,(),fun _ _=>rfl,fun _ a=>a⟩) (fun _ _ a=>a) (fun _=>by cases advance p<;>rfl)).mono ?_
 rintro e w' ⟨hk,hm⟩
 refine⟨hk,?_⟩
 cases hv:value p lo hi wU with
 |ok x=>rw[hv]at hm;obtain⟨v,h1,h2,h3,_⟩:=hm;exact⟨v,h1,h2,h3⟩
 |no e a=>rw[hv]at hm;exact hm
theorem PN(a b c:Value)(s:ByteArray)(w:World):(Instr.field Dl (.agg #[a,.string s,b,c]) 1).run P w=.ok (.string s) w:=by kernel_rfl
theorem JW{B:Nat}{H:Hp}{w:World}{p:PS}(h:PR B H w p){s:Nat}{l:List By}(hs:B+6≤s)(hset:aF w s l):
  Calls P oh #[pt (B+5) 0,.map (some s)] w (Post w (called p l) [(B,B+6),(s,s+1)] fun x v w'=>v=.string (bs x.1.s)∧aF w' s x.2.1∧PR B H w' x.2.2):=by
 refine Post.R fun R M hM hok hno=>?_
 apply yP
 unfold nK
 refine Cl.bind (w0:=w) (X0:=[(B,B+6),(s,s+1)]) (m:=called p l) (k:=fun x=>.ok x) (by rw[hM];cases called p l<;>rfl) (LK h hs hset) hno ?_
 rintro x v w1 hM hk hq hs1 ⟨rfl,h2,h3⟩
 refine bY.by (PN _ _ _ _ _) ?_
 exact hok _ _ _ hM hq.out ⟨rfl,h2,h3⟩
def Gr(H H':Hp)(n:Nat):Prop:=Hle H H'∧∀b x,H' b=some x→H b=some x∨n≤b
theorem Gr.refl(H:Hp)(n:Nat):Gr H H n:=⟨Hle.refl H,fun _ _ h=>Or.inl h⟩
theorem Gr.trans{a b c:Hp}{n m:Nat}(h:Gr a b n)(k:Gr b c m)(hm:n≤m):Gr a c n:=
 ⟨h.1.trans k.1,fun i x hx=>by
  rcases k.2 i x hx with h1|h1
  ·exact h.2 i x h1
  ·exact Or.inr (by omega)⟩
theorem Gr.lacks{H H':Hp}{n a:Nat}(h:Gr H H' n)(ha:H a=none)(hn:a<n):H' a=none:=by
 cases hx:H' a with
 |none=>rfl
 |some x=>
  rcases h.2 a x hx with h1|h1
  ·rw[ha]at h1;cases h1
  ·omega
def hadd(H:Hp)(b:Nat)(l:List Value)(t:TypeId):Hp:=fun i=>if i=b then some (l,t)else H i
theorem Bf(H:Hp)(b:Nat)(l:List Value)(t:TypeId):hadd H b l t b=some (l,t):=by simp[hadd]
theorem Gr.add{H:Hp}{b n:Nat}{l:List Value}{t:TypeId}(hb:H b=none)(hn:n≤b):Gr H (hadd H b l t) n:=
 ⟨fun i x hx=>by
   unfold hadd
   split
   ·rename_i e;rw[e,hb]at hx;cases hx
   ·exact hx,
  fun i x hx=>by
   unfold hadd at hx
   split at hx
   ·exact Or.inr (by omega)
   ·exact Or.inl hx⟩
theorem PR.add{B:Nat}{H:Hp}{w:World}{p:PS}{b:Nat}{l:List Value}{t:TypeId}(h:PR B H w p)(hb:w.heap[b]?=some (cl l t))(hB:B+6≤b)(hn:H b=none):PR B (hadd H b l t) w p:=by
 obtain⟨e3,c3,m,l1,l2,l3⟩:=h.he
 exact { h with
  sub:=fun i l' t' hi=>by
   unfold hadd at hi
   split at hi
   ·rename_i e;cases hi;rw[e];exact hb
   ·exact h.sub i l' t' hi
  dom:=fun i x hx=>by
   unfold hadd at hx
   split at hx
   ·omega
   ·exact h.dom i x hx
  he:=⟨e3,c3,m,l1,l2,fZ.le (Gr.add (n:=0) hn (Nat.zero_le _)).1 l3⟩ }
def iM(H:Hp):Ty→Value→Prop
 |.basic s,v=>v=.iface Ho (.string (bs s))
 |.named s a,v=>∃b,v=.iface EC (pt b 0)∧H b=some ([.string (bs s),i64 a],zi)
 |.bytes t f n,v=>v=.iface Hm (.agg #[.bool t,.bool f,i64 n])
 |.array ty f n,v=>∃u,v=.iface rY (.agg #[u,.bool f,i64 n])∧iM H ty u
 |.opt ty,v=>∃u,v=.iface lU (.agg #[u])∧iM H ty u
 |.void,v=>v=.iface I7 (.agg #[])
theorem iM.le{H H':Hp}(k:Hle H H'):∀{t:Ty} {v:Value},iM H t v→iM H' t v
 |.basic _,_,h=>h
 |.named _ _,_,⟨b,h1,h2⟩=>⟨b,h1,k _ _ h2⟩
 |.bytes ..,_,h=>h
 |.array ..,_,⟨u,h1,h2⟩=>⟨u,h1,iM.le k h2⟩
 |.opt _,_,⟨u,h1,h2⟩=>⟨u,h1,iM.le k h2⟩
 |.void,_,h=>h
theorem iM.form{H:Hp}{t:Ty}{v:Value}(h:iM H t v):∃a b,v=.iface a b:=by
 cases t with
 |basic s=>exact⟨_,_,h⟩
 |named s a=>obtain⟨b,h1,_⟩:=h;exact⟨_,_,h1⟩
 |bytes a b c=>exact⟨_,_,h⟩
 |array a b c=>obtain⟨u,h1,_⟩:=h;exact⟨_,_,h1⟩
 |opt a=>obtain⟨u,h1,_⟩:=h;exact⟨_,_,h1⟩
 |void=>exact⟨_,_,h⟩
theorem Ti{B:Nat}{H:Hp}{w:World}{p:PS}(h:PR B H w p):
  Calls P qi #[pt (B+5) 0] w (Post w (kindOf p) (PX B) fun x v w'=>∃H',Gr H H' w.heap.size∧iM H' x.1 v∧PR B H' w' x.2):=by
 refine Post.R fun R M hM hok hno=>?_
 apply zS
 unfold pK
 have hp:=h.hp
 have hl:=h.lt
 rw[aO]at hp
 rw[kindOf]at hM
 repeat' first|refine .x ?_|refine .y ?_|refine .z ?_|fail
 have hA:Kp [] w (ah (w.alloc (cl [.int .i64 0,.string ⟨#[]⟩,.int .i64 0,.int .i64 0] 104)) w.heap.size (cl [i64 p.w.kind,.string (bs p.w.s),i64 p.w.at_,i64 p.w.n] 104)):=by exact kpA
 have hAb:(ah (w.alloc (cl [.int .i64 0,.string ⟨#[]⟩,.int .i64 0,.int .i64 0] 104)) w.heap.size (cl [i64 p.w.kind,.string (bs p.w.s),i64 p.w.at_,i64 p.w.n] 104)).heap[w.heap.size]?=some (cl [i64 p.w.kind,.string (bs p.w.s),i64 p.w.at_,i64 p.w.n] 104):=aj rfl (by simp only[size_alloc];omega)
 generalize ah (w.alloc (cl [.int .i64 0,.string ⟨#[]⟩,.int .i64 0,.int .i64 0] 104)) w.heap.size (cl [i64 p.w.kind,.string (bs p.w.s),i64 p.w.at_,i64 p.w.n] 104)=wA at *
 have hAs:=lt_of_heap hAb
 have h0:=h.ext hA
 cases h1:p.w.kind==1 with
 |true=>
  rw[h1,if_pos rfl]at hM
  have h1':((p.w.kind:Int)==1)=true:=by have:=beq_iff_eq.mp h1;rw[this];rfl
  repeat' first|refine .x ?_|refine .y ?_|refine .z ?_|fail
  refine Cl.bind (w0:=w) (X0:=PX B) hM (qB h0) hno ?_
  rintro q v w1 hM hk1 hq1 hs1 ⟨rfl,hp1⟩
  repeat' first|refine .x ?_|refine .y ?_|refine .z ?_|fail
  have hp2:=hp1.ext (w':=w1.alloc (cl [.string (bs p.w.s),i64 p.w.at_] 229)) (by exact kpA)
  have hnew:H w1.heap.size=none:=hp1.sub.fresh (Nat.le_refl _)
  have hl1:=hp1.lt
  exact hok _ _ _ hM (by exact kpA) ⟨_,Gr.add (b:=w1.heap.size) hnew (by omega),⟨_,rfl,Bf ..⟩,hp2.add (aK ..) (by omega) hnew⟩
 |false=>
  rw[h1,if_neg (by decide)]at hM
  have h1':((p.w.kind:Int)==1)=false:=by have:=beq_eq_false_iff_ne.mp h1;rw[beq_eq_false_iff_ne];omega
  repeat' first|refine .x ?_|refine .y ?_|refine .z ?_|fail
  refine Cl.bind (w0:=w) (X0:=PX B) hM (gu h0 [105,110,116]) hno ?_
  rintro⟨b1,q1⟩ v w1 hM hk1 hq1 hs1 ⟨rfl,hp1⟩
  cases b1 with
  |true=>repeat' (first|refine .x ?_|refine .y ?_|refine .z ?_|fail);exact hok _ _ _ hM hq1.out ⟨H,Gr.refl _ _,rfl,hp1⟩
  |false=>
  repeat' first|refine .x ?_|refine .y ?_|refine .z ?_|fail
  refine Cl.bind (w0:=w) (X0:=PX B) hM (gu hp1 [104,121,112,101,114]) hno ?_
  rintro⟨b2,q2⟩ v w2 hM hk2 hq2 hs2 ⟨rfl,hp2⟩
  cases b2 with
  |true=>repeat' (first|refine .x ?_|refine .y ?_|refine .z ?_|fail);exact hok _ _ _ hM hq2.out ⟨H,Gr.refl _ _,rfl,hp2⟩
  |false=>
  repeat' first|refine .x ?_|refine .y ?_|refine .z ?_|fail
  refine Cl.bind (w0:=w) (X0:=PX B) hM (gu hp2 [98,111,111,108]) hno ?_
  rintro⟨b3,q3⟩ v w3 hM hk3 hq3 hs3 ⟨rfl,hp3⟩
  cases b3 with
  |true=>repeat' (first|refine .x ?_|refine .y ?_|refine .z ?_|fail);exact hok _ _ _ hM hq3.out ⟨H,Gr.refl _ _,rfl,hp3⟩
  |false=>
  repeat' first|refine .x ?_|refine .y ?_|refine .z ?_|fail
  refine Cl.bind (w0:=w) (X0:=PX B) hM (gu hp3 [117,110,115,105,103,110,101,100]) hno ?_
  rintro⟨b4,q4⟩ v w4 hM hk4 hq4 hs4 ⟨rfl,hp4⟩
  cases b4 with
  |true=>
   repeat' first|refine .x ?_|refine .y ?_|refine .z ?_|fail
   refine Cl.bind (w0:=w) (X0:=PX B) hM (gu hp4 [104,121,112,101,114]) hno ?_
   rintro⟨b5,q5⟩ v w5 hM hk5 hq5 hs5 ⟨rfl,hp5⟩
   cases b5 with
   |true=>repeat' (first|refine .x ?_|refine .y ?_|refine .z ?_|fail);exact hok _ _ _ hM hq5.out ⟨H,Gr.refl _ _,rfl,hp5⟩
   |false=>
   repeat' first|refine .x ?_|refine .y ?_|refine .z ?_|fail
   refine Cl.bind (w0:=w) (X0:=PX B) hM (gu hp5 [105,110,116]) hno ?_
   rintro⟨b6,q6⟩ v w6 hM hk6 hq6 hs6 ⟨rfl,hp6⟩
   exact hok _ _ _ hM hq6.out ⟨H,Gr.refl _ _,rfl,hp6⟩
  |false=>
   repeat' first|refine .x ?_|refine .y ?_|refine .z ?_|fail
   refine Cl.bind (w0:=w) (X0:=PX B) (m:=(bad q4:Res (Ty×PS))) (k:=fun x=>.ok x) (by rw[hM];rfl) (GZ hp4) hno ?_
   rintro _ _ _ _ _ _ _ hf
   exact hf.elim
end Go.W.T
