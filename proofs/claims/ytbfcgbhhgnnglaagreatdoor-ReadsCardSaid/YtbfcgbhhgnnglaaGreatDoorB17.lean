/- Texts of mine, one behind the other; nothing is assumed. -/
import Derived.Test.YtbfcgbhhgnnglaaGreatDoorB12
import Derived.Lib.OthersKept
import Derived.Laws.RangeAny
import Derived.Lib.ConvBytes
import Derived.Test.YtbfcgbhhgnnglaaGreatDoorB08
set_option autoImplicit true
set_option relaxedAutoImplicit true
set_option linter.unusedSimpArgs false
set_option linter.unusedVariables false
set_option maxRecDepth 100000
namespace Go.W.T
open Go Go.W Go.M Go.Proofs
theorem nP:∀(x a:By),starts x a=(decide (x.length<=a.length)&&a.take x.length==x)
 |[],a=>by simp[starts]
 |c::x,[]=>by simp[starts]
 |c::x,d::a=>by
  rw[starts,nP x a];simp only[List.length_cons,List.take_succ_cons,List.cons_beq_cons,Nat.add_le_add_iff_right];rw[Bool.eq_iff_iff];simp only[Bool.and_eq_true,beq_iff_eq,decide_eq_true_eq];constructor
  .rintro⟨rfl,h,h2⟩;exact⟨h,rfl,h2⟩
  .rintro⟨h,rfl,h2⟩;exact⟨rfl,h,h2⟩
theorem Fq(w:World)(a x:By):Calls P 226 #[.string (bs a),.string (bs x)] w λen w'=>en=.returned (.bool (starts x a))/\w'=w:=by
 have hR:∀b,b=starts x a->(λen w'=>en=.returned (.bool (starts x a))/\w'=w:Ending->World->Prop) (.returned (.bool b)) w:=λb h=>⟨by rw[h],rfl⟩;generalize (λen w'=>en=.returned (.bool (starts x a))/\w'=w:Ending->World->Prop)=R at *;refine cf [] Tryz.func226 ?_;refine gg ?_;refine .split (λh=>?_) (λh=>?_)
 .have h':x.length<=a.length:=by simpa using h
  refine gg ?_;refine hR _ ?_;rw[nP];simp[h']
 .have h':¬ x.length<=a.length:=by simpa using h
  refine gg ?_;refine hR _ ?_;rw[nP];simp[h']
theorem Fv(w:World)(a x:By):Calls P 199 #[.string (bs a),.string (bs x)] w λen w'=>en=.returned (.bool (starts x a))/\w'=w:=by
 refine cf [] Tryz.func199 ?_;exact Cl.same (Fq w a x) ⟨rfl,rfl⟩
theorem wH(s:By):eX s=if starts [45] s then s.drop 1 else s:=by
 match s with
 |[]=>rfl
 |c::r=>
  by_cases h:c=45
  .subst h;rfl
  .have:starts [45] (c::r)=false:=by
    rw[starts,starts];simp only[Bool.and_true,beq_eq_false_iff_ne];exact λe=>h e.symm
   rw[this];unfold eX;split
   .rename_i h2;exact absurd (by injection h2) h
   .rfl
theorem MV(w:World)(a:By):Calls P 201 #[.string (bs a),.string (bs [45])] w λen w'=>en=.returned (.string (bs (eX a)))/\w'=w:=by
 refine cf [] Tryz.func201 ?_;refine Cl.same (x:=.string (bs (eX a))) ?_ ⟨rfl,rfl⟩;have hR:∀b,b=eX a->(λen w'=>en=.returned (.string (bs (eX a)))/\w'=w:Ending->World->Prop) (.returned (.string (bs b))) w:=λb h=>⟨by rw[h],rfl⟩;generalize (λen w'=>en=.returned (.string (bs (eX a)))/\w'=w:Ending->World->Prop)=R at *;refine cf [] Tryz.func228 ?_;refine Cl.same (Fq w a [45]) ?_;have hl:starts [45] a=true->1<=a.length:=by rw[nP];intro h;simp at h;exact h.1
 refine .split (λh=>?_) (λh=>?_)
 .have:=hl h;refine gg ?_;exact hR _ (by rw[wH,h];rfl)
 .exact hR _ (by rw[wH,h];rfl)
theorem acF(x l:By):∀{n:Nat},find x l=some n->n+x.length<=l.length:=by
 induction l with
 |nil=>intro n h;cases x<;>simp[find]at h;subst h;simp
 |cons c r ih=>
  intro n h;unfold find at h;split at h
  .rename_i hs;rw[nP]at hs;simp only[Bool.and_eq_true,decide_eq_true_eq]at hs;cases h;omega
  .cases hf:find x r with
   |none=>rw[hf]at h;cases h
   |some k=>rw[hf]at h;have:=ih hf;simp only[Option.map_some,Option.some.injEq]at h;subst h;simp only[List.length_cons];omega
theorem xX:∀(x a:By),x.isPrefixOf a=starts x a
 |[],_=>by simp[starts]
 |_::_,[]=>by simp[starts,List.isPrefixOf]
 |c::x,d::a=>by rw[List.isPrefixOf,starts,xX x a]
theorem Js(l x:By):Lib.index l x=match find x l with|some n=>(n:Int)|none => -1:=by
 induction l with
 |nil=>cases x<;>rfl
 |cons c r ih=>
  rw[Lib.index,xX];unfold find;cases starts x (c::r)with
  |true=>rfl
  |false=>
   simp only[Bool.false_eq_true,if_false,ih];cases find x r with
   |none=>rfl
   |some n=>simp only[Option.map_some];rw[if_neg smp];rfl
theorem aa2(hg:Gl w)(a x:By)(ha:a.length<4294967281):Calls P 200 #[.string (bs a),.string (bs x)] w λen w'=>en=.returned (.int .i64 (match find x a with|some n=>(n:Int)|none => -1))/\w'=w:=by
 obtain⟨m,hm⟩:=hg.maxLen;rw[<- Js];exact Tryz.strings_Index (bs a) (bs x) m w (by rw[jO];exact ha) hm
theorem Ti(hg:Gl w)(a x:By)(ha:a.length<4294967281):Calls P 163 #[.string (bs a),.string (bs x)] w λen w'=>en=.returned (.bool (contains a x))/\w'=w:=by
 obtain⟨m,hm⟩:=hg.maxLen;have:contains a x=Lib.contains a x:=by
  unfold Lib.contains contains;rw[Js];cases find x a with
  |none=>rfl
  |some n=>simp
 rw[this];exact Tryz.strings_Contains (bs a) (bs x) m w (by rw[jO];exact ha) hm
theorem tC(l:By)(c:UInt8):decide (0<=Lib.indexByte l c)=l.contains c:=by
 induction l with
 |nil=>rfl
 |cons b r ih=>
  rw[Lib.indexByte,List.contains_cons];cases hb:b==c with
  |true=>have:c=b:=by simpa using (beq_iff_eq.mp hb).symm
         simp [this]
  |false=>
   have:(c==b)=false:=by rw[beq_eq_false_iff_ne]at *;exact λe=>hb e.symm
   rw[this,Bool.false_or,<- ih];simp only[Bool.false_eq_true,if_false]
   by_cases h:Lib.indexByte r c = -1
   .simp[h]
   .have:=Lib.indexByte_ge r c;rw[if_neg (by simpa using h)];have h1:0<=Lib.indexByte r c:=omg;simp[h1];omega
theorem Ph(w:World)(a:By)(c:UInt8):Calls P 164 #[.string (bs a),.int .u8 c.toNat] w λen w'=>(∃n,en=.returned (.int .i64 n)/\decide (0<=n)=a.contains c)/\w'=w:=by
 refine(Tryz.strings_IndexByte (bs a) c.toNat w).mono ?_;rintro e w' ⟨rfl,rfl⟩;refine⟨⟨_,rfl,?_⟩,rfl⟩;rw[<- tC];simp
theorem Ib(w:World)(a:By):Calls P 202 #[.string (bs a),.int .i32 95] w λen w'=>en=.returned (.bool (a.contains 95))/\w'=w:=by
 refine(Tryz.strings_ContainsRune_ascii (bs a) 95 w dcd dcd).mono ?_;rintro e w' ⟨rfl,rfl⟩;refine⟨?_,rfl⟩;rw[<- tC];rfl
def vM(r:Int):Bool:=decide (r<128)&&eP r.toNat.toUInt8
theorem Ze:((List.range 128).all λc=>(Lib.isLetterL (c:Nat)||Lib.isDigitL (c:Nat)||decide (c=95))==eP c.toUInt8)=true:=by decide +kernel
theorem SX(hg:Gl w)(r:Nat):Calls P 162 #[.int .i32 r] w λen w'=>en=.returned (.bool (vM r))/\w'=w:=by
 have hR:∀b,b=vM r->(λen w'=>en=.returned (.bool (vM r))/\w'=w:Ending->World->Prop) (.returned (.bool b)) w:=λb h=>⟨by rw[h],rfl⟩;generalize (λen w'=>en=.returned (.bool (vM r))/\w'=w:Ending->World->Prop)=R at *;refine cf [] Tryz.func162 ?_;refine gg ?_;refine .split (λh=>?_) (λh=>?_)
 .have h':r<128:=by have:=of_decide_eq_true h;omega
  have hp:(Lib.isLetterL r||Lib.isDigitL r||decide (r=95))=eP r.toUInt8:=eq_of_beq (List.all_eq_true.mp Ze r (List.mem_range.mpr h'));have hq:vM r=eP r.toUInt8:=by unfold vM;rw[decide_eq_true omg];rfl
  refine gg ?_;refine Cl.same (Tryz.unicode_IsLetter r w omg hg.props) ?_;have hD:∀K:KV,K (.bool (Lib.isDigitL r)) w->Cl P 205 #[.int .i32 r] w (pE R) K:=λK h=>Cl.same (Tryz.unicode_IsDigit r w omg) h
  repeat' (first|refine .a ?_|refine .s ?_|refine .t ?_|refine .f ?_|apply hD|((first|apply If.split|apply Gd.split|apply Gd.split')<;>intro _))
  all_goals (refine hR _ ?_;rw[hq,<- hp])
  all_goals (first|(simp_all;done)|(simp_all;rw[<- hp];by_cases h9:r=95<;>simp[h9];omega))
 .refine gg ?_;refine hR _ ?_;unfold vM;rw[decide_eq_false (by have:=of_decide_eq_false h;omega)];rfl
theorem Yo:P.underlying 9=some .string:=by kernel_rfl
theorem LX(h:eP c=true):c.toNat<128:=by
 simp only[eP,letter,digit,Bool.or_eq_true,Bool.and_eq_true,decide_eq_true_eq,beq_iff_eq,UInt8.le_iff_toNat_le]at h;rcases h with((⟨_,h⟩|⟨_,h⟩)|⟨_,h⟩)|h
 .exact Nat.lt_of_le_of_lt h dcd
 .exact Nat.lt_of_le_of_lt h dcd
 .exact Nat.lt_of_le_of_lt h dcd
 .subst h;decide
theorem zQ:∀(l:By) (k:Nat),(∀j,j<k->∃c,l[j]?=some c/\eP c=true)->(∀c,l[k]?=some c->eP c=false)->k<=l.length->aY l=k
 |[],k,_,_,h=>by simp at h;subst h;rfl
 |c::r,0,_,h,_=>by
  have:=h c rfl;simp[aY,this]
 |c::r,k+1,h1,h2,h3=>by
  obtain⟨c',hc,hp⟩:=h1 0 omg;cases hc;rw[aY,if_pos hp,zQ r k (λj hj=>by have:=h1 (j+1) omg;simpa using this) (λc hc=>h2 c (by simpa using hc)) (by simp at h3;omega)]
theorem w_run(hg:Gl w)(l:By)(hl:l.length<=2000):Calls P 160 #[.string (bs l)] w λen w'=>en=.returned (.int .i64 (aY l))/\Kp [] w w':=by
 have hR:∀(n:Nat) w',n=aY l->Kp [] w w'->(λen w'=>en=.returned (.int .i64 (aY l))/\Kp [] w w':Ending->World->Prop) (.returned (.int .i64 n)) w':=λb w' h hk=>⟨by rw[h],hk⟩;generalize (λen w'=>en=.returned (.int .i64 (aY l))/\Kp [] w w':Ending->World->Prop)=R at *;refine cf [] Tryz.func160 ?_;refine fF.by (run_range_string w 9 (bs l) Yo) ?_;refine Lp.nat (n:=l.length) (λn vals w'=>vals=[]/\∃pos,pos+n=l.length/\w'.heap[w.heap.size]?=some (.stringIter (bs l) pos)/\Kp [] w w'/\∀j,j<pos->∃c,l[j]?=some c/\eP c=true) ?_ ?_
 .refine⟨rfl,0,omg,bH ..,(Kp.refl _ _).alloc _,λj hj=>omg⟩
 .rintro n _ w' jk C ⟨rfl,pos,hp,hi,hk,ha⟩ hC
  by_cases hlt:pos<l.length
  .have hsz:pos<(bs l).size:=by rw[jO];exact hlt
   have hc:l[pos]?=some l[pos]:=List.getElem?_eq_getElem hlt;have hcc:(bs l)[pos]'hsz=l[pos]:=by
    have:(bs l)[pos]'hsz=l.toArray[pos]:=rfl;rw[this];simp
   by_cases h8:(l[pos]).toNat<128
   .refine fF.by (Lib.run_next_ascii_at w' _ (bs l) pos 0 hi hsz (by rw[hcc];exact h8)) ?_;refine gg ?_;rw[hcc];have hk':Kp [] w (w'.iterAt w.heap.size (bs l) (pos+1)):=hk.obj (Nat.le_refl _) _;refine Cl.same (SX (hg.kp hk' λ_ _=>trivial) _) ?_;refine gg ?_;have hpr:vM (l[pos]).toNat=eP l[pos]:=by unfold vM;rw[decide_eq_true omg];simp
    refine .split (λh=>?_) (λh=>?_)
    .refine hR _ _ (zQ l pos ha (λc hcx=>?_) omg).symm hk';rw[hc]at hcx;cases hcx;rw[<- hpr];simpa using h
    .refine hC (n - 1) _ _ omg ⟨rfl,pos+1,omg,Lib.iterAt_heap _ _ _ _ _ hi,hk',λj hj=>?_⟩
     by_cases hjp:j=pos
     .subst hjp;exact⟨_,hc,by rw[<- hpr];simpa using h⟩
     .exact ha j omg
   .have hd:=decode_high (bs l) pos hsz (by rw[hcc];omega);refine fF.by (Lib.run_next_any_at w' _ (bs l) pos 0 hi hsz) ?_;refine gg ?_;have hk':Kp [] w (w'.iterAt w.heap.size (bs l) (pos+(Utf8.decode (bs l) pos).2)):=hk.obj (Nat.le_refl _) _;refine Cl.same (SX (hg.kp hk' λ_ _=>trivial) _) ?_;have hf:vM ((Utf8.decode (bs l) pos).1:Nat)=false:=by unfold vM;rw[decide_eq_false omg];rfl
    rw[hf];refine gg ?_;refine hR _ _ (zQ l pos ha (λc hcx=>?_) omg).symm hk';rw[hc]at hcx;cases hcx;cases hq:eP l[pos]with
    |false=>rfl
    |true=>exact absurd (LX hq) h8
  .refine fF.by (Lib.run_next_end_at w' _ (bs l) pos 0 hi (by rw[jO];omega)) ?_;refine gg ?_;refine hR _ _ ?_ hk;exact(zQ l l.length (λj hj=>ha j omg) (λc hc=>by simp at hc) (Nat.le_refl _)).symm
theorem aaE(c:UInt8):iF c=([32,9,10]:By).contains c:=by
 rw[Bool.eq_iff_iff];simp[iF,or_assoc]
theorem Gt(hb:w.heap[b]?=some (cl cs t))(hcs:∀c:UInt8,cs[c.toNat]?=some (.bool (iF c)))(l:By):
  Calls P 224 #[.string (bs l),pt b 0] w λen w'=>en=.returned (.string (bs (l.drop (blanks l))))/\w'=w:=by
 have hR:∀r,r=l.drop (blanks l)->(λen w'=>en=.returned (.string (bs (l.drop (blanks l))))/\w'=w:Ending->World->Prop) (.returned (.string (bs r))) w:=λb h=>⟨by rw[h],rfl⟩;generalize (λen w'=>en=.returned (.string (bs (l.drop (blanks l))))/\w'=w:Ending->World->Prop)=R at *;refine cf [0] Tryz.func224 ?_;refine Jn.by (λvals w'=>∃r,vals=[.string (bs r)]/\r=l.drop (blanks l)/\w'=w) (λJ hJ=>?_) ?_
 .refine Lp.nat (n:=l.length) (λn vals w'=>∃r,vals=[.string (bs r)]/\r.length=n/\r.drop (blanks r)=l.drop (blanks l)/\w'=w) ⟨l,rfl,rfl,rfl,rfl⟩ ?_;rintro n _ w' jk C ⟨r,rfl,hn,hd,rfl⟩ hC;refine gg ?_;cases r with
  |nil=>
   refine gg ?_;exact hJ _ _ ⟨[],rfl,by simpa using hd,rfl⟩
  |cons c r=>
   refine If.t ?_ (by simp only[List.length_cons];exact decide_eq_true omg);refine IxS.s (i:=0) (c:=c) ?_ rfl;have hc:w'.cell? ⟨b,c.toNat,none⟩=some (.bool (iF c)):=by
    rw[jM,hb,Option.bind_some,fM,List.getElem?_toArray];exact hcs c
   refine Cl.same (Tryz.asciiSet_contains b c (iF c) w' hc) ?_;refine gg ?_;cases hbl:iF c with
   |false=>
    refine If.t ?_ rfl;refine hJ _ _ ⟨_,rfl,?_,rfl⟩;rw[<- hd,blanks,hbl];rfl
   |true=>
    refine If.f ?_ rfl;refine SlS.f (n:=1) ?_ smp;refine hC (n - 1) _ _ (by simp at hn;omega) ⟨r,rfl,by simp at hn;omega,?_,rfl⟩;rw[<- hd,blanks,hbl];rfl
 .rintro _ w' jk ⟨r,rfl,hr,rfl⟩;refine gg ?_;exact hR _ hr
theorem aaT(w:World):(zeroValue 413).run P w=.ok (.agg (Array.replicate 256 (.bool false))) w:=by kernel_rfl
theorem Td(w:World)(l:By):
  Calls P 198 #[.string (bs l),.string (bs [32,9,10])] w λen w'=>en=.returned (.string (bs (l.drop (blanks l))))/\Kp [] w w':=by
 have hR:∀r w',r=l.drop (blanks l)->Kp [] w w'->(λen w'=>en=.returned (.string (bs (l.drop (blanks l))))/\Kp [] w w':Ending->World->Prop) (.returned (.string (bs r))) w':=λb w' h hk=>⟨by rw[h],hk⟩;generalize (λen w'=>en=.returned (.string (bs (l.drop (blanks l))))/\Kp [] w w':Ending->World->Prop)=R at *;refine cf [] Tryz.func198 ?_;refine gg ?_;cases l with
 |nil=>
  refine gg ?_;exact hR _ _ rfl (Kp.refl _ _)
 |cons c l=>
  have h1:((c::l)==([]:By))=false:=rfl;rw[h1];refine gg ?_;refine Cl.by (Tryz.strings_makeASCIISet aaT (bs [32,9,10]) w dcd ?_) ?_ ?_ ?_
  .intro j b hj;have:b∈([32,9,10]:By):=List.mem_of_getElem? hj;simp only[List.mem_cons,List.not_mem_nil,or_false]at this;rcases this with rfl|rfl|rfl<;>decide
  .rintro v w' ⟨h,rfl⟩;cases h;obtain⟨cs,hcs,hn,ho,hat⟩:∃cs:List Value,Lib.setCells (bs [32,9,10]).data.toList=List.toArray cs/\cs.length=256/\(cs.all (·.oneCell'))=true/\∀c:UInt8,cs[c.toNat]?=some (.bool (iF c)):=by
    refine⟨(Lib.setCells [32,9,10]).toList,(Array.toArray_toList).symm,by rw[Array.length_toList,Lib.setCells_size],?_,?_⟩
    .have:=Lib.setCells_one [32,9,10];rw[<- Array.all_toList]at this;exact this
    .intro c;rw[Array.getElem?_toList,Lib.setCells_at,aaE]
   rw[hcs];refine gg ?_;refine StN.s (l':=cs) ?_ (iw (by simp only[size_alloc])) hn ho dcd (by rw[hn];exact List.append_nil _);refine If.t ?_ rfl;refine Cl.same (Gt (aC rfl (by simp only[size_alloc];omega)) hat (c::l)) ?_;exact hR _ _ rfl kpA
  .rintro _ _ ⟨h,_⟩;cases h
  .rintro _ ⟨h,_⟩;cases h
theorem MG:∀l:By,blanks l<=l.length
 |[]=>Nat.le_refl _
 |c::r=>by
  rw[blanks];split
  .have:=MG r;simp only[List.length_cons];omega
  .omega
abbrev tx(txt:By)(pos:Nat):Obj:=cl [.string (bs txt),i64 pos] rC
theorem w_skip(hg:Gl w)(hN:NG<=t)(ht:w.heap[t]?=some (tx txt pos))(hlen:txt.length<=1200)(hpos:pos<=txt.length):
  Calls P 159 #[pt t 0] w λen w'=>(en=.returned (.tuple #[])/\w'.heap[t]?=some (tx txt (pos+skip (txt.length+1) (txt.drop pos)))/\pos+skip (txt.length+1) (txt.drop pos)<=txt.length)/\Kp [(t,t+1)] w w':=by
 generalize hT:pos+skip (txt.length+1) (txt.drop pos)=T;have hR:∀w',w'.heap[t]?=some (tx txt T)->T<=txt.length->Kp [(t,t+1)] w w'->(λen w'=>(en=.returned (.tuple #[])/\w'.heap[t]?=some (tx txt T)/\T<=txt.length)/\Kp [(t,t+1)] w w':Ending->World->Prop) (.returned (.tuple #[])) w':=λw' h h2 hk=>⟨⟨rfl,h,h2⟩,hk⟩;generalize (λen w'=>(en=.returned (.tuple #[])/\w'.heap[t]?=some (tx txt T)/\T<=txt.length)/\Kp [(t,t+1)] w w':Ending->World->Prop)=R at *;refine cf [] Tryz.func159 ?_;have hlt:=lt_of_heap ht;refine Lp.nat (n:=txt.length+1) (λn vals w'=>vals=[]/\∃cur,w'.heap[t]?=some (tx txt cur)/\cur<=txt.length/\txt.length<cur+n/\cur+skip n (txt.drop cur)=T/\Kp [(t,t+1)] w w') ⟨rfl,pos,ht,hpos,omg,hT,Kp.refl _ _⟩ ?_;rintro n _ w1 jk C ⟨rfl,cur,h1,hcur,hn,hs,hk⟩ hC;obtain⟨n,rfl⟩:∃m,n=m+1:=⟨n - 1,omg⟩;have hlt1:=lt_of_heap h1;refine gg ?_;refine Cl.plain (w0:=w) (X0:=[(t,t+1)]) (Td w1.drew (txt.drop cur)) (λw2 hk1 hk2 hs1=>?_) kpA;have hb:=MG (txt.drop cur);rw[List.length_drop]at hb;have hl1:(txt.drop cur).length=txt.length - cur:=List.length_drop;have hl2:((txt.drop cur).drop (blanks (txt.drop cur))).length=txt.length - cur - blanks (txt.drop cur):=by rw[List.length_drop,List.length_drop]
 refine gg ?_;have e1:(cur:Int)+(((txt.drop cur).length:Int) - (((txt.drop cur).drop (blanks (txt.drop cur))).length:Int))=((cur+blanks (txt.drop cur):Nat):Int):=by rw[hl1,hl2];omega
 rw[e1];simp only[skip]at hs;generalize blanks (txt.drop cur)=k at *;rw[List.drop_drop]at *;have hk3:Kp [(t,t+1)] w (ag w2 t (tx txt (cur+k))):=Kp.yS hk2 (by simp[Out]) _;have h3:(ag w2 t (tx txt (cur+k))).heap[t]?=some (tx txt (cur+k)):=aC rfl (by simp only[size_drew]at hs1;omega);have hg3:Gl (ag w2 t (tx txt (cur+k))):=hg.kp hk3 λi hi=>⟨omg,trivial⟩;generalize ag w2 t (tx txt (cur+k))=w3 at *;have hlt3:=lt_of_heap h3;refine Cl.same (Fv w3 (txt.drop (cur+k)) [47,42]) ?_;refine gg ?_;refine .split (λh=>?_) (λh=>?_)
 .have h:starts [47,42] (txt.drop (cur+k))=false:=by simpa using h
  rw[h]at hs;simp only[Bool.false_eq_true,if_false]at hs;subst hs;exact hR _ h3 omg hk3
 .have h:starts [47,42] (txt.drop (cur+k))=true:=by simpa using h
  rw[h]at hs;simp only[if_true]at hs;have h2:2<=(txt.drop (cur+k)).length:=by rw[nP]at h;simp only[Bool.and_eq_true,decide_eq_true_eq]at h;exact h.1
  refine SlS.f (n:=2) ?_ h2;rw[List.length_drop]at h2;refine Cl.same (aa2 hg3 _ [42,47] (by rw[List.length_drop,List.length_drop];omega)) ?_;cases hf:find [42,47] ((txt.drop (cur+k)).drop 2)with
  |none=>
   rw[hf]at hs;simp only[]at hs;dsimp only;refine gg ?_;subst hs;exact hR _ h3 omg hk3
  |some e=>
   rw[hf]at hs;have hfl:=acF _ _ hf;simp only[List.length_drop,List.length_cons,List.length_nil]at hfl;simp only[]at hs;dsimp only;refine .s ?_;refine .f ?_ (decide_eq_false omg);refine gg ?_;refine hC n _ _ omg ⟨rfl,cur+k+(e+4),?_,omg,omg,?_,Kp.yS hk3 (by simp[Out]) _⟩
   .refine(aC rfl omg).trans ?_;congr 5
    try omega
   .rw[<- hs,List.drop_drop];omega
theorem Yp:P.underlying 97=some (.slice 5):=by kernel_rfl
theorem under5:P.underlying 5=some (.int .u8):=by kernel_rfl
theorem aaY(w:World)(c:Int):Calls P 242 #[.int .u8 c] w λen w'=>en=.returned (.int .u8 (IntKind.u8.wrap (BitVec.ofInt IntKind.u8.bits c|||BitVec.ofInt IntKind.u8.bits 32).toNat))/\w'=w:=by
 refine cf [] Tryz.func242 ?_;refine .s ?_;exact⟨rfl,trivial⟩
def low(c:UInt8):Nat:=(IntKind.u8.wrap (BitVec.ofInt IntKind.u8.bits c.toNat|||BitVec.ofInt IntKind.u8.bits 32).toNat).toNat
theorem acL:((List.range 256).all λn=>let c:=UInt8.ofNat n
  (IntKind.u8.wrap (BitVec.ofInt IntKind.u8.bits c.toNat|||BitVec.ofInt IntKind.u8.bits 32).toNat==(low c:Int))&&decide (low c<256) &&
  (if 48<=n/\n<=57 then dig c==n - 48 else if 97<=low c/\low c<=122 then dig c==low c - 87 else dig c==99)&&(dig c<=99))=true:=by decide +kernel
theorem dig_at(c:UInt8):(IntKind.u8.wrap (BitVec.ofInt IntKind.u8.bits c.toNat|||BitVec.ofInt IntKind.u8.bits 32).toNat=(low c:Int))/\low c<256 /\
  (48<=c.toNat/\c.toNat<=57->dig c=c.toNat - 48)/\(¬ (48<=c.toNat/\c.toNat<=57)->97<=low c/\low c<=122->dig c=low c - 87)/\(¬ (48<=c.toNat/\c.toNat<=57)->¬ (97<=low c/\low c<=122)->dig c=99):=by
 have h:=List.all_eq_true.mp acL c.toNat (List.mem_range.mpr (UInt8.toNat_lt c));have hc:UInt8.ofNat c.toNat=c:=UInt8.ofNat_toNat;simp only[hc,Bool.and_eq_true,beq_iff_eq,decide_eq_true_eq]at h;obtain⟨⟨⟨h1,h2⟩,h3⟩,_⟩:=h;refine⟨h1,h2,λhd=>?_,λhd hl=>?_,λhd hl=>?_⟩
 .rw[if_pos hd]at h3;simpa using h3
 .rw[if_neg hd,if_pos hl]at h3;simpa using h3
 .rw[if_neg hd,if_neg hl]at h3;simpa using h3
def Ej(M:Option Nat)(w:World):Ending->World->Prop:=λen w'=>(match M with
 |some v=>en=.returned (.tuple #[.int .u64 v,.nilIface])
 |none=>∃n e:Int,en=.returned (.tuple #[.int .u64 n,.iface 426 (.int .i64 e)])/\(e=1\/e=2))/\Kp [] w w'
theorem O9(s:By)(base:Nat)(hb:base=10\/base=16)(hs:s.length<=2000):
  Calls P 230 #[.string (bs s),i64 base,i64 32] w (Ej (lg base s) w):=by
 generalize hM:lg base s=M;have hok:∀(v:Nat) w',M=some v->Kp [] w w'->Ej M w (.returned (.tuple #[.int .u64 v,.nilIface])) w':=λv w' h hk=>by subst h;exact⟨rfl,hk⟩
 have hno:∀(n e:Int) w',M=none->(e=1\/e=2)->Kp [] w w'->Ej M w (.returned (.tuple #[.int .u64 n,.iface 426 (.int .i64 e)])) w':=λn e w' h he hk=>by subst h;exact⟨⟨n,e,rfl,he⟩,hk⟩
 generalize Ej M w=R at *;have hb2:decide ((2:Int)<=base)=true:=decide_eq_true omg;have hb3:decide ((base:Int)<=36)=true:=decide_eq_true omg;have hb0:((base:Int)==0)=false:=by rw[beq_eq_false_iff_ne];omega
 refine cf [0,1,2,10,12,13,16,101] Tryz.func230 ?_;refine .s ?_;cases hse:s==([]:By)with
 |true=>
  refine .t ?_;have:s=[]:=by simpa using hse
  subst this;exact hno _ _ _ hM.symm (Or.inr rfl) (Kp.refl _ _)
 |false=>
  refine .f ?_;have hne:s.isEmpty=false:=by cases s<;>simp_all
  rw[lg,hne]at hM;simp only[Bool.false_eq_true,if_false]at hM;refine .s ?_;refine Jn.by (λvals w'=>vals=[.string (bs s),i64 base]/\w'=w) (λJ hJ=>?_) ?_
  .refine gg ?_;exact hJ _ _ ⟨rfl,rfl⟩
  .rintro _ w' jk ⟨rfl,rfl⟩;refine .s ?_;refine Jn.by (λvals w1=>vals=[i64 32]/\w1=w') (λJ hJ=>?_) ?_
   .refine gg ?_;exact hJ _ _ ⟨rfl,rfl⟩
   .rintro _ w1 jk1 ⟨rfl,rfl⟩;refine .s ?_;refine Jn.by (λvals w2=>(∃n:Int,4294967296<=n/\vals=[.int .u64 n])/\w2=w1) (λJ hJ=>?_) ?_
    .rcases hb with rfl|rfl
     .refine gg ?_;exact hJ _ _ ⟨⟨_,dcd,rfl⟩,rfl⟩
     .refine gg ?_;exact hJ _ _ ⟨⟨_,dcd,rfl⟩,rfl⟩
    .rintro _ w2 jk2 ⟨⟨cut,hcut,rfl⟩,rfl⟩;refine gg ?_;refine fF.by (Lib.run_convert_string_bytes w2 9 97 5 (bs s) Yo Yp under5) ?_;have hcell:∀(j:Nat) (c:UInt8),s[j]?=some c->(Lib.bytesWorld w2 5 (bs s)).cell? ⟨w2.heap.size,j,none⟩=some (.int .u8 c.toNat):=by
      intro j c hj;have hlt:j<s.length:=(List.getElem?_eq_some_iff.mp hj).1;rw[Lib.bytesWorld_cell w2 5 (bs s) j (by rw[jO];exact hlt)];have:(bs s).data.toList.getD j 0=c:=by
       show s.getD j 0=c;rw[List.getD_eq_getElem?_getD,hj];rfl
      rw[this]
     have hk:Kp [] w2 (Lib.bytesWorld w2 5 (bs s)):=by
      refine⟨rfl,rfl,rfl,by rw[Lib.bytesWorld_size];omega,λb hb _=>Lib.bytesWorld_at_old w2 5 (bs s) b hb⟩
     have hsz:(bs s).size=s.length:=jO s;rw[hsz];generalize Lib.bytesWorld w2 5 (bs s)=w3 at *;generalize grownCap w2 s.length 0 5=cap at *;generalize w2.heap.size=b at *;generalize hmx:IntKind.u64.wrap (IntKind.u64.wrap (1*2 ^ min (IntKind.u64.wrap 32).toNat IntKind.u64.bits) - 1)=mx;have hmx':mx=4294967295:=by rw[<- hmx];decide
     refine gg ?_;refine Lp.nat (n:=s.length) (λn vals w'=>∃(i v:Nat) (x:Value),vals=[.bool false,.int .u64 v,x,.int .i64 i]/\i+n=s.length/\uint base (s.drop i) v=M/\v<4294967296/\w'=w3) ⟨0,0,_,rfl,omg,by simpa using hM,omg,rfl⟩ ?_;rintro n _ w' jk3 C ⟨i,v,x,rfl,hi,hu,hv,rfl⟩ hC;refine gg ?_;refine .split (λhlt=>?_) (λhge=>?_)
     .have hlt:i<s.length:=by have:=of_decide_eq_true hlt;omega
      obtain⟨c,hc⟩:∃c,s[i]?=some c:=⟨_,List.getElem?_eq_getElem hlt⟩;rw[List.drop_eq_getElem_cons hlt,uint]at hu;have hcc:s[i]=c:=by rw[List.getElem?_eq_getElem hlt]at hc;exact Option.some.inj hc
      rw[hcc]at hu;obtain⟨d1,d2,d3,d4,d5⟩:=dig_at c;refine Jn.by (λvals w4=>∃v' y,vals=[.bool false,.int .u64 ((v':Nat):Int),y]/\uint base (s.drop (i+1)) v'=M/\v'<4294967296/\w4=w') (λJ hJ=>?_) ?_
      .refine .s ?_;refine Ld.by (by rw[Nat.mul_one,Nat.zero_add];exact hcell i c hc) ?_;refine Jn.by (λvals w4=>(∃d:Nat,vals=[.bool false,.int .u8 d]/\d=dig c/\d<256)/\w4=w') (λJ2 hJ2=>?_) ?_
       .have h95:((c.toNat:Int)==95&&((base:Int)==0))=false:=by rw[hb0];simp
        have hL:∀K:KV,K (.int .u8 (low c)) w'->Cl P 242 #[.int .u8 c.toNat] w' (pE R) K:=λK h=>Cl.same (by rw[<- d1];exact aaY w' c.toNat) h
        repeat' (first|refine .a ?_|refine .s ?_|refine .t ?_|refine .f ?_|apply hL|((first|apply If.split|apply Gd.split|apply Gd.split')<;>intro _))
        all_goals (simp only[decide_eq_true_eq,decide_eq_false_iff_not]at *)
        all_goals first
         |(refine hno _ _ _ ?_ (Or.inr rfl) hk;rw[<- hu,if_neg omg])
         |(refine hJ2 _ _ ⟨⟨dig c,congrArg (λz:Int=>[Value.bool false,Value.int .u8 z]) ?_,rfl,omg⟩,rfl⟩;rw[IntKind.wrap_u8];omega)
         |(refine hJ2 _ _ ⟨⟨dig c,congrArg (λz:Int=>[Value.bool false,Value.int .u8 z]) ?_,rfl,omg⟩,rfl⟩;rw[IntKind.wrap_u8,IntKind.wrap_u8];omega)
       .rintro _ w4 jk4 ⟨⟨d,rfl,hd,hd2⟩,rfl⟩;refine gg ?_;obtain⟨p,hp⟩:∃p,p=v*base:=⟨_,rfl⟩;have hpb:p<68719476736:=by rw[hp];rcases hb with rfl|rfl<;>omega
        have e1:IntKind.u8.wrap (base:Int)=base:=by rw[IntKind.wrap_u8];rcases hb with rfl|rfl<;>rfl
        have e2:IntKind.u64.wrap (base:Int)=base:=by rw[IntKind.wrap_u64];rcases hb with rfl|rfl<;>rfl
        have e3:IntKind.u64.wrap ((v:Int)*base)=p:=by rw[IntKind.wrap_u64,hp,Int.natCast_mul];rw[<- Int.natCast_mul,<- hp];omega
        have e4:IntKind.u64.wrap (d:Int)=d:=by rw[IntKind.wrap_u64];omega
        have e5:IntKind.u64.wrap ((p:Int)+d)=((p+d:Nat):Int):=by rw[IntKind.wrap_u64];omega
        rw[<- hp,<- hd]at hu;rw[e1];refine .split (λh=>?_) (λh=>?_)
        .have:=of_decide_eq_true h;exact hno _ _ _ (by rw[<- hu,if_neg omg]) (Or.inr rfl) hk
        .have hlt2:=of_decide_eq_false h;rw[if_pos omg]at hu;refine .s ?_;refine .f ?_ (decide_eq_false omg);refine .s ?_;rw[e2];refine .s ?_;rw[e3];refine .s ?_;rw[e4];refine .s ?_;rw[e5];refine .s ?_;have h6:decide (((p+d:Nat):Int)<(p:Int))=false:=decide_eq_false omg;refine gg ?_;refine .split (λh=>?_) (λh=>?_)
         .have:=of_decide_eq_true h;exact hno _ _ _ (by rw[<- hu,if_neg omg]) (Or.inl rfl) hk
         .have:=of_decide_eq_false h;rw[if_pos omg]at hu;exact hJ _ _ ⟨p+d,_,rfl,hu,omg,rfl⟩
      .rintro _ w4 jk4 ⟨v',y,rfl,hu',hv',rfl⟩;refine gg ?_;refine hC (n - 1) _ _ omg ⟨i+1,v',y,rfl,omg,hu',hv',rfl⟩
     .have hge:i=s.length:=by have:=of_decide_eq_false hge;omega
      subst hge;rw[List.drop_length]at hu;refine gg ?_;exact hok _ _ hu.symm hk
theorem UK(w:World)(s:By)(hs:s.length<=2000):Calls P 252 #[.string (bs s)] w λen w'=>en=.returned (.string (bs s))/\Kp [] w w':=by
 refine(Tryz.stringslite_Clone (bs s) w (by rw[jO];omega)).mono ?_;rintro e w' ⟨rfl,h⟩;exact⟨rfl,Kp.below h⟩
def Errs(w:World):Ending->World->Prop:=λen w'=>(∃t v,en=.returned (.iface t v))/\Kp [] w w'
theorem JY(hg:Gl w)(a s:By)(hs:s.length<=2000):Calls P 244 #[.string (bs a),.string (bs s)] w λen w'=>(∃b,en=.returned (pt b 0))/\Kp [] w w':=by
 have hR:∀b w',Kp [] w w'->(λen w'=>(∃b,en=.returned (pt b 0))/\Kp [] w w':Ending->World->Prop) (.returned (pt b 0)) w':=λb w' h=>⟨⟨b,rfl⟩,h⟩;generalize (λen w'=>(∃b,en=.returned (pt b 0))/\Kp [] w w':Ending->World->Prop)=R at *;refine cf [] Tryz.func244 ?_;obtain⟨t5,v,hv⟩:=hg.esyn;have hsz:=hg.size;have h5:5<w.heap.size:=by unfold NG at hsz;omega
 refine gg ?_;refine Cl.plain (w0:=w) (X0:=[]) (UK w.drew s hs) (λw1 hk1 hk2 hs1=>?_) kpA;refine⟨?_,?_⟩
 .refine gg ?_;rfl
 .refine gg ?_;exact hR _ _ kpA
theorem MO(hg:Gl w)(a s:By)(hs:s.length<=2000):Calls P 245 #[.string (bs a),.string (bs s)] w λen w'=>(∃b,en=.returned (pt b 0))/\Kp [] w w':=by
 have hR:∀b w',Kp [] w w'->(λen w'=>(∃b,en=.returned (pt b 0))/\Kp [] w w':Ending->World->Prop) (.returned (pt b 0)) w':=λb w' h=>⟨⟨b,rfl⟩,h⟩;generalize (λen w'=>(∃b,en=.returned (pt b 0))/\Kp [] w w':Ending->World->Prop)=R at *;refine cf [] Tryz.func245 ?_;obtain⟨t6,v,hv⟩:=hg.erng;have hsz:=hg.size;have h5:6<w.heap.size:=by unfold NG at hsz;omega
 refine gg ?_;refine Cl.plain (w0:=w) (X0:=[]) (UK w.drew s hs) (λw1 hk1 hk2 hs1=>?_) kpA;refine⟨?_,?_⟩
 .refine gg ?_;rfl
 .refine gg ?_;exact hR _ _ kpA
theorem Wl(hg:Gl w)(a s:By)(hs:s.length<=2000)(x y:Value)(e:Int)(he:e=1\/e=2):
  Calls P 231 #[.string (bs a),.string (bs s),x,y,.iface 426 (.int .i64 e)] w (Errs w):=by
 have hR:∀t v w',Kp [] w w'->Errs w (.returned (.iface t v)) w':=λt v w' h=>⟨⟨t,v,rfl⟩,h⟩;generalize Errs w=R at *;refine cf [] Tryz.func231 ?_;rcases he with rfl|rfl
 .refine fF.by (v:=.bool false) (w':=w) (by kernel_rfl) ?_;refine gg ?_;refine fF.by (v:=.bool true) (w':=w) (by kernel_rfl) ?_;refine gg ?_;refine Cl.by (MO hg a s hs) ?_ ?_ ?_
  .rintro v w' ⟨⟨b,h⟩,hk⟩;cases h;exact hR _ _ _ hk
  .rintro ch w' ⟨⟨b,h⟩,hk⟩;cases h
  .rintro w' ⟨⟨b,h⟩,hk⟩;cases h
 .refine fF.by (v:=.bool true) (w':=w) (by kernel_rfl) ?_;refine gg ?_;refine Cl.by (JY hg a s hs) ?_ ?_ ?_
  .rintro v w' ⟨⟨b,h⟩,hk⟩;cases h;exact hR _ _ _ hk
  .rintro ch w' ⟨⟨b,h⟩,hk⟩;cases h
  .rintro w' ⟨⟨b,h⟩,hk⟩;cases h
def OX(M:Option Nat)(w:World):Ending->World->Prop:=λen w'=>(match M with
 |some v=>en=.returned (.tuple #[.int .u64 v,.nilIface])
 |none=>∃(n:Int) (t:TypeId) (v:Value),en=.returned (.tuple #[.int .u64 n,.iface t v]))/\Kp [] w w'
theorem MW(hg:Gl w)(s:By)(base:Nat)(hb:base=10\/base=16)(hs:s.length<=2000):
  Calls P 203 #[.string (bs s),i64 base,i64 32] w (OX (lg base s) w):=by
 generalize hM:lg base s=M;have hok:∀(v:Nat) w',M=some v->Kp [] w w'->OX M w (.returned (.tuple #[.int .u64 v,.nilIface])) w':=λv w' h hk=>by subst h;exact⟨rfl,hk⟩
 have hno:∀(n:Int) t v w',M=none->Kp [] w w'->OX M w (.returned (.tuple #[.int .u64 n,.iface t v])) w':=λn t v w' h hk=>by subst h;exact⟨⟨n,t,v,rfl⟩,hk⟩
 generalize OX M w=R at *;refine cf [] Tryz.func203 ?_;refine Cl.by (O9 s base hb hs) ?_ ?_ ?_
 .rintro v w' ⟨h,hk⟩;rw[hM]at h;cases hm:M with
  |some u=>
   rw[hm]at h;cases h;refine gg ?_;exact hok _ _ hm hk
  |none=>
   rw[hm]at h;obtain⟨n,e,h,he⟩:=h;cases h;refine gg ?_;refine Cl.by (Wl (hg.kp hk λ_ _=>trivial) [80,97,114,115,101,85,105,110,116] s hs _ _ e he) ?_ ?_ ?_
   .rintro v w2 ⟨⟨t,u,h⟩,hk2⟩;cases h;exact hno _ _ _ _ hm (hk.trans hk2 λ_ _ _=>⟨trivial,trivial⟩)
   .rintro ch w2 ⟨⟨t,u,h⟩,hk2⟩;cases h
   .rintro w2 ⟨⟨t,u,h⟩,hk2⟩;cases h
 .rintro ch w' ⟨h,hk⟩;rw[hM]at h;cases M with
  |some u=>cases h
  |none=>obtain⟨n,e,h,he⟩:=h;cases h
 .rintro w' ⟨h,hk⟩;rw[hM]at h;cases M with
  |some u=>cases h
  |none=>obtain⟨n,e,h,he⟩:=h;cases h
end Go.W.T
namespace Go.W.T
open Go Go.W Go.M Go.Proofs
def Hm(M:Option Int)(w:World):Ending->World->Prop:=λen w'=>(match M with
 |some v=>en=.returned (.tuple #[.int .i64 v,.bool true])
 |none=>∃n:Int,en=.returned (.tuple #[.int .i64 n,.bool false]))/\Kp [] w w'
theorem UN(b:Nat):∀(l:By) (v r:Nat),v<4294967296->uint b l v=some r->r<4294967296
 |[],v,r,h,e=>by simp only[uint,Option.some.injEq]at e;omega
 |c::l,v,r,h,e=>by
  rw[uint]at e;split at e
  .split at e
   .rename_i h2;exact UN b l _ r h2 e
   .cases e
  .cases e
theorem Xe(h:lg b l=some r):r<4294967296:=by
 unfold lg at h;split at h
 .cases h
 .exact UN b l 0 r omg h
theorem aaV(hg:Gl w)(s:By)(hs:s.length<=2000)(hne:s≠[]):Calls P 161 #[.string (bs s)] w (Hm (number s) w):=by
 generalize hM:number s=M;have hok:∀(v:Int) w',M=some v->Kp [] w w'->Hm M w (.returned (.tuple #[.int .i64 v,.bool true])) w':=λv w' h hk=>by subst h;exact⟨rfl,hk⟩
 have hno:∀(n:Int) w',M=none->Kp [] w w'->Hm M w (.returned (.tuple #[.int .i64 n,.bool false])) w':=λn w' h hk=>by subst h;exact⟨⟨n,rfl⟩,hk⟩
 generalize Hm M w=R at *;refine cf [4,5] Tryz.func161 ?_;refine Cl.same (MV w s) ?_;unfold number at hM
 refine Jn.by (λvals w'=>∃(base:Nat) (ds:By),vals=[i64 base,.string (bs ds)]/\(base=10\/base=16)/\ds.length<=2000/\Kp [] w w' /\
   M=(if ds.contains 95 then none else match lg base ds with
    |none=>none
    |some v=>if s.head?==some 45 then(if v<=2147483648 then some (-(v:Int))else none)else some (v:Int))) (λJ hJ=>?_) ?_
 .refine Cl.same (Fv w s [48,120]) ?_;refine .split (λh=>?_) (λh=>?_)
  .rw[h]at hM;simp only[if_true]at hM;have h2:2<=s.length:=by rw[nP]at h;simp only[Bool.and_eq_true,decide_eq_true_eq]at h;exact h.1
   refine SlS.f (n:=2) ?_ h2;refine gJ ?_;refine .split (λhc=>?_) (λhc=>?_)
   .have hc:=of_decide_eq_true hc;refine hno _ _ ?_ kpA;rw[<- hM,if_pos (decide_eq_true omg)]
   .have hc:=of_decide_eq_false hc;rw[if_neg (by rw[decide_eq_false omg];decide)]at hM;exact hJ _ _ ⟨16,s.drop 2,rfl,Or.inr rfl,by rw[List.length_drop];omega,kpA,hM.symm⟩
  .rw[h]at hM;simp only[Bool.false_eq_true,if_false]at hM;have htl:(eX s).length<=s.length:=by rw[wH];split<;>simp
   refine gJ ?_
   have key:∀(b:Bool),b=(decide (1<(eX s).length)&&(eX s).head?==some 48) ->
     If (.bool b) (R (.returned (.tuple #[.int .i64 0,.bool false])) w) (J [i64 10,.string (bs (eX s))] w):=by
    intro b hb;refine .split (λhc=>?_) (λhc=>?_)
    .refine hno _ _ ?_ (Kp.refl _ _);rw[<- hM,<- hb,hc];rfl
    .rw[<- hb,hc]at hM;simp only[Bool.false_eq_true,if_false]at hM;exact hJ _ _ ⟨10,eX s,rfl,Or.inl rfl,omg,Kp.refl _ _,hM.symm⟩
   refine .split (λhc=>?_) (λhc=>?_)
   .have hc':=of_decide_eq_true hc;obtain⟨c,r,hcr⟩:∃c r,eX s=c::r:=by
     cases h9:eX s with
     |nil=>rw[h9]at hc';simp at hc'
     |cons c r=>exact⟨c,r,rfl⟩
    refine .t ?_;refine IxS.s (i:=0) (c:=c) ?_ (by rw[hcr];rfl);refine gg ?_;refine key _ ?_;rw[hcr]at hc' ⊢;rw[decide_eq_true omg];simp only[Bool.true_and,List.head?_cons];rw[Bool.eq_iff_iff,beq_iff_eq,beq_iff_eq,Option.some.injEq];constructor
    .intro h9;exact UInt8.toNat_inj.mp (by simpa using (by omega:c.toNat=48))
    .rintro rfl;rfl
   .have:=of_decide_eq_false hc;refine gg ?_;rw[decide_eq_false omg]at hM;simp only[Bool.false_and,Bool.false_eq_true,if_false]at hM;exact hJ _ _ ⟨10,eX s,rfl,Or.inl rfl,omg,Kp.refl _ _,hM.symm⟩
 .rintro _ w1 jk ⟨base,ds,rfl,hb,hl,hk,hM2⟩;refine .s ?_;refine Cl.same (Ib w1 ds) ?_;refine .split (λh=>?_) (λh=>?_)
  .exact hno _ _ (by rw[hM2,h];rfl) hk
  .rw[h]at hM2;simp only[Bool.false_eq_true,if_false]at hM2;have hg1:=hg.kp hk λ_ _=>trivial;refine Cl.by (MW hg1 ds base hb hl) ?_ ?_ ?_
   .rintro v w2 ⟨hp,hk2⟩;have hk3:Kp [] w w2:=hk.trans hk2 λ_ _ _=>⟨trivial,trivial⟩;cases hu:lg base ds with
    |none=>
     rw[hu]at hp hM2;obtain⟨n,t,u,hp⟩:=hp;cases hp;refine gg ?_;exact hno _ _ hM2 hk3
    |some u=>
     rw[hu]at hp hM2;cases hp;have hul:=Xe hu;simp only[]at hM2;obtain⟨c,r,rfl⟩:∃c r,s=c::r:=by
      cases s with
      |nil=>exact absurd rfl hne
      |cons c r=>exact⟨c,r,rfl⟩
     refine vI ?_;refine .f ?_ rfl;refine IxS.s (i:=0) (c:=c) ?_ rfl;have e1:IntKind.i64.wrap (u:Int)=u:=rq omg omg;have e2:IntKind.i64.wrap (0 - (u:Int)) = -(u:Int):=by rw[rq omg omg];omega
     refine .s ?_;refine .split (λhc=>?_) (λhc=>?_)
     .have hc:c=45:=UInt8.toNat_inj.mp (by have:=beq_iff_eq.mp hc;show c.toNat=45;omega);subst hc;simp only[List.head?_cons,beq_self_eq_true,if_true]at hM2;refine .s ?_;rw[e1];refine .s ?_;rw[e2];refine .s ?_
      by_cases hle:u<=2147483648
      .rw[if_pos hle]at hM2;rw[decide_eq_true omg];exact hok _ _ hM2 hk3
      .rw[if_neg hle]at hM2;rw[decide_eq_false omg];exact hno _ _ hM2 hk3
     .have hc:c≠45:=λe=>by subst e;revert hc;decide
      have h9:((c::r).head?==some 45)=false:=by rw[beq_eq_false_iff_ne];simp[hc]
      rw[h9]at hM2;refine .s ?_;rw[e1];exact hok _ _ hM2 hk3
   .rintro ch w2 ⟨hp,hk2⟩;cases hu:lg base ds with
    |none=>rw[hu]at hp;obtain⟨n,t,u,hp⟩:=hp;cases hp
    |some u=>rw[hu]at hp;cases hp
   .rintro w2 ⟨hp,hk2⟩;cases hu:lg base ds with
    |none=>rw[hu]at hp;obtain⟨n,t,u,hp⟩:=hp;cases hp
    |some u=>rw[hu]at hp;cases hp
theorem zO:∀l:By,aY l<=l.length
 |[]=>Nat.le_refl _
 |c::r=>by
  rw[aY];split
  .have:=zO r;simp only[List.length_cons];omega
  .omega
theorem g_num{n:Nat}{w:World}{K:KV}(h:K (.bool ((n:Int)==45||(decide ((48:Int)<=n)&&decide ((n:Int)<=57)))) w):
  Bi .eql (.int .u8 n) (.int .u8 45) λx17=>
  Gd x17 false w (λK18=>K18 (.int .u8 n) w) λx19 w20=>
  Gd x17 false w20 (λK21=>Bi .geq x19 (.int .u8 48) λx22=>K21 x22 w20) λx23 w24=>
  Gd x17 false w24 (λK25=>K25 x23 w24) λx26 w27=>
  Gd x26 true w27 (λK28=>K28 (.int .u8 n) w27) λx29 w30=>
  Gd x26 true w30 (λK31=>Bi .leq x29 (.int .u8 57) λx32=>K31 x32 w30) λx33 w34=>
  Gd x17 false w34 (λK35=>Pk x26 x33 (.bool false) λx36=>K35 x36 w34) λx37 w38=>
  Pk x17 (.bool true) x37 λx39=>K x39 w38:=by
 repeat' (first|refine .a ?_|refine .d ?_|refine .s ?_|refine .t ?_|refine .f ?_|((first|apply If.split|apply Gd.split|apply Gd.split')<;>intro _))
 all_goals (simp only[*,Bool.true_or,Bool.false_or,Bool.true_and,Bool.false_and]at h)
 all_goals (first|exact h|(simp_all;done))
theorem g_let{c:UInt8}{w:World}{K:KV}{E:KE}(hg:Gl w)(h:K (.bool ((c.toNat:Int) != 95&&eP c)) w):
  Bi .neq (.int .u8 c.toNat) (.int .u8 95) λx66=>
  Gd x66 true w (λK67=>K67 (.int .u8 c.toNat) w) λx68 w69=>
  Gd x66 true w69 (λK70=>Cv .i32 x68 λx71=>K70 x71 w69) λx72 w73=>
  Gd x66 true w73 (λK74=>Cl P 162 #[x72] w73 E λx75 w76=>K74 x75 w76) λx77 w78=>
  Pk x66 x77 (.bool false) λx79=>K x79 w78:=by
 have hlt:=UInt8.toNat_lt c;have e1:IntKind.i32.wrap (c.toNat:Int)=c.toNat:=by rw[IntKind.wrap_i32];omega
 have e2:vM c.toNat=eP c:=by
  unfold vM
  by_cases h8:c.toNat<128
  .rw[decide_eq_true omg];simp
  .rw[decide_eq_false omg];cases hp:eP c with
   |false=>rfl
   |true=>exact absurd (LX hp) h8
 refine .s ?_;refine .split (λhc=>?_) (λhc=>?_)
 .refine gg ?_;rw[e1];refine Cl.same (SX hg c.toNat) ?_;rw[e2];refine gg ?_;rw[hc]at h;exact h
 .refine gg ?_;rw[hc]at h;exact h
theorem w_Next(hg:Gl w)(hN:NG<=t)(ht:w.heap[t]?=some (tx txt pos))(hlen:txt.length<=1200)(hpos:pos<=txt.length):
  Calls P 99 #[pt t 0] w (Post w (next txt pos) [(t,t+1)] λx v w'=>v=wdv x.1/\w'.heap[t]?=some (tx txt x.2)/\x.2<=txt.length):=by
 refine Post.R λR M hM hok hno=>?_;refine cf [] Tryz.func99 ?_;have hlt:=lt_of_heap ht;have hgp:∀{w':World},Kp [(t,t+1)] w w'->Gl w':=λh=>hg.kp h λi hi=>⟨omg,trivial⟩;refine gg ?_;refine Cl.by (w_skip (t:=t) (pos:=pos) (txt:=txt) (hg.kp ((Kp.refl [] w).alloc _) λ_ _=>trivial) hN ((cZ hlt).trans ht) hlen hpos) ?_ ?_ ?_
 rotate_left
 .rintro ch w' ⟨⟨h,_⟩,_⟩;cases h
 .rintro w' ⟨⟨h,_⟩,_⟩;cases h
 rintro v w1 ⟨⟨hv,h1,hq⟩,hk1⟩;cases hv;rw[next]at hM;generalize pos+skip (txt.length+1) (txt.drop pos)=q at *;have hk:Kq [(t,t+1)] w w1:=((Kp.refl [(t,t+1)] w).alloc _).trans hk1 λi hi ho=>⟨ho,ho⟩;have hs1:=hk1.size;rw[size_alloc]at hs1;have hg1:=hgp hk.out;have hlt1:=lt_of_heap h1;have hdl:(txt.drop q).length=txt.length - q:=List.length_drop;refine gg ?_;cases hr:txt.drop q with
 |nil=>
  rw[hr]at hM;refine gg ?_;refine hok _ _ _ hM kpA ⟨rfl,?_,hq⟩;exact(bW omg).trans h1
 |cons c r=>
  rw[hr]at hM hdl;simp only[List.length_cons]at hdl;have hce:((c::r)==([]:By))=false:=rfl;simp only[]at hM;have hrl:=zO r;have hcd:digit c=(decide ((48:Int)<=c.toNat)&&decide ((c.toNat:Int)<=57)):=by
   unfold digit;congr 1
   .rw[Bool.eq_iff_iff,decide_eq_true_eq,decide_eq_true_eq,UInt8.le_iff_toNat_le];show 48<=c.toNat↔_;omega
   .rw[Bool.eq_iff_iff,decide_eq_true_eq,decide_eq_true_eq,UInt8.le_iff_toNat_le];show c.toNat<=57↔_;omega
  have hc45:(c==45)=((c.toNat:Int)==45):=by
   rw[Bool.eq_iff_iff,beq_iff_eq,beq_iff_eq];exact⟨λh=>by rw[h];rfl,λh=>UInt8.toNat_inj.mp (by show c.toNat=45;omega)⟩
  have hc95:(c != 95)=((c.toNat:Int) != 95):=by
   rw[Bool.eq_iff_iff,bne_iff_ne,bne_iff_ne];exact⟨λh h2=>h (UInt8.toNat_inj.mp (by show c.toNat=95;omega)),λh h2=>h (by rw[h2];rfl)⟩
  have key:∀b:Bool,b=(c==45||digit c)->∀A B:Prop,(b=true->A)->(b=false->B)->If (.bool b) A B:=λb _ A B ha hb=>If.split ha hb;refine .f ?_;refine IxS.s (i:=0) (c:=c) ?_ rfl;refine g_num ?_;rw[<- hcd,<- hc45];cases hA:(c==45||digit c)with
  |true=>
   rw[hA]at hM;simp only[if_true]at hM;refine If.t ?_ rfl;refine SlS.f (n:=1) ?_ smp;refine Cl.plain (w0:=w) (X0:=[(t,t+1)]) (w_run hg1 r omg) (λw2 hk2 hq2 hs2=>?_) kpA;have hn:(1:Int)+(aY r:Nat)=((1+aY r:Nat):Int):=omg;refine gg ?_;have hk3:Kq [(t,t+1)] w (ag w2 t (tx txt (q+(1+aY r)))):=Kp.yS hq2.out (by simp[Out]) _;have h3:(ag w2 t (tx txt (q+(1+aY r)))).heap[t]?=some (tx txt (q+(1+aY r))):=aC rfl omg;have hb3:(ag w2 t (tx txt (q+(1+aY r)))).heap[w.heap.size]?=some (cl [.int .i64 0,.string ⟨#[]⟩,.int .i64 0,.int .i64 0] 151):=by
    rw[bW omg,hk2.same _ omg trivial,hk1.same _ (by rw[size_alloc];omega) ⟨omg,trivial⟩];exact bH ..
   have hlt3:=lt_of_heap hb3;have e3:((q:Int)+(1+(aY r:Nat)))=((q+(1+aY r):Nat):Int):=omg;rw[e3];generalize ag w2 t (tx txt (q+(1+aY r)))=w3 at *;refine Cl.by (aaV (hgp hk3.out) (List.take (1+aY r) (c::r)) (by rw[List.length_take];simp only[List.length_cons];omega) (by rw[Nat.add_comm,List.take_succ_cons];simp)) ?_ ?_ ?_
   .rintro v w4 ⟨hv,hk4⟩;cases hnum:number (List.take (1+aY r) (c::r))with
    |none=>
     rw[hnum]at hv hM;obtain⟨n,hv⟩:=hv;cases hv;simp only[]at hM;have hk5:Kp [(t,t+1)] w w4:=hk3.out.trans hk4 λi hi ho=>⟨ho,trivial⟩;refine gg ?_;refine Jn.by (λ_ _=>False) (λJ hJ=>?_) ?_
     .refine gg ?_;exact Cl.fail hM hno hk5
     .rintro _ _ _ h;exact h.elim
    |some v=>
     rw[hnum]at hv hM;cases hv;simp only[]at hM;have hk5:Kq [(t,t+1)] w w4:=hk3.out.trans hk4 λi hi ho=>⟨ho,trivial⟩;have hs4:=hk4.size;refine gg ?_;refine Jn.direct ?_;refine gg ?_;intro jk;refine gg ?_;refine hok _ _ _ hM kpA ⟨rfl,?_,omg⟩;exact(bW omg).trans ((hk4.same _ omg trivial).trans h3)
   .rintro ch w4 ⟨hv,hk4⟩;cases hnum:number (List.take (1+aY r) (c::r))with
    |none=>rw[hnum]at hv;obtain⟨n,hv⟩:=hv;cases hv
    |some v=>rw[hnum]at hv;cases hv
   .rintro w4 ⟨hv,hk4⟩;cases hnum:number (List.take (1+aY r) (c::r))with
    |none=>rw[hnum]at hv;obtain⟨n,hv⟩:=hv;cases hv
    |some v=>rw[hnum]at hv;cases hv
  |false=>
   rw[hA]at hM;simp only[Bool.false_eq_true,if_false]at hM;refine If.f ?_ rfl;refine g_let hg1 ?_;rw[<- hc95];cases hB:(c != 95&&eP c)with
   |true=>
    rw[hB]at hM;simp only[if_true]at hM;refine If.t ?_ rfl;have hrl2:=zO (c::r);simp only[List.length_cons]at hrl2;refine Cl.plain (w0:=w) (X0:=[(t,t+1)]) (w_run hg1 (c::r) (by simp only[List.length_cons];omega)) (λw2 hk2 hq2 hs2=>?_) kpA;have htk:(List.take (aY (c::r)) (c::r)).length=aY (c::r):=by rw[List.length_take,List.length_cons];omega
    refine SlS.t (n:=aY (c::r)) ?_ (by simp only[List.length_cons];omega);generalize hsd:List.take (aY (c::r)) (c::r)=sd at *;refine gg ?_;have hk3:Kq [(t,t+1)] w (ag w2 t (tx txt (q+sd.length))):=Kp.yS hq2.out (by simp[Out]) _;have h3:(ag w2 t (tx txt (q+sd.length))).heap[t]?=some (tx txt (q+sd.length)):=aC rfl omg;have hb3:(ag w2 t (tx txt (q+sd.length))).heap[w.heap.size]?=some (cl [.int .i64 0,.string ⟨#[]⟩,.int .i64 0,.int .i64 0] 151):=by
     rw[bW omg,hk2.same _ omg trivial,hk1.same _ (by rw[size_alloc];omega) ⟨omg,trivial⟩];exact bH ..
    have hlt3:=lt_of_heap hb3;have e3:((q:Int)+(sd.length:Nat))=((q+sd.length:Nat):Int):=omg;rw[e3];generalize ag w2 t (tx txt (q+sd.length))=w3 at *;refine Cl.same (Ti (hgp hk3.out) keys (32::sd++[32]) dcd) ?_;cases hkey:contains keys (32::sd++[32])with
    |true=>
     rw[hkey]at hM;simp only[if_true]at hM;refine gg ?_;refine hok _ _ _ hM kpA ⟨rfl,?_,omg⟩;exact(bW omg).trans h3
    |false=>
     rw[hkey]at hM;simp only[Bool.false_eq_true,if_false]at hM;refine If.f ?_ rfl
     by_cases h16:16<sd.length
     .rw[if_pos h16]at hM;refine Jn.by (λ_ _=>False) (λJ hJ=>?_) ?_
      .refine gg ?_;refine If.t ?_ (decide_eq_true omg);exact Cl.fail hM hno hk3.out
      .rintro _ _ _ h;exact h.elim
     .rw[if_neg h16]at hM;refine Jn.direct ?_;refine gg ?_;refine If.f ?_ (decide_eq_false omg);intro jk;refine gg ?_;refine hok _ _ _ hM kpA ⟨rfl,?_,omg⟩;exact(bW omg).trans h3
   |false=>
    rw[hB]at hM;simp only[Bool.false_eq_true,if_false]at hM;refine If.f ?_ rfl;refine Cl.by (Ph w1 signs c) ?_ ?_ ?_
    .rintro v w2 ⟨⟨n,hv,hn⟩,rfl⟩;cases hv;refine .s ?_;cases hs9:signs.contains c with
     |true=>
      rw[hs9]at hM hn;simp only[if_true]at hM;refine If.t ?_ hn;refine gg ?_;refine hok _ _ _ hM kpA ⟨rfl,?_,by show q+1<=txt.length;omega⟩;exact(bW omg).trans (aC rfl omg)
     |false=>
      rw[hs9]at hM hn;simp only[Bool.false_eq_true,if_false]at hM;refine If.f ?_ hn;exact Cl.fail hM hno hk.out
    .rintro ch w2 ⟨⟨n,hv,hn⟩,_⟩;cases hv
    .rintro w2 ⟨⟨n,hv,hn⟩,_⟩;cases hv
end Go.W.T
namespace Go.W.T
open Go Go.W Go.M Go.Proofs
theorem Yh(w:World)(b:Nat)(l:List By)(k:By)(at_:Nat)(h:aW w b l):
  Calls P 208 #[.map (some b),.string (bs k),i64 at_] w (Post w (once l k at_) [(b,b+1)] λl' _ w'=>aW w' b l'):=by
 refine Post.R λR M hM hok hno=>?_;refine cf [] Tryz.func208 ?_;obtain⟨es,clock,hb,hm⟩:=h;have hlt:=lt_of_heap hb;rw[once]at hM;refine Jn.by (λvals w'=>vals=[]/\l.contains k=false/\Kp [] w w') (λJ hJ=>?_) ?_
 .refine .set hm hb ?_
  repeat' (first|refine .a ?_|refine .d ?_|refine .s ?_|refine .t ?_|refine .f ?_|((first|apply If.split|apply Gd.split|apply Gd.split')<;>intro _))
  .rename_i h;rw[h,if_pos rfl]at hM;exact Cl.fail hM hno
  .rename_i h;exact hJ _ _ ⟨rfl,h,kpA⟩
 .rintro _ w' jk ⟨rfl,hc,hk⟩;rw[hc]at hM;refine gg ?_;refine .set hm ((hk.same b hlt trivial).trans hb) hc λes' clock' hm'=>?_;refine hok _ _ _ hM (Kp.yS hk.any (by simp[Out]) _) ⟨es',clock',aC rfl (Nat.lt_of_lt_of_le hlt hk.size),hm'⟩
theorem KI(w:World)(b:Nat)(l:List Int)(k:Int)(at_:Nat)(h:aH .i64 w b l):
  Calls P 172 #[.map (some b),.int .i64 k,i64 at_] w (Post w (once l k at_) [(b,b+1)] λl' _ w'=>aH .i64 w' b l'):=by
 refine Post.R λR M hM hok hno=>?_;refine cf [] Tryz.func172 ?_;obtain⟨es,clock,hb,hm⟩:=h;have hlt:=lt_of_heap hb;rw[once]at hM;refine Jn.by (λvals w'=>vals=[]/\l.contains k=false/\Kp [] w w') (λJ hJ=>?_) ?_
 .refine .ZF hm hb ?_
  repeat' (first|refine .a ?_|refine .d ?_|refine .s ?_|refine .t ?_|refine .f ?_|((first|apply If.split|apply Gd.split|apply Gd.split')<;>intro _))
  .rename_i h;rw[h,if_pos rfl]at hM;exact Cl.fail hM hno
  .rename_i h;exact hJ _ _ ⟨rfl,h,kpA⟩
 .rintro _ w' jk ⟨rfl,hc,hk⟩;rw[hc]at hM;refine gg ?_;refine .ZF hm ((hk.same b hlt trivial).trans hb) hc λes' clock' hm'=>?_;refine hok _ _ _ hM (Kp.yS hk.any (by simp[Out]) _) ⟨es',clock',aC rfl (Nat.lt_of_lt_of_le hlt hk.size),hm'⟩
theorem Ws(w:World)(b:Nat)(l:List Int)(k:Int)(at_:Nat)(h:aH .u32 w b l):
  Calls P 211 #[.map (some b),.int .u32 k,i64 at_] w (Post w (once l k at_) [(b,b+1)] λl' _ w'=>aH .u32 w' b l'):=by
 refine Post.R λR M hM hok hno=>?_;refine cf [] Tryz.func211 ?_;obtain⟨es,clock,hb,hm⟩:=h;have hlt:=lt_of_heap hb;rw[once]at hM;refine Jn.by (λvals w'=>vals=[]/\l.contains k=false/\Kp [] w w') (λJ hJ=>?_) ?_
 .refine .ZF hm hb ?_
  repeat' (first|refine .a ?_|refine .d ?_|refine .s ?_|refine .t ?_|refine .f ?_|((first|apply If.split|apply Gd.split|apply Gd.split')<;>intro _))
  .rename_i h;rw[h,if_pos rfl]at hM;exact Cl.fail hM hno
  .rename_i h;exact hJ _ _ ⟨rfl,h,kpA⟩
 .rintro _ w' jk ⟨rfl,hc,hk⟩;rw[hc]at hM;refine gg ?_;refine .ZF hm ((hk.same b hlt trivial).trans hb) hc λes' clock' hm'=>?_;refine hok _ _ _ hM (Kp.yS hk.any (by simp[Out]) _) ⟨es',clock',aC rfl (Nat.lt_of_lt_of_le hlt hk.size),hm'⟩
def BL(H:Hp)(v:Value)(nums:List Int):Prop:=
 ∃b nm at_ ns sb rest cap,v=pt b 0/\H b=some ([.string (bs nm),i64 at_,ns,.slice (some ⟨sb,0,none⟩) nums.length cap],fG)/\H sb=some (nums.map i64++rest,jI)/\nums.length<=12
def jP(H:Hp):List (By×Value)->List (By×List Int)->Prop
 |[],[]=>True
 |x::m,y::l=>x.1=y.1/\BL H x.2 y.2/\jP H m l
 |_,_=>False
theorem BL.le(h:BL H v l)(k:Hle H H'):BL H' v l:=by
 obtain⟨b,nm,at_,ns,sb,rest,cap,h1,h2,h3,h4⟩:=h;exact⟨b,nm,at_,ns,sb,rest,cap,h1,k _ _ h2,k _ _ h3,h4⟩
theorem jP.le(k:Hle H H'):∀{m:List (By×Value)} {l:List (By×List Int)},jP H m l->jP H' m l
 |[],[],_=>trivial
 |_::_,_::_,h=>⟨h.1,h.2.1.le k,jP.le k h.2.2⟩
 |[],_::_,h=>h.elim
 |_::_,[],h=>h.elim
def bF(B:Nat)(p:PS):List Value:=
 [pt B 0,i64 p.w.kind,.string (bs p.w.s),i64 p.w.at_,i64 p.w.n,.map (some (B+1)),.map (some (B+2)),.map (some (B+3)),.map (some (B+4)),i64 p.n0,i64 p.n1,i64 p.n2]
structure PR (B:Nat) (H:Hp) (w:World) (p:PS):Prop where
 gl:Gl w
 hB:NG<=B
 sub:Sub H w
 dom:∀b x,H b=some x->B+6<=b
 lt:B+6<=w.heap.size
 hp:w.heap[B+5]?=some (cl (bF B p) bg)
 ht:w.heap[B]?=some (cl [.string (bs p.txt),i64 p.pos] rC)
 hn:aW w (B+1) p.names
 hc:∃es clock,w.heap[B+2]?=some (.map es clock)/\MK κs es clock (p.consts.map λx=>(x.1,i64 x.2))
 he:∃es clock m,w.heap[B+3]?=some (.map es clock)/\MK κs es clock m/\jP H m p.enums
 hg:aH .u32 w (B+4) p.aj
 len:p.txt.length<=1200
 pos:p.pos<=p.txt.length
 c0:p.n0<=24
 c1:p.n1<=40
 c2:p.n2<=4
theorem PR.kp(h:PR B H w p)(k:Kp X w w')(h0:∀i,i<B->Out X i)(h1:∀i,B<=i->i<B+6->Out X i)(h2:∀b x,H b=some x->Out X b):PR B H w' p:=by
 have hl:=h.lt;have hB:=h.hB;have hs:∀i,B<=i->i<B+6->w'.heap[i]?=w.heap[i]?:=λi a b=>k.same i omg (h1 i a b);obtain⟨e1,c1,n1,n2⟩:=h.hn;obtain⟨e2,c2,k1,k2⟩:=h.hc;obtain⟨e3,c3,m,l1,l2,l3⟩:=h.he;obtain⟨e4,c4,g1,g2⟩:=h.hg
 exact { gl:=h.gl.kp k (λi hi=>h0 i omg),hB:=h.hB,sub:=h.sub.kp k h2,dom:=h.dom,lt:=by have:=k.size;omega,hp:=(hs _ omg omg).trans h.hp,ht:=(hs _ omg omg).trans h.ht,
         hn := ⟨e1, c1, (hs _ omg omg).trans n1, n2⟩, hc := ⟨e2, c2, (hs _ omg omg).trans k1, k2⟩,
         he := ⟨e3, c3, m, (hs _ omg omg).trans l1, l2, l3⟩, hg := ⟨e4, c4, (hs _ omg omg).trans g1, g2⟩,
         len := h.len, pos := h.pos, c0 := h.c0, c1 := h.c1, c2 := h.c2 }
theorem PR.ext(h:PR B H w p)(k:Kp [] w w'):PR B H w' p:=h.kp k (λ_ _=>trivial) (λ_ _ _=>trivial) (λ_ _ _=>trivial)
theorem PR.map(h:PR B H w p)(k:Kp [(s,s+1)] w w')(hs:B+6<=s)(hm:w.heap[s]?=some (.map es clock)):PR B H w' p:=by
 refine h.kp k (λi h1=>⟨omg,trivial⟩) (λi h1 h2=>⟨omg,trivial⟩) (λb x hx=>⟨?_,trivial⟩);have:=h.sub b x.1 x.2 hx
 by_cases e:b=s
 .subst e;rw[hm]at this;cases this
 .omega
theorem H8(h:PR B H w p):
  Calls P 107 #[pt (B+5) 0] w (Post w (bad p:Res β) [] λ_ _ _=>False):=by
 refine Post.R λR M hM hok hno=>?_;refine cf [] Tryz.func107 ?_;have hp:=h.hp;refine gg ?_;exact Cl.fail hM hno
theorem lu(h:PR B H w p)(n most:Nat):
  Calls P 108 #[pt (B+5) 0,i64 n,i64 most] w (Post w (count p n most) [] λ_ _ w'=>w'=w):=by
 refine Post.R λR M hM hok hno=>?_;refine cf [] Tryz.func108 ?_;have hp:=h.hp;rw[count]at hM;refine gg ?_;refine .split (λhc=>?_) (λhc=>?_)
 .rw[if_pos (by simpa using hc)]at hM;refine gg ?_;exact Cl.fail hM hno
 .rw[if_neg (by simpa using hc)]at hM;exact hok _ _ _ hM (Kp.refl _ _) rfl
theorem PR.step(h:PR B H w p)(k:Kp [(B,B+1),(B+5,B+6)] w w')(hp:w'.heap[B+5]?=some (cl (bF B p') bg))
  (ht:w'.heap[B]?=some (tx p'.txt p'.pos)) (e1:p'.names=p.names) (e2:p'.consts=p.consts) (e3:p'.enums=p.enums) (e4:p'.aj=p.aj)
  (e5:p'.txt=p.txt) (e6:p'.pos<=p'.txt.length) (c0:p'.n0<=24) (c1:p'.n1<=40) (c2:p'.n2<=4):PR B H w' p':=by
 have hl:=h.lt;have hB:=h.hB;have hs:∀i,B+1<=i->i<B+5->w'.heap[i]?=w.heap[i]?:=λi a b=>k.same i omg ⟨omg,omg,trivial⟩;obtain⟨a1,a2,a3,a4⟩:=h.hn;obtain⟨b1,b2,b3,b4⟩:=h.hc;obtain⟨d1,d2,m,d3,d4,d5⟩:=h.he;obtain⟨f1,f2,f3,f4⟩:=h.hg
 exact { gl:=h.gl.kp k (λi hi=>⟨omg,omg,trivial⟩),hB:=h.hB,sub:=h.sub.kp k (λb x hx=>by have:=h.dom b x hx;exact⟨omg,omg,trivial⟩),dom:=h.dom,
         lt := by have := k.size; omega, hp := hp, ht := ht,
         hn := by rw [e1]; exact ⟨a1, a2, (hs _ omg omg).trans a3, a4⟩, hc := by rw [e2]; exact ⟨b1, b2, (hs _ omg omg).trans b3, b4⟩,
         he := by rw [e3]; exact ⟨d1, d2, m, (hs _ omg omg).trans d3, d4, d5⟩, hg := by rw [e4]; exact ⟨f1, f2, (hs _ omg omg).trans f3, f4⟩,
         len := by rw [e5]; exact h.len, pos := e6, c0 := c0, c1 := c1, c2 := c2 }
abbrev PX(B:Nat):List (Nat×Nat):=[(B,B+6)]
theorem qR(h:PR B H w p):
  Calls P 62 #[pt (B+5) 0] w (Post w (advance p) (PX B) λp' v w'=>v=.tuple #[]/\PR B H w' p'):=by
 refine Post.R λR M hM hok hno=>?_;refine cf [] Tryz.func62 ?_;have hp:=h.hp;have hl:=h.lt;rw[bF]at hp;rw[advance]at hM;refine gg ?_;refine Cl.bind (w0:=w) (X0:=PX B) hM (w_Next h.gl h.hB h.ht h.len h.pos) hno ?_;rintro x v w1 hM hk hq hs ⟨rfl,ht,hx⟩;have hp1:w1.heap[B+5]?=_:=(hk.same (B+5) omg ⟨omg,trivial⟩).trans hp;unfold wdv;refine gg ?_;have ht2:(ag w1 (B+5) (cl (bF B { p with w:=x.1,pos:=x.2 }) bg)).heap[B]?=some (tx p.txt x.2):=(bW omg).trans ht;have hp2:(ag w1 (B+5) (cl (bF B { p with w:=x.1,pos:=x.2 }) bg)).heap[B+5]?=some (cl (bF B { p with w:=x.1,pos:=x.2 }) bg):=aC rfl omg;have hk2:Kp [(B,B+1),(B+5,B+6)] w (ag w1 (B+5) (cl (bF B { p with w:=x.1,pos:=x.2 }) bg)):=
  Kp.yS (hk.mono (Y:=[(B,B+1),(B+5,B+6)]) λi hi ho=>⟨ho.1,trivial⟩) (by simp only[Out];omega) _
 exact hok _ _ _ hM kpA ⟨rfl,h.step hk2 hp2 ht2 rfl rfl rfl rfl rfl hx h.c0 h.c1 h.c2⟩
theorem jQ(h:PR B H w p)(s:By):
  Calls P 169 #[pt (B+5) 0,.string (bs s)] w (Post w (take p s) (PX B) λx v w'=>v=.bool x.1/\PR B H w' x.2):=by
 refine Post.R λR M hM hok hno=>?_;refine cf [] Tryz.func169 ?_;have hp:=h.hp;have hl:=h.lt;rw[bF]at hp;rw[take]at hM;refine gg ?_;refine Cl.plain (w0:=w) (X0:=PX B) (yc w p.w s) (λw1 hk hq hs=>?_) kpA;have h1:=h.ext hk;cases hc:p.w.is s with
 |true=>
  rw[hc,if_pos rfl]at hM;refine gg ?_;refine Cl.bind (w0:=w) (X0:=PX B) hM (qR h1) hno ?_;rintro p' v w2 hM hk2 hq2 hs2 ⟨rfl,h2⟩;exact hok _ _ _ hM hq2.out ⟨rfl,h2⟩
 |false=>
  rw[hc,if_neg dcd]at hM;refine gg ?_;exact hok _ _ _ hM kpA ⟨rfl,h1⟩
theorem MN(h:PR B H w p)(l:List By)(hb:w.heap[b]?=some (cl (l.map κs) t))(hB:B+6<=b)(hl:l.length<100):
  Calls P 165 #[pt (B+5) 0,.slice (some ⟨b,0,none⟩) l.length l.length] w (Post w (want p l) (PX B) λp' v w'=>v=.tuple #[]/\PR B H w' p'):=by
 refine Post.R λR M hM hok hno=>?_;refine cf [8] Tryz.func165 ?_;have hbl:=lt_of_heap hb;have hlB:=h.lt;refine gg ?_;refine Lp.nat (n:=l.length) (λn vals w'=>∃(i:Nat) (p':PS),vals=[i64 i]/\i+n=l.length/\PR B H w' p'/\M=want p' (l.drop i)/\Kp (PX B) w w') ⟨0,p,rfl,omg,h,hM,Kp.refl _ _⟩ ?_;rintro n _ w1 jk C ⟨i,p',rfl,hi,h1,hM1,hk⟩ hC;have hb1:w1.heap[b]?=some (cl (l.map κs) t):=(hk.same b hbl ⟨omg,trivial⟩).trans hb;have hp:=h1.hp;have hl1:=h1.lt;have hs1:=hk.size;rw[bF]at hp;refine gg ?_;refine .split (λhc=>?_) (λhc=>?_)
 .have hlt:i<l.length:=by have:=of_decide_eq_true hc;omega
  rw[List.drop_eq_getElem_cons hlt,want]at hM1;have hx:(l.map κs)[0+i*1]?=some (κs l[i]):=by rw[Nat.zero_add,Nat.mul_one,List.getElem?_map,List.getElem?_eq_getElem hlt];rfl
  refine .s ?_;refine Ld.s ?_ hb1 hx;cases hw:p'.w.is l[i]with
  |true=>
   rw[hw,if_pos rfl]at hM1;refine Jn.by (λ_ w2=>PR B H w2 p'/\Kp (PX B) w w2) (λJ hJ=>?_) ?_
   .refine gg ?_;refine Cl.plain (w0:=w) (X0:=PX B) (yc w1 p'.w l[i]) (λw2 hk2 hq hs=>?_) kpA;rw[hw];refine gg ?_;exact hJ _ _ ⟨h1.ext hk2,hq.out⟩
   .rintro _ w2 jk2 ⟨h2,hk2⟩;refine Cl.bind (w0:=w) (X0:=PX B) hM1 (qR h2) hno ?_;rintro p2 v w3 hM3 hk3 hq3 hs3 ⟨rfl,h3⟩;refine gg ?_;exact hC (n - 1) _ _ omg ⟨i+1,p2,rfl,omg,h3,hM3,hq3.out⟩
  |false=>
   rw[hw,if_neg dcd]at hM1;refine Jn.by (λ_ _=>False) (λJ hJ=>?_) (λ_ _ _ hf=>hf.elim);refine gg ?_;refine Cl.plain (w0:=w) (X0:=PX B) (yc w1 p'.w l[i]) (λw2 hk2 hq hs=>?_) kpA;rw[hw];refine gg ?_;refine Cl.bind (w0:=w) (X0:=PX B) (m:=(bad p':Res PS)) (k:=λx=>.ok x) (by rw[hM1];rfl) (H8 (h1.ext hk2)) hno ?_;rintro _ _ _ _ _ _ _ hf;exact hf.elim
 .have hge:i=l.length:=by have:=of_decide_eq_false hc;omega
  subst hge;rw[List.drop_length,want]at hM1;refine gg ?_;exact hok _ _ _ hM1 hk ⟨rfl,h1⟩
theorem SY(h:PR B H w p):
  Calls P 207 #[pt (B+5) 0] w (Post w (name p) [] λx v w'=>x=p.w/\v=wdv x/\PR B H w' p):=by
 refine Post.R λR M hM hok hno=>?_;refine cf [] Tryz.func207 ?_;have hp:=h.hp;have hl:=h.lt;rw[bF]at hp;rw[name]at hM;refine gg ?_;cases hc:p.w.kind==1 with
 |true=>
  rw[hc,if_pos rfl]at hM;have hc':((p.w.kind:Int) != 1)=false:=by have:=beq_iff_eq.mp hc;rw[this];rfl
  refine Jn.direct ?_;refine gg ?_;intro jk;refine gg ?_;exact hok _ _ _ hM kpA ⟨rfl,rfl,h.ext kpA⟩
 |false=>
  rw[hc,if_neg dcd]at hM;have hc':((p.w.kind:Int) != 1)=true:=by have:=beq_eq_false_iff_ne.mp hc;rw[bne_iff_ne];omega
  refine Jn.by (λ_ _=>False) (λJ hJ=>?_) (λ_ _ _ hf=>hf.elim);refine gg ?_;refine Cl.bind (w0:=w) (X0:=[]) (m:=(bad p:Res Wd)) (k:=λx=>.ok x) (by rw[hM];rfl) (H8 (h.ext kpA)) hno ?_;rintro _ _ _ _ _ _ _ hf;exact hf.elim
theorem PR.tmp(h:PR B H w p)(k:Kp [(a,a+1)] w w')(hB:B+6<=a)(ha:H a=none):PR B H w' p:=by
 refine h.kp k (λi h1=>⟨omg,trivial⟩) (λi h1 h2=>⟨omg,trivial⟩) (λb x hx=>⟨?_,trivial⟩)
 by_cases e:b=a
 .subst e;rw[ha]at hx;cases hx
 .omega
theorem Sub.fresh(h:Sub H w)(ha:w.heap.size<=a):H a=none:=by
 cases hx:H a with
 |none=>rfl
 |some x=>have:=lt_of_heap (h a x.1 x.2 hx);omega
theorem PR.names(h:PR B H w p)(k:Kp [(B+1,B+2)] w w')(hn:aW w' (B+1) l):PR B H w' { p with names:=l }:=by
 have hl:=h.lt;have hB:=h.hB;have hs:∀i,B<=i->i<B+6->i≠B+1->w'.heap[i]?=w.heap[i]?:=λi a b c=>k.same i omg ⟨omg,trivial⟩;obtain⟨b1,b2,b3,b4⟩:=h.hc;obtain⟨d1,d2,m,d3,d4,d5⟩:=h.he;obtain⟨f1,f2,f3,f4⟩:=h.hg
 exact { gl:=h.gl.kp k (λi hi=>⟨omg,trivial⟩),hB:=h.hB,sub:=h.sub.kp k (λb x hx=>by have:=h.dom b x hx;exact⟨omg,trivial⟩),dom:=h.dom,
         lt := by have := k.size; omega, hp := (hs _ omg omg omg).trans h.hp, ht := (hs _ omg omg omg).trans h.ht,
         hn := hn, hc := ⟨b1, b2, (hs _ omg omg omg).trans b3, b4⟩,
         he := ⟨d1, d2, m, (hs _ omg omg omg).trans d3, d4, d5⟩, hg := ⟨f1, f2, (hs _ omg omg omg).trans f3, f4⟩,
         len := h.len, pos := h.pos, c0 := h.c0, c1 := h.c1, c2 := h.c2 }
theorem KG(h:PR B H w p):
  Calls P 166 #[pt (B+5) 0] w (Post w (M.own p) (PX B) λx v w'=>v=.agg #[.string (bs x.1.s),i64 x.1.at_]/\PR B H w' x.2):=by
 refine Post.R λR M hM hok hno=>?_;refine cf [] Tryz.func166 ?_;have hl:=h.lt;rw[M.own]at hM;refine gg ?_;have h0:=h.ext (w':=w.alloc (cl [.string ⟨#[]⟩,.int .i64 0] 230)) kpA;refine Cl.bind (w0:=w) (X0:=PX B) hM (SY h0) hno ?_;rintro x v w1 hM hk1 hq1 hs1 ⟨rfl,rfl,h1⟩;rw[size_alloc]at hs1;unfold wdv;have hp:=h1.hp;rw[bF]at hp;have hl1:=h1.lt;refine gg ?_;refine Cl.bind (w0:=w) (X0:=PX B) hM (Yh _ (B+1) p.names p.w.s p.w.at_ ?_) hno ?_
 .obtain⟨es,ck,a,b⟩:=h1.hn;exact⟨es,ck,(bW omg).trans ((cZ omg).trans a),b⟩
 rintro l v w2 hM hk2 hq2 hs2 hn2;rw[size_drew,ah,size_alloc]at hs2;have h2:PR B H w2 { p with names:=l }:=by
  refine PR.names (w:=(ag (w1.alloc (cl [.int .i64 0,.string ⟨#[]⟩,.int .i64 0,.int .i64 0] 151)) w1.heap.size (cl [i64 p.w.kind,.string (bs p.w.s),i64 p.w.at_,i64 p.w.n] 151)).drew) ?_ hk2 hn2;exact h1.ext kpA
 refine Cl.bind (w0:=w) (X0:=PX B) hM (qR h2) hno ?_;rintro p3 v w3 hM hk3 hq3 hs3 ⟨rfl,h3⟩;refine gg ?_;exact hok _ _ _ hM kpA ⟨rfl,h3.tmp (a:=w.heap.size) kpA omg (h.sub.fresh (Nat.le_refl _))⟩
theorem O8(h:PR B H w p)(hs:B+6<=s)(hset:aW w s l):
  Calls P 212 #[pt (B+5) 0,.map (some s)] w (Post w (called p l) [(B,B+6),(s,s+1)] λx v w'=>v=wdv x.1/\aW w' s x.2.1/\PR B H w' x.2.2):=by
 refine Post.R λR M hM hok hno=>?_;refine cf [] Tryz.func212 ?_;have hl:=h.lt;obtain⟨es,ck,hm1,hm2⟩:=hset;have hsl:=lt_of_heap hm1;rw[called]at hM;refine gg ?_;have h0:=h.ext (w':=w.alloc (cl [.int .i64 0,.string ⟨#[]⟩,.int .i64 0,.int .i64 0] 151)) kpA;refine Cl.bind (w0:=w) (X0:=[(B,B+6),(s,s+1)]) hM (SY h0) hno ?_;rintro x v w1 hM hk1 hq1 hs1 ⟨rfl,rfl,h1⟩;rw[size_alloc]at hs1;unfold wdv;have hp:=h1.hp;rw[bF]at hp;have hl1:=h1.lt;refine gg ?_;have hm3:(ag (w1.alloc (cl [.int .i64 0,.string ⟨#[]⟩,.int .i64 0,.int .i64 0] 151)) w1.heap.size (cl [i64 p.w.kind,.string (bs p.w.s),i64 p.w.at_,i64 p.w.n] 151)).heap[s]?=some (.map es ck):=
  (bW omg).trans ((cZ omg).trans ((hk1.same s (by rw[size_alloc];omega) trivial).trans ((cZ hsl).trans hm1)))
 refine Cl.bind (w0:=w) (X0:=[(B,B+6),(s,s+1)]) hM (Yh _ s l p.w.s p.w.at_ ⟨es,ck,hm3,hm2⟩) hno ?_;rintro l' v w2 hM hk2 hq2 hs2 hn2;rw[ah,size_alloc]at hs2;have h2:PR B H w2 p:=by
  refine PR.map (w:=(ag (w1.alloc (cl [.int .i64 0,.string ⟨#[]⟩,.int .i64 0,.int .i64 0] 151)) w1.heap.size (cl [i64 p.w.kind,.string (bs p.w.s),i64 p.w.at_,i64 p.w.n] 151))) ?_ hk2 hs hm3;exact h1.ext kpA
 refine Cl.bind (w0:=w) (X0:=[(B,B+6),(s,s+1)]) hM (qR h2) hno ?_;rintro p3 v w3 hM hk3 hq3 hs3 ⟨rfl,h3⟩;obtain⟨es2,ck2,hn3,hn4⟩:=hn2;have hs2l:=lt_of_heap hn3;refine gg ?_;exact hok _ _ _ hM kpA ⟨rfl,⟨es2,ck2,(bW omg).trans ((hk3.same s omg ⟨omg,trivial⟩).trans hn3),hn4⟩,h3.tmp (a:=w.heap.size) kpA omg (h.sub.fresh (Nat.le_refl _))⟩
end Go.W.T
namespace Go.W.T
open Go Go.W Go.M Go.Proofs
theorem sW[BEq α](f:β->γ)(l:List (α×β))(a:α):(l.map λx=>(x.1,f x.2)).lookup a=(l.lookup a).map f:=by
 induction l with
 |nil=>rfl
 |cons c r ih=>
  obtain⟨k,v⟩:=c;simp only[List.map_cons,List.lookup_cons];cases a==k with
  |true=>rfl
  |false=>exact ih
def zD{σ:Type}(kv:Value)(kf:Int->Nat->Res σ)(I:World->Prop)(I':σ->World->Prop)(X:List (Nat×Nat)):Prop:=
 (kv=.nilFunc/\∃s,(∀n a,kf n a=.ok s)/\∀w,I w->I' s w) \/
 (isNil .fn kv=some false/\∀(w:World) (n:Int) (a:Nat) (E:KE) (K:KV),I w ->
  (∀s v w',kf n a=.ok s->Kp X w w'->w.heap.size<=w'.heap.size->I' s w'->K v w')->(∀e c ch w',kf n a=.no e c->Kp X w w'->Flt e c ch w'->E ch w')->oC P kv #[.int .i64 n,i64 a] w E K)
theorem yg(h:PR B H w p)(lo hi:Int)(kv:Value)(kf:Int->Nat->Res σ)(I:World->Prop)(I':σ->World->Prop)(X:List (Nat×Nat))
  (upd:σ->PS->PS)
  (hI:I w) (hIs:∀w1 w2,I w1->Kp [] w1 w2->I w2) (hkeep:zD kv kf I I' X)
  (hup:∀s w',I' s w'->PR B H w' (upd s p)) (hadv:∀s,advance (upd s p)=(advance p).andThen λq=>.ok (upd s q)):
  Calls P 167 #[pt (B+5) 0,i64 lo,i64 hi,kv] w (Post w (value p lo hi kf) ((B,B+6)::X) λx v w'=>v=.int .i64 x.1/\PR B H w' (upd x.2.1 x.2.2)/\∃w1,I' x.2.1 w1/\Kp (PX B) w1 w'):=by
 refine Post.R λR M hM hok hno=>?_;refine cf [10] Tryz.func167 ?_;have hp:=h.hp;rw[bF]at hp;have hl:=h.lt;rw[value]at hM;refine gg ?_;have hA:Kp [] w (ag (w.alloc (cl [.int .i64 0,.string ⟨#[]⟩,.int .i64 0,.int .i64 0] 151)) w.heap.size (cl [i64 p.w.kind,.string (bs p.w.s),i64 p.w.at_,i64 p.w.n] 151)):=by exact kpA
 have hAb:(ag (w.alloc (cl [.int .i64 0,.string ⟨#[]⟩,.int .i64 0,.int .i64 0] 151)) w.heap.size (cl [i64 p.w.kind,.string (bs p.w.s),i64 p.w.at_,i64 p.w.n] 151)).heap[w.heap.size]?=some (cl [i64 p.w.kind,.string (bs p.w.s),i64 p.w.at_,i64 p.w.n] 151):=aC rfl (by simp only[size_alloc];omega);generalize ag (w.alloc (cl [.int .i64 0,.string ⟨#[]⟩,.int .i64 0,.int .i64 0] 151)) w.heap.size (cl [i64 p.w.kind,.string (bs p.w.s),i64 p.w.at_,i64 p.w.n] 151)=wA at *;have hAs:=lt_of_heap hAb;have hdf:∀{w1:World},Kp [] w w1->Kp ((B,B+6)::X) w w1:=λk=>k.any;refine Jn.by (λvals w1=>∃n,vals=[.int .i64 n]/\qK p=.ok n/\Kp [] w w1/\w1.heap[w.heap.size]?=some (cl [i64 p.w.kind,.string (bs p.w.s),i64 p.w.at_,i64 p.w.n] 151)) (λJ hJ=>?_) ?_
 .have hM0:∀e a,qK p=.no e a->M=.no e a:=λe a he=>by rw[hM,he];rfl
  rw[qK]at hJ hM0;cases h3:p.w.kind==3 with
  |true=>
   rw[h3]at hJ;have h3':((p.w.kind:Int)==3)=true:=by have:=beq_iff_eq.mp h3;rw[this];rfl
   refine gg ?_;exact hJ _ _ ⟨_,rfl,rfl,hA,hAb⟩
  |false=>
   rw[h3]at hJ hM0;have h3':((p.w.kind:Int)==3)=false:=by have:=beq_eq_false_iff_ne.mp h3;rw[beq_eq_false_iff_ne];omega
   simp only[Bool.false_eq_true,if_false]at hJ hM0;refine gg ?_;refine Cl.plain (w0:=w) (X0:=[]) (yc wA p.w [84,82,85,69]) (λw1 hk1 hq1 hs1=>?_) kpA;have hb1:w1.heap[w.heap.size]?=_:=(hk1.same _ hAs trivial).trans hAb;refine .split (λhT=>?_) (λhT=>?_)
   .rw[hT,if_pos rfl]at hJ;exact hJ _ _ ⟨1,rfl,rfl,hq1.out,hb1⟩
   .rw[hT,if_neg dcd]at hJ hM0;refine gg ?_;refine Cl.plain (w0:=w) (X0:=[]) (yc w1 p.w [70,65,76,83,69]) (λw2 hk2 hq2 hs2=>?_) kpA;have hb2:w2.heap[w.heap.size]?=_:=(hk2.same _ omg trivial).trans hb1;refine .split (λhF=>?_) (λhF=>?_)
    .rw[hF,if_pos rfl]at hJ;exact hJ _ _ ⟨0,rfl,rfl,hq2.out,hb2⟩
    .rw[hF,if_neg dcd]at hJ hM0;have hp2:w2.heap[B+5]?=_:=(hq2.out.same _ omg trivial).trans hp;cases h1:p.w.kind==1 with
     |true=>
      rw[h1,if_pos rfl]at hJ hM0;have h1':((p.w.kind:Int)==1)=true:=by have:=beq_iff_eq.mp h1;rw[this];rfl
      obtain⟨es,ck,hc1,hc2⟩:=h.hc;have hc3:w2.heap[B+2]?=_:=(hq2.out.same _ omg trivial).trans hc1;refine gg ?_;refine Lk.str hc2 hc3 ?_;rw[sW i64 p.consts p.w.s];cases hv:p.consts.lookup p.w.s with
      |none=>
       rw[hv]at hM0;refine gg ?_;refine Jn.by (λ_ _=>False) (λJ2 hJ2=>?_) (λ_ _ _ hf=>hf.elim);refine gg ?_;exact Cl.fail (hM0 _ _ rfl) hno (hdf kpA)
      |some v=>
       rw[hv]at hJ;refine gg ?_;refine Jn.direct ?_;refine gg ?_;refine If.f ?_ rfl;exact λ_=>hJ _ _ ⟨v,rfl,rfl,hq2.out.drew,hb2⟩
     |false=>
      rw[h1,if_neg dcd]at hM0;have h1':((p.w.kind:Int)==1)=false:=by have:=beq_eq_false_iff_ne.mp h1;rw[beq_eq_false_iff_ne];omega
      refine gg ?_;refine Cl.bind (w0:=w) (X0:=(B,B+6)::X) (m:=(bad p:Res Unit)) (k:=λ_=>M) (by rw[hM0 _ _ rfl];rfl) (H8 (h.ext hq2.out)) hno ?_ (hdf kpA) (λ_ _ _=>trivial);rintro _ _ _ _ _ _ _ hf;exact hf.elim
 .rintro _ w1 jk ⟨n,rfl,hn,hk1,hb1⟩;rw[hn]at hM;simp only[Res.aS]at hM;have hs1:=lt_of_heap hb1;have h1:=h.ext hk1;have hat:∀w2,Kp [] w1 w2->w2.heap[w.heap.size]?=some (cl [i64 p.w.kind,.string (bs p.w.s),i64 p.w.at_,i64 p.w.n] 151):=λw2 k=>(k.same _ hs1 trivial).trans hb1;refine .s ?_
  by_cases hr:n<lo\/hi<n
  .rw[if_pos hr]at hM;refine Jn.by (λ_ _=>False) (λJ2 hJ2=>?_) (λ_ _ _ hf=>hf.elim)
   by_cases hlo:n<lo
   .have hlo':decide (n<lo)=true:=decide_eq_true hlo;refine gg ?_;exact Cl.fail hM hno (hdf hk1)
   .have hlo':decide (n<lo)=false:=decide_eq_false hlo;have hhi':decide (n>hi)=true:=decide_eq_true omg;refine gg ?_;exact Cl.fail hM hno (hdf hk1)
  .rw[if_neg hr]at hM;have hlo':decide (n<lo)=false:=decide_eq_false omg;have hhi':decide (n>hi)=false:=decide_eq_false omg;refine Jn.direct ?_;refine gg ?_;intro jk2;have rest:∀s w2,kf n p.w.at_=.ok s->Kp ((B,B+6)::X) w w2->I' s w2->Cl P 62 #[pt (B+5) 0] w2 (pE R) λx70 w71=>R (.returned (.int .i64 n)) w71:=by
    intro s w2 hs hkw hi2;rw[hs]at hM;simp only[Res.aS]at hM;have hkn:∀{w3:World} {Y:List (Nat×Nat)},Kp Y w2 w3->(∀i,Out (PX B) i->Out Y i)->Kp ((B,B+6)::X) w w3:=λk hy=>hkw.trans k λi hi ho=>⟨ho,hy i ⟨ho.1,trivial⟩⟩;cases ha:advance p with
    |no e a=>
     rw[ha]at hM;refine Cl.jg (w0:=w) (X0:=(B,B+6)::X) (m:=advance (upd s p)) (k:=λ_=>M) (by rw[hadv,ha,hM];rfl) (qR (hup s w2 hi2)) hno ?_ hkw (λi hi ho=>⟨ho.1,trivial⟩);intro q v w3 hq;rw[hadv,ha]at hq;cases hq
    |ok q=>
     rw[ha]at hM;refine Cl.jg (w0:=w) (X0:=(B,B+6)::X) (m:=advance (upd s p)) (k:=λ_=>M) (by rw[hadv,ha];rfl) (qR (hup s w2 hi2)) hno ?_ hkw (λi hi ho=>⟨ho.1,trivial⟩);rintro q' v w3 hq _ hk3 hq3 hs3 ⟨rfl,hp3⟩;rw[hadv,ha]at hq;cases hq;exact hok _ _ _ hM hq3.out ⟨rfl,hp3,w2,hi2,hk3⟩
   have hI1:I w1:=hIs _ _ hI hk1;rcases hkeep with⟨hkv,s,hks,hI'⟩|⟨hkv,hcall⟩
   .subst hkv;refine Jn.direct ?_;refine gg ?_;intro jk3;exact rest s w1 (hks n _) (hdf hk1) (hI' _ hI1)
   .refine Jn.by (λ_ w2=>∃s,kf n p.w.at_=.ok s/\Kp ((B,B+6)::X) w w2/\I' s w2) (λJ2 hJ2=>?_) ?_
    .refine En.s ?_ hkv;refine gg ?_;refine hcall w1 n p.w.at_ _ _ hI1 (λs v w2 hs hk2 hs2 hi2=>?_) (λe c ch w2 hs hk2 hf=>?_)
     .exact hJ2 _ _ ⟨s,hs,hk1.trans hk2 λi hi ho=>⟨trivial,ho.2⟩,hi2⟩
     .exact hno e c ch w2 (by rw[hM,hs];rfl) (hk1.trans hk2 λi hi ho=>⟨trivial,ho.2⟩) hf
    .rintro _ w2 jk3 ⟨s,hs,hk2,hi2⟩;exact rest s w2 hs hk2 hi2
theorem Hz(h:PR B H w p)(lo hi:Int):
  Calls P 167 #[pt (B+5) 0,i64 lo,i64 hi,.nilFunc] w (Post w (value p lo hi qN) (PX B) λx v w'=>v=.int .i64 x.1/\PR B H w' x.2.2):=by
 refine(yg h lo hi .nilFunc qN (λw'=>PR B H w' p) (λ_ w'=>PR B H w' p) [] (λ_ q=>q) h (λ_ _ a k=>a.ext k) (Or.inl ⟨rfl,(),λ_ _=>rfl,λ_ a=>a⟩) (λ_ _ a=>a) (λ_=>by cases advance p<;>rfl)).mono ?_;rintro e w' ⟨hk,hm⟩;refine⟨hk,?_⟩;cases hv:value p lo hi qN with
 |ok x=>rw[hv]at hm;obtain⟨v,h1,h2,h3,_⟩:=hm;exact⟨v,h1,h2,h3⟩
 |no e a=>rw[hv]at hm;exact hm
theorem Uj(a b c:Value)(s:ByteArray)(w:World):(Instr.field BZ (.agg #[a,.string s,b,c]) 1).run P w=.ok (.string s) w:=by kernel_rfl
theorem MR(h:PR B H w p)(hs:B+6<=s)(hset:aW w s l):
  Calls P 175 #[pt (B+5) 0,.map (some s)] w (Post w (called p l) [(B,B+6),(s,s+1)] λx v w'=>v=.string (bs x.1.s)/\aW w' s x.2.1/\PR B H w' x.2.2):=by
 refine Post.R λR M hM hok hno=>?_;refine cf [] Tryz.func175 ?_;refine Cl.bind (w0:=w) (X0:=[(B,B+6),(s,s+1)]) (m:=called p l) (k:=λx=>.ok x) (by rw[hM];cases called p l<;>rfl) (O8 h hs hset) hno ?_;rintro x v w1 hM hk hq hs1 ⟨rfl,h2,h3⟩;refine fF.by (Uj _ _ _ _ _) ?_;exact hok _ _ _ hM hq.out ⟨rfl,h2,h3⟩
def Gr(H H':Hp)(n:Nat):Prop:=Hle H H'/\∀b x,H' b=some x->H b=some x\/n<=b
theorem Gr.refl(H:Hp)(n:Nat):Gr H H n:=⟨Hle.refl H,λ_ _ h=>Or.inl h⟩
theorem Gr.trans(h:Gr a b n)(k:Gr b c m)(hm:n<=m):Gr a c n:=
 ⟨h.1.trans k.1,λi x hx=>by
  rcases k.2 i x hx with h1|h1
  .exact h.2 i x h1
  .exact Or.inr omg⟩
theorem Gr.lacks(h:Gr H H' n)(ha:H a=none)(hn:a<n):H' a=none:=by
 cases hx:H' a with
 |none=>rfl
 |some x=>
  rcases h.2 a x hx with h1|h1
  .rw[ha]at h1;cases h1
  .omega
def hadd(H:Hp)(b:Nat)(l:List Value)(t:TypeId):Hp:=λi=>if i=b then some (l,t)else H i
theorem Aa(H:Hp)(b:Nat)(l:List Value)(t:TypeId):hadd H b l t b=some (l,t):=by simp[hadd]
theorem Gr.add(hb:H b=none)(hn:n<=b):Gr H (hadd H b l t) n:=
 ⟨λi x hx=>by
   unfold hadd;split
   .rename_i e;rw[e,hb]at hx;cases hx
   .exact hx,
  λi x hx=>by
   unfold hadd at hx;split at hx
   .exact Or.inr omg
   .exact Or.inl hx⟩
theorem PR.add(h:PR B H w p)(hb:w.heap[b]?=some (cl l t))(hB:B+6<=b)(hn:H b=none):PR B (hadd H b l t) w p:=by
 obtain⟨e3,c3,m,l1,l2,l3⟩:=h.he
 exact { h with
  sub:=λi l' t' hi=>by
   unfold hadd at hi;split at hi
   .rename_i e;cases hi;rw[e];exact hb
   .exact h.sub i l' t' hi
  dom:=λi x hx=>by
   unfold hadd at hx;split at hx
   .omega
   .exact h.dom i x hx
  he:=⟨e3,c3,m,l1,l2,jP.le (Gr.add (n:=0) hn (Nat.zero_le _)).1 l3⟩ }
def lq(H:Hp):Ty->Value->Prop
 |.basic s,v=>v=.iface Ij (.string (bs s))
 |.named s a,v=>∃b,v=.iface Ew (pt b 0)/\H b=some ([.string (bs s),i64 a],yx)
 |.bytes t f n,v=>v=.iface Ii (.agg #[.bool t,.bool f,i64 n])
 |.array ty f n,v=>∃u,v=.iface rW (.agg #[u,.bool f,i64 n])/\lq H ty u
 |.opt ty,v=>∃u,v=.iface oG (.agg #[u])/\lq H ty u
 |.void,v=>v=.iface JZ (.agg #[])
theorem lq.le(k:Hle H H'):∀{t:Ty} {v:Value},lq H t v->lq H' t v
 |.basic _,_,h=>h
 |.named _ _,_,⟨b,h1,h2⟩=>⟨b,h1,k _ _ h2⟩
 |.bytes ..,_,h=>h
 |.array ..,_,⟨u,h1,h2⟩=>⟨u,h1,lq.le k h2⟩
 |.opt _,_,⟨u,h1,h2⟩=>⟨u,h1,lq.le k h2⟩
 |.void,_,h=>h
theorem lq.form(h:lq H t v):∃a b,v=.iface a b:=by
 cases t with
 |basic s=>exact⟨_,_,h⟩
 |named s a=>obtain⟨b,h1,_⟩:=h;exact⟨_,_,h1⟩
 |bytes a b c=>exact⟨_,_,h⟩
 |array a b c=>obtain⟨u,h1,_⟩:=h;exact⟨_,_,h1⟩
 |opt a=>obtain⟨u,h1,_⟩:=h;exact⟨_,_,h1⟩
 |void=>exact⟨_,_,h⟩
theorem Yd(h:PR B H w p):
  Calls P 214 #[pt (B+5) 0] w (Post w (kindOf p) (PX B) λx v w'=>∃H',Gr H H' w.heap.size/\lq H' x.1 v/\PR B H' w' x.2):=by
 refine Post.R λR M hM hok hno=>?_;refine cf [] Tryz.func214 ?_;have hp:=h.hp;have hl:=h.lt;rw[bF]at hp;rw[kindOf]at hM;refine gg ?_;have hA:Kp [] w (ag (w.alloc (cl [.int .i64 0,.string ⟨#[]⟩,.int .i64 0,.int .i64 0] 151)) w.heap.size (cl [i64 p.w.kind,.string (bs p.w.s),i64 p.w.at_,i64 p.w.n] 151)):=by exact kpA
 have hAb:(ag (w.alloc (cl [.int .i64 0,.string ⟨#[]⟩,.int .i64 0,.int .i64 0] 151)) w.heap.size (cl [i64 p.w.kind,.string (bs p.w.s),i64 p.w.at_,i64 p.w.n] 151)).heap[w.heap.size]?=some (cl [i64 p.w.kind,.string (bs p.w.s),i64 p.w.at_,i64 p.w.n] 151):=aC rfl (by simp only[size_alloc];omega);generalize ag (w.alloc (cl [.int .i64 0,.string ⟨#[]⟩,.int .i64 0,.int .i64 0] 151)) w.heap.size (cl [i64 p.w.kind,.string (bs p.w.s),i64 p.w.at_,i64 p.w.n] 151)=wA at *;have hAs:=lt_of_heap hAb;have h0:=h.ext hA;cases h1:p.w.kind==1 with
 |true=>
  rw[h1,if_pos rfl]at hM;have h1':((p.w.kind:Int)==1)=true:=by have:=beq_iff_eq.mp h1;rw[this];rfl
  refine gg ?_;refine Cl.bind (w0:=w) (X0:=PX B) hM (qR h0) hno ?_;rintro q v w1 hM hk1 hq1 hs1 ⟨rfl,hp1⟩;refine gg ?_;have hp2:=hp1.ext (w':=w1.alloc (cl [.string (bs p.w.s),i64 p.w.at_] 265)) kpA;have hnew:H w1.heap.size=none:=hp1.sub.fresh (Nat.le_refl _);have hl1:=hp1.lt;exact hok _ _ _ hM kpA ⟨_,Gr.add (b:=w1.heap.size) hnew omg,⟨_,rfl,Aa ..⟩,hp2.add (bH ..) omg hnew⟩
 |false=>
  rw[h1,if_neg dcd]at hM;have h1':((p.w.kind:Int)==1)=false:=by have:=beq_eq_false_iff_ne.mp h1;rw[beq_eq_false_iff_ne];omega
  refine gg ?_;refine Cl.bind (w0:=w) (X0:=PX B) hM (jQ h0 [105,110,116]) hno ?_;rintro⟨b1,q1⟩ v w1 hM hk1 hq1 hs1 ⟨rfl,hp1⟩;cases b1 with
  |true=>repeat' (first|refine .q ?_|refine .r ?_|refine .g ?_|fail);exact hok _ _ _ hM hq1.out ⟨H,Gr.refl _ _,rfl,hp1⟩
  |false=>
  refine gg ?_;refine Cl.bind (w0:=w) (X0:=PX B) hM (jQ hp1 [104,121,112,101,114]) hno ?_;rintro⟨b2,q2⟩ v w2 hM hk2 hq2 hs2 ⟨rfl,hp2⟩;cases b2 with
  |true=>repeat' (first|refine .q ?_|refine .r ?_|refine .g ?_|fail);exact hok _ _ _ hM hq2.out ⟨H,Gr.refl _ _,rfl,hp2⟩
  |false=>
  refine gg ?_;refine Cl.bind (w0:=w) (X0:=PX B) hM (jQ hp2 [98,111,111,108]) hno ?_;rintro⟨b3,q3⟩ v w3 hM hk3 hq3 hs3 ⟨rfl,hp3⟩;cases b3 with
  |true=>repeat' (first|refine .q ?_|refine .r ?_|refine .g ?_|fail);exact hok _ _ _ hM hq3.out ⟨H,Gr.refl _ _,rfl,hp3⟩
  |false=>
  refine gg ?_;refine Cl.bind (w0:=w) (X0:=PX B) hM (jQ hp3 [117,110,115,105,103,110,101,100]) hno ?_;rintro⟨b4,q4⟩ v w4 hM hk4 hq4 hs4 ⟨rfl,hp4⟩;cases b4 with
  |true=>
   refine gg ?_;refine Cl.bind (w0:=w) (X0:=PX B) hM (jQ hp4 [104,121,112,101,114]) hno ?_;rintro⟨b5,q5⟩ v w5 hM hk5 hq5 hs5 ⟨rfl,hp5⟩;cases b5 with
   |true=>repeat' (first|refine .q ?_|refine .r ?_|refine .g ?_|fail);exact hok _ _ _ hM hq5.out ⟨H,Gr.refl _ _,rfl,hp5⟩
   |false=>
   refine gg ?_;refine Cl.bind (w0:=w) (X0:=PX B) hM (jQ hp5 [105,110,116]) hno ?_;rintro⟨b6,q6⟩ v w6 hM hk6 hq6 hs6 ⟨rfl,hp6⟩;exact hok _ _ _ hM hq6.out ⟨H,Gr.refl _ _,rfl,hp6⟩
  |false=>
   refine gg ?_;refine Cl.bind (w0:=w) (X0:=PX B) (m:=(bad q4:Res (Ty×PS))) (k:=λx=>.ok x) (by rw[hM];rfl) (H8 hp4) hno ?_;rintro _ _ _ _ _ _ _ hf;exact hf.elim
end Go.W.T
