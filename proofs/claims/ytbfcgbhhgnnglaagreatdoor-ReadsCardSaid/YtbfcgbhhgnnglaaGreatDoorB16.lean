/- Texts of mine, one behind the other; nothing is assumed. -/
import Derived.Test.YtbfcgbhhgnnglaaGreatDoorB15
import Derived.Recover
import Derived.Test.YtbfcgbhhgnnglaaGreatDoorB08
import Derived.KernelRfl
set_option autoImplicit true
set_option relaxedAutoImplicit true
set_option linter.unusedSimpArgs false
set_option linter.unusedVariables false
namespace Go.W
open Go
section
variable {P:Program} {n:Nat} {keep:List Nat} {ds:List Deferred} {E:KE} {ops:Array Oper}
def Em(n:Nat)(ds:List Deferred)(E:KE)(W:List Nat)(ρ:Fr)(Q:Exit->Fr->World->Prop):Exit->Act->World->Prop
 |.panic ch,a,w=>∃ρ',a=act n ρ' ds/\(∀i,i ∉ W->ρ' i=ρ i)/\E ch w
 |.outgrown,_,_=>False
 |e,a,w=>∃ρ',a=act n ρ' ds/\(∀i,i ∉ W->ρ' i=ρ i)/\Q e ρ' w
theorem Em.mono(hW:∀i,i ∉ W'->i ∉ W)(hρ:∀i,i ∉ W'->BN i=ρ i)
  (hQ:∀e ρ' w,Q e ρ' w->Q₁ e ρ' w) (e:Exit) (a:Act) (w:World) (h:Em n ds E W BN Q e a w):Em n ds E W' ρ Q₁ e a w:=by
 cases e<;>simp only[Em]at h ⊢<;>first
  |(obtain⟨ρ',h1,h2,h3⟩:=h;exact⟨ρ',h1,λi hi=>(h2 i (hW i hi)).trans (hρ i hi),hQ _ _ _ h3⟩)
  |(obtain⟨ρ',h1,h2,h3⟩:=h;exact⟨ρ',h1,λi hi=>(h2 i (hW i hi)).trans (hρ i hi),h3⟩)
  |exact h
theorem Qi{Q':Exit->Act->World->Prop}{S:List Nat}{ρ0:Fr}(hE:∀ch w' ρ',(∀i,i ∉ S->ρ' i=ρ0 i)->E ch w'->Q' (.panic ch) (act n ρ' ds) w'):∀(l:List Oper) (Q:Fr->World->Prop) (ρ:Fr) (w:World),
  (∀i,i ∉ S->ρ i=ρ0 i)->(∀o∈l,∀d,o.dst=some d->d∈S)->(∀ρ' w',(∀i,i ∉ S->ρ' i=ρ i)->Q ρ' w'->Q' .normal (act n ρ' ds) w')->J7 P n ops E l Q ρ w->wpList P ops Q' l (act n ρ ds) w:=by
 intro l;induction l with
 |nil=>intro Q ρ w _ _ hQ h;exact hQ _ _ (λ_ _=>rfl) h
 |cons o rest ih=>
  intro Q ρ w h0 hS hQ h;simp only[J7]at h;refine wpList_step λK hK=>?_;refine vw (K:=λv w'=>J7 P n ops E rest Q (upd ρ o.dst v) w') h ?_ ?_
  .intro K' hA hK';exact LG (nG n ρ ds) (JE n ρ) (VD n ρ) hA (λv w' hk=>by rw[uS];exact hK' v w' hk) (λch w' he=>hE ch w' ρ h0 he)
  .intro v w' h';have hu:∀i,i ∉ S->upd ρ o.dst v i=ρ i:=λi hi=>Et (λd hd=>by rintro rfl;exact hi (hS o (List.mem_cons_self ..) _ hd));refine hK _ _ (ih Q _ w' (λi hi=>(hu i hi).trans (h0 i hi)) (λo' ho'=>hS o' (List.mem_cons_of_mem _ ho')) (λρ' w'' hag hq=>hQ ρ' w'' (λi hi=>?_) hq) h');rw[hag i hi];exact hu i hi
def wW:Code->Bool
 |.skip=>true
 |.ret=>true
 |.region _ _ draw=>!draw
 |.seq a b=>wW a&&wW b
 |.cond _ a b=>wW a&&wW b
 |_=>false
theorem SN:∀(c:Code) (Q:Exit->Fr->World->Prop) (ρ:Fr) (w:World),wW c=true->wpc P n keep E c Q ρ w->c.wp P (Em n ds E (writes c) ρ Q) (act n ρ ds) w:=by
 intro c;induction c with
 |skip=>intro Q ρ w _ h;exact wp_skip ⟨ρ,rfl,λ_ _=>rfl,h⟩
 |ret=>intro Q ρ w _ h;exact wp_ret ⟨ρ,rfl,λ_ _=>rfl,h⟩
 |region id ops draw=>
  intro Q ρ w hp h;cases draw with
  |true=>cases hp
  |false=>
   simp only[wpc,cond_false]at h;have hS:∀o∈ops.toList,∀d,o.dst=some d->d∈writes (.region id ops false):=λo ho d hd=>by
    simp only[writes];exact List.mem_filterMap.2 ⟨o,ho,hd⟩
   refine wp_region_list (Qi (S:=writes (.region id ops false)) (ρ0:=ρ) (λch w' ρ' hag he=>⟨ρ',rfl,hag,he⟩) ops.toList (Q .normal) ρ w (λ_ _=>rfl) hS ?_ h);intro ρ' w' hag hq;exact⟨ρ',rfl,hag,hq⟩
 |seq a b iha ihb=>
  intro Q ρ w hp h;simp only[wW,Bool.and_eq_true]at hp;simp only[wpc]at h;have hw:∀i,i ∉ writes (.seq a b)->i ∉ writes a/\i ∉ writes b:=λi hi=>by simpa only[writes,List.mem_append,not_or] using hi
  cases hj:Nat.ble (ends a) 1 with
  |true=>
   simp only[hj,cond_true]at h;refine wp_seq (wp_mono (iha _ ρ w hp.1 h) ?_);intro e a' w' hp';cases e with
   |normal=>
    obtain⟨ρ',rfl,hag,hq⟩:=hp';exact wp_mono (ihb Q ρ' w' hp.2 hq) (Em.mono (λi hi=>(hw i hi).2) (λi hi=>hag i (hw i hi).1) (λ_ _ _ h=>h))
   |outgrown=>exact hp'
   |panic ch=>obtain⟨ρ',h1,h2,h3⟩:=hp';exact⟨ρ',h1,λi hi=>h2 i (hw i hi).1,h3⟩
   |exit i=>obtain⟨ρ',h1,h2,h3⟩:=hp';exact⟨ρ',h1,λi hi=>h2 i (hw i hi).1,h3⟩
   |goto i=>obtain⟨ρ',h1,h2,h3⟩:=hp';exact⟨ρ',h1,λi hi=>h2 i (hw i hi).1,h3⟩
   |ret=>obtain⟨ρ',h1,h2,h3⟩:=hp';exact⟨ρ',h1,λi hi=>h2 i (hw i hi).1,h3⟩
  |false=>
   simp only[hj,cond_false]at h;obtain⟨J,hA,hB⟩:=h;refine wp_seq (wp_mono (iha _ ρ w hp.1 hA) ?_);intro e a' w' hp';cases e with
   |normal=>
    obtain⟨ρ',rfl,hag,hq⟩:=hp';have hb:wpc P n keep E b Q (overlay ρ (writes a) (handed n keep (writes a)) ρ' ((handed n keep (writes a)).map ρ')) w':=hB _ _ ρ' hq;rw[wY hag]at hb;exact wp_mono (ihb Q ρ' w' hp.2 hb) (Em.mono (λi hi=>(hw i hi).2) (λi hi=>hag i (hw i hi).1) (λ_ _ _ h=>h))
   |outgrown=>exact hp'
   |panic ch=>obtain⟨ρ',h1,h2,h3⟩:=hp';exact⟨ρ',h1,λi hi=>h2 i (hw i hi).1,h3⟩
   |exit i=>obtain⟨ρ',h1,h2,h3⟩:=hp';exact⟨ρ',h1,λi hi=>h2 i (hw i hi).1,h3⟩
   |goto i=>obtain⟨ρ',h1,h2,h3⟩:=hp';exact⟨ρ',h1,λi hi=>h2 i (hw i hi).1,h3⟩
   |ret=>obtain⟨ρ',h1,h2,h3⟩:=hp';exact⟨ρ',h1,λi hi=>h2 i (hw i hi).1,h3⟩
 |cond c a b iha ihb=>
  intro Q ρ w hp h;simp only[wW,Bool.and_eq_true]at hp;simp only[wpc]at h;have hw:∀i,i ∉ writes (.cond c a b)->i ∉ writes a/\i ∉ writes b:=λi hi=>by simpa only[writes,List.mem_append,not_or] using hi
  replace h:=h.out;unfold IfD at h;split at h
  .rename_i t ht;refine wp_cond (t:=t) (by rw[nG];exact ht) ?_;cases t with
   |true=>
    simp only[if_true]at h ⊢;exact wp_mono (iha Q ρ w hp.1 h) (Em.mono (λi hi=>(hw i hi).1) (λ_ _=>rfl) (λ_ _ _ h=>h))
   |false=>
    simp only[Bool.false_eq_true,if_false]at h ⊢;exact wp_mono (ihb Q ρ w hp.2 h) (Em.mono (λi hi=>(hw i hi).2) (λ_ _=>rfl) (λ_ _ _ h=>h))
  .exact h.elim
 |_=>intro Q ρ w hp;cases hp
theorem V9{id:Nat}{o1 o2:Oper}{t cf:Nat}{x y:Tmp}{ρ:Fr}{w:World}{Q:Exit->Act->World->Prop}(h1:o1.op=.makeFunc (.func cf) #[] #[.tmp x,.tmp y])(h2:o1.guard=none)(h3:o1.dst=some t)(h4:o2.op=.defer { callee:=.value (.tmp t),args:=#[],argTypes:=#[] })
  (h5:o2.guard=none) (h6:o2.dst=none) (ht:t<n) (hx:x<n) (hy:y<n)
  (h:Q .normal (act n (upd ρ (some t) (.func (.func cf) #[] #[ρ x,ρ y])) [{ target:=.fn (.func cf) #[ρ x,ρ y],args:=#[] }]) w):(Code.region id #[o1,o2] false).wp P Q (act n ρ []) w:=by
 refine wp_region_list ?_;simp only[wpList,Region.wanted,h2,h5,if_true];left;unfold Oper.wp;have e1:(execOp (act n ρ []).eval o1).run P w=.ok (.value (.func (.func cf) #[] #[ρ x,ρ y])) w:=by
  unfold execOp;rw[h1];have ex:(act n ρ []).eval (.tmp x)=ρ x:=by rw[nG];simp[ev,Nat.ble_eq_true_of_le hx]
  have ey:(act n ρ []).eval (.tmp y)=ρ y:=by rw[nG];simp[ev,Nat.ble_eq_true_of_le hy]
  simp only[List.map_toArray,List.map_cons,List.map_nil,ex,ey,Sem.run_bind];rfl
 rw[e1];simp only[Oper.upon];rw[uS,h3];left;have e2:(execOp (act n (upd ρ (some t) (.func (.func cf) #[] #[ρ x,ρ y])) []).eval o2).run P w=.ok (.defer { target:=.fn (.func cf) #[ρ x,ρ y],args:=#[] }) w:=by
  unfold execOp;rw[h4];have et:(act n (upd ρ (some t) (.func (.func cf) #[] #[ρ x,ρ y])) []).eval (.tmp t)=.func (.func cf) #[] #[ρ x,ρ y]:=by rw[nG];simp[ev,upd,Nat.ble_eq_true_of_le ht]
  simp only[resolve,et,Deferred.ofValue,Sem.run_bind,Sem.run_pure,Result.andThen_ok,Array.map_empty,Array.append_empty]
 rw[e2];simp only[h6];exact h
def dW(P:Program)(n:Nat)(rs:List ResultVar)(R:Ending->World->Prop)(cf:FuncId)(vx vy:Value)(ρ:Fr):KE:=λch w2=>
 ∃p,ch=[{ v:=.iface 98 p,recovered:=false }]/\CallsD P cf #[vx,vy] (.panicking ch) w2 λen u' w3=>
  (∃v,en=.returned v)/\u'=.panicking [{ v:=.iface 98 p,recovered:=true }]/\wU P n ρ w3 rs λl=>R (.returned (tup l)) w3
def resQ(P:Program)(n:Nat)(rs:List ResultVar)(R:Ending->World->Prop):Exit->Fr->World->Prop:=λe ρ w=>match e with
 |.normal|.ret=>wU P n ρ w rs λl=>R (.returned (tup l)) w
 |_=>False
def yG:ResultVar->Nat
 |.tmp t=>t
 |.cell a _=>a
def wpD(P:Program)(n:Nat)(keep:List Nat)(rs:List ResultVar)(R:Ending->World->Prop)(cf:FuncId):Nat->Code->Fr->World->Prop
 |0,.seq (.region _ ops false) rest,ρ,w=>
  (match ops.toList with
  |[o1,o2]=>(match o1.op,o1.dst,o1.guard,o2.op,o2.dst,o2.guard with
   |.makeFunc (.func cf') first caps,some t,none,.defer c,none,none=>(match first.toList,caps.toList,c.callee,c.args.toList,c.argTypes.toList with
    |[],[.tmp x,.tmp y],.value (.tmp t'),[],[]=>
     bif Nat.beq cf' cf&&Nat.beq t' t&&Nat.ble (t+1) n&&Nat.ble (x+1) n&&Nat.ble (y+1) n&&nK P cf&&wW rest&&rs.all (λr=>!(writes rest).contains (yG r))then
      wpc P n keep (dW P n rs R cf (ρ x) (ρ y) (upd ρ (some t) (.func (.func cf) #[] #[ρ x,ρ y]))) rest (resQ P n rs R) (upd ρ (some t) (.func (.func cf) #[] #[ρ x,ρ y])) w
     else False
    |_,_,_,_,_=>False)
   |_,_,_,_,_,_=>False)
  |_=>False)
 |k+1,.seq a b,ρ,w=>wpc P n keep (λch w'=>R (.panicked ch) w') a (λe ρ' w'=>match e with
   |.normal=>wpD P n keep rs R cf k b ρ' w'
   |e=>resQ P n rs R e ρ' w') ρ w
 |_,_,_,_=>False
theorem TE:∀(l:List ResultVar) (K:List Value->Prop),(∀r∈l,ρ' (yG r)=ρ (yG r))->wU P n ρ w l K->wU P n ρ' w l K:=by
 intro l;induction l with
 |nil=>intro K _ h;exact h
 |cons r l ih=>
  intro K hs h;have h1:=hs r (List.mem_cons_self ..);have h2:∀r∈l,ρ' (yG r)=ρ (yG r):=λr hr=>hs r (List.mem_cons_of_mem _ hr);cases r with
  |tmp t=>
   simp only[wU]at h ⊢;have:ev n ρ' (.tmp t)=ev n ρ (.tmp t):=by simp only[ev];rw[show ρ' t=ρ t from h1]
   rw[this];exact ih _ h2 h
  |cell a t=>
   simp only[wU]at h ⊢;have:ev n ρ' (.tmp a)=ev n ρ (.tmp a):=by simp only[ev];rw[show ρ' a=ρ a from h1]
   rw[this];split at h
   .have hh:=h.out;unfold LdD at hh;refine⟨?_⟩;unfold LdD;split at hh
    .split at hh
     .exact ih _ h2 hh
     .exact hh
    .exact hh
   .have hh:=h.out;unfold SL at hh;refine⟨?_⟩;unfold SL;split at hh
    .split at hh
     .exact ih _ h2 hh
     .exact hh
    .exact hh
   .exact h
def Idle(P:Program)(cf:FuncId):Prop:=∀v1 v2 w,CallsD P cf #[v1,v2] .returning w λen u' w'=>(∃v,en=.returned v)/\u'=.returning/\w'=w
theorem xx(hn:n=fn.ntmps)(h:wU P n ρ w fn.results.toList λl=>R (.returned (tup l)) w):Leaves P fn (act n ρ ds).tmps R [] .returning w:=by
 obtain⟨v,h1,h2⟩:=mY (ds:=ds) (R:=λv=>R (.returned v) w) h;exact⟨v,h1,h2⟩
theorem We{fn:Func}{R:Ending->World->Prop}{cf:FuncId}(hn:n=fn.ntmps)(hidle:Idle P cf):∀(k:Nat) (c:Code) (ρ:Fr) (w:World),
  wpD P n keep fn.results.toList R cf k c ρ w->c.wp P (bodyPostD P fn R) (act n ρ []) w:=by
 intro k;induction k with
 |zero=>
  intro c ρ w h;cases c with
  |seq a rest=>
   cases a with
   | region id ops draw =>
    cases draw with
    | true => exact h.elim
    | false =>
   simp only[wpD]at h;split at h
   .rename_i o1 o2 hops;split at h
    .rename_i cf' first caps t c e1 e2 e3 e4 e5 e6
     split at h
     .rename_i x y t' hfirst hcaps Vy hargs hat;cases hb:(Nat.beq cf' cf&&Nat.beq t' t&&Nat.ble (t+1) n&&Nat.ble (x+1) n&&Nat.ble (y+1) n&&nK P cf&&wW rest&&fn.results.toList.all (λr=>!(writes rest).contains (yG r)))with
      |false=>rw[hb]at h;exact h.elim
      |true=>
       rw[hb]at h;simp only[cond_true]at h;simp only[Bool.and_eq_true,Nat.ble_eq,Nat.beq_eq_true_eq]at hb;obtain⟨⟨⟨⟨⟨⟨⟨hcf,ht'⟩,ht⟩,hx⟩,hy⟩,hpl⟩,hpc⟩,hres⟩:=hb;have hcf:=Nat.eq_of_beq_eq_true (show Nat.beq cf' cf=true by simpa using hcf);have ht':=Nat.eq_of_beq_eq_true (show Nat.beq t' t=true by simpa using ht');subst hcf ht';have ho:ops=#[o1,o2]:=by
        apply Array.ext';simpa using hops
       subst ho;have hf:first=#[]:=by apply Array.ext';simpa using hfirst
       have hc:caps=#[.tmp x,.tmp y]:=by apply Array.ext';simpa using hcaps
       subst hf hc;obtain⟨callee,aaC,cat⟩:=c;simp only at Vy hargs hat;have ha:aaC=#[]:=by apply Array.ext';simpa using hargs
       have hat':cat=#[]:=by apply Array.ext';simpa using hat
       subst Vy ha hat';refine wp_seq (V9 (t:=t') (cf:=cf') (x:=x) (y:=y) e1 e3 e2 e4 e6 e5 ht hx hy ?_);refine wp_mono (SN (ds:=[{ target:=.fn (.func cf') #[ρ x,ρ y],args:=#[] }]) rest _ _ w hpc h) ?_;have hi:∀w:World,(invoke (.fn (.func cf') #[ρ x,ρ y]) #[]).run P w=.ok (.enter cf' #[ρ x,ρ y]) w:=λw=>by
        show (callFunc cf' (#[]++#[ρ x,ρ y])).run P w=_;rw[pq hpl];rfl
       have hslot:∀ρ':Fr,(∀i,i ∉ writes rest->ρ' i=upd ρ (some t') (.func (.func cf') #[] #[ρ x,ρ y]) i)->∀r∈fn.results.toList,ρ' (yG r)=upd ρ (some t') (.func (.func cf') #[] #[ρ x,ρ y]) (yG r):=by
        intro ρ' hag r hr;refine hag _ ?_;have:=List.all_eq_true.mp hres r hr;simpa using this
       intro e a w' hp;cases e with
       |normal=>
        obtain⟨ρ',rfl,hag,hq⟩:=hp;refine leaves_cons smp (hi w') ((hidle _ _ _).mono ?_);rintro en u' w'' ⟨⟨v,rfl⟩,rfl,rfl⟩;exact xx hn hq
       |ret=>
        obtain⟨ρ',rfl,hag,hq⟩:=hp;refine leaves_cons smp (hi w') ((hidle _ _ _).mono ?_);rintro en u' w'' ⟨⟨v,rfl⟩,rfl,rfl⟩;exact xx hn hq
       |panic ch=>
        obtain⟨ρ',rfl,hag,p,rfl,hq⟩:=hp;refine leaves_cons smp (hi w') (hq.mono ?_);rintro en u' w'' ⟨⟨v,rfl⟩,rfl,hr⟩;show Leaves P fn _ R [] (settle _) w'';exact xx hn (TE _ _ (hslot ρ' hag) hr)
       |outgrown=>exact hp.elim
       |exit i=>obtain⟨ρ',rfl,hag,hq⟩:=hp;exact hq.elim
       |goto i=>obtain⟨ρ',rfl,hag,hq⟩:=hp;exact hq.elim
     .exact h.elim
    .exact h.elim
   .exact h.elim
   |_=>exact h.elim
  |_=>exact h.elim
 |succ k ih=>
  intro c ρ w h;cases c with
  |seq a b=>
   simp only[wpD]at h;refine wp_seq (wp_mono (Ep (ds:=[]) a _ ρ w h) ?_);intro e a' w' hp;cases e with
   |normal=>
    obtain⟨ρ',rfl,hag,hq⟩:=hp;exact ih b ρ' w' hq
   |ret=>
    obtain⟨ρ',rfl,hag,hq⟩:=hp;exact xx hn hq
   |panic ch=>
    obtain⟨h1,h2⟩:=hp;show Leaves P fn a'.tmps R a'.defers (.panicking ch) w';rw[h1];exact h2
   |outgrown=>exact hp.elim
   |exit i=>obtain⟨ρ',rfl,hag,hq⟩:=hp;exact hq.elim
   |goto i=>obtain⟨ρ',rfl,hag,hq⟩:=hp;exact hq.elim
  |_=>exact h.elim
def fnDB(P:Program)(fn:Func)(keep:List Nat)(cf:FuncId)(k:Nat)(args:List Value)(w:World)(R:Ending->World->Prop):Prop:=
 match fn.body with
 |some c=>wpD P fn.ntmps keep fn.results.toList R cf k c (λi=>args.getD i undef) w
 |none=>False
theorem SG{N:Nat}{args:List Value}(hlen:Nat.ble args.length N=true):({ tmps:=args.toArray++Array.replicate (N - args.toArray.size) undef,defers:=[] }:Act)=act N (λi=>args.getD i undef) []:=by
 have hl:=Nat.le_of_ble_eq_true hlen;simp only[act,Act.mk.injEq,and_true];apply Array.ext';apply List.ext_getElem?;intro i;simp only[Array.toList_append,Array.toList_replicate,List.size_toArray,List.getElem?_append,List.getElem?_map,List.getElem?_replicate]
 by_cases h1:i<args.length
 .simp[h1,show i<N by omega]
 .by_cases h2:i<N
  .simp[h1,h2,show i - args.length<N - args.length by omega]
  .simp[h1,h2,show ¬ i - args.length<N - args.length by omega]
theorem Kz{f:FuncId}{fn:Func}{cf:FuncId}{k:Nat}{args:List Value}{w:World}{R:Ending->World->Prop}(hf:P.funcs[f]?=some fn)(hlen:Nat.ble args.length fn.ntmps=true)(hidle:Idle P cf)
  (h:fnDB P fn keep cf k args w R):Calls P f args.toArray w R:=by
 unfold fnDB at h;split at h
 .rename_i c hc;refine calls_of_wp_defers hf hc ?_;rw[SG hlen];exact We rfl hidle k c _ w h
 .exact h.elim
def fnR(P:Program)(fn:Func)(keep:List Nat)(x:Value)(args:List Value)(w:World)(R:Ending->World->Prop):Prop:=
 match fn.body with
 |some (.seq (.region _ ops false) B)=>(match ops.toList with
  |[o]=>(match o.op,o.dst,o.guard with
   |.call c,some t,none=>(match c.callee,c.args.toList,c.argTypes.toList with
    |.builtin .recover,[],[]=>wpc P fn.ntmps keep (λch w'=>R (.panicked ch) w') B (resQ P fn.ntmps fn.results.toList R) (upd (λi=>args.getD i undef) (some t) x) w
    |_,_,_=>False)
   |_,_,_=>False)
  |_=>False)
 |_=>False
theorem Fj{fn:Func}{args:List Value}{x:Value}{w:World}{R:Ending->World->Prop}{c₀ c₁:Frame}{cs:List Frame}{RD:Ending->FrameMode->World->Prop}{c:Code}(hb:fn.body=some c)(hlen:Nat.ble args.length fn.ntmps=true)
  (h:fnR P fn keep x args w R) (hx:(match recoverD (c₀::cs)with|some (v,cs')=>v=x/\cs'=c₁::cs|none=>x=.nilIface/\c₁=c₀)) (hc1:∃u',c₁={ c₀ with mode:=u' }) (hR:∀en w',R en w'->RD en c₁.mode w'):
  c.wpS P (bodyPostS P fn c₀ cs RD) { tmps:=args.toArray++Array.replicate (fn.ntmps - args.toArray.size) undef,defers:=[] } (c₀::cs) w:=by
 rw[SG hlen];unfold fnR at h;rw[hb]at h;split at h
 .rename_i id ops B hB;cases hB;split at h
  .rename_i o hops;split at h
   .rename_i cl t e1 e2 e3;split at h
    .rename_i hcal harg hat;have ho:ops=#[o]:=by apply Array.ext';simpa using hops
     subst ho;obtain⟨callee,aaC,cat⟩:=cl;simp only at hcal harg hat;have ha:aaC=#[]:=by apply Array.ext';simpa using harg
     have hat':cat=#[]:=by apply Array.ext';simpa using hat
     subst hcal ha hat';apply wpS_seq;apply wpS_region;have hrun:∀a:Act,(execOp a.eval o).run P w=.ok .recover w:=by
      intro a;unfold execOp;rw[e1];rfl
     have hr:List.range #[o].size=[0]:=rfl;rw[hr];simp only[wpOpsS,Region.wanted,e3,if_true,hrun,List.getElem?_toArray,List.getElem?_cons_zero];have key:∀cs',cs'=c₁::cs->Exit.thenS (B.wpS P (bodyPostS P fn c₀ cs RD)) (bodyPostS P fn c₀ cs RD) .normal ((act fn.ntmps (λi=>args.getD i undef) []).put o.dst x) cs' w:=by
      rintro cs' rfl;show B.wpS P _ _ _ _;rw[uS,e2];refine wpS_of_wp (wp_mono (Ep (ds:=[]) B _ _ w h) ?_);obtain⟨u',hu'⟩:=hc1;have hm:c₁.mode=u':=by rw[hu']
      intro e a w' hp;cases e with
      |normal=>
       obtain⟨ρ',rfl,hag,hq⟩:=hp;obtain⟨v,h1,h2⟩:=mY (ds:=[]) (R:=λv=>R (.returned v) w') hq;exact⟨rfl,u',by rw[hu'],v,h1,by rw[<- hm];exact hR _ _ h2⟩
      |ret=>
       obtain⟨ρ',rfl,hag,hq⟩:=hp;obtain⟨v,h1,h2⟩:=mY (ds:=[]) (R:=λv=>R (.returned v) w') hq;exact⟨rfl,u',by rw[hu'],v,h1,by rw[<- hm];exact hR _ _ h2⟩
      |panic ch=>
       obtain⟨h1,h2⟩:=hp;exact⟨h1,u',by rw[hu'],by rw[<- hm];exact hR _ _ h2⟩
      |outgrown=>exact hp.elim
      |exit i=>obtain⟨ρ',rfl,hag,hq⟩:=hp;exact hq.elim
      |goto i=>obtain⟨ρ',rfl,hag,hq⟩:=hp;exact hq.elim
     split
     .rename_i v cs' hrec;rw[hrec]at hx;obtain⟨rfl,hcs⟩:=hx;exact key _ hcs
     .rename_i hrec;rw[hrec]at hx;obtain⟨rfl,rfl⟩:=hx;exact key _ rfl
    .exact h.elim
   .exact h.elim
  .exact h.elim
 .exact h.elim
theorem RZ(hf:P.funcs[f]?=some fn)(hb:fn.body=some c)(hlen:Nat.ble args.length fn.ntmps=true)
  (h:fnR P fn keep .nilIface args w R):CallsD P f args.toArray .returning w λen u' w'=>u'=.returning/\R en w':=by
 refine callsD_of_wpS hf hb λc₀ cs hu=>?_;refine Fj (c₁:=c₀) hb hlen h ?_ ⟨.returning,by rw[<- hu]⟩ (λen w' hr=>⟨hu,hr⟩);simp only[recoverD,hu];exact⟨by first|rfl|trivial,by first|rfl|trivial⟩
theorem OQ(hf:P.funcs[f]?=some fn)(hb:fn.body=some c)(hlen:Nat.ble args.length fn.ntmps=true)
  (h:fnR P fn keep p args w R):CallsD P f args.toArray (.panicking ({ v:=p,recovered:=false }::older)) w λen u' w'=>u'=.panicking ({ v:=p,recovered:=true }::older)/\R en w':=by
 refine callsD_of_wpS hf hb λc₀ cs hu=>?_;refine Fj (c₁:={ c₀ with mode:=.panicking ({ v:=p,recovered:=true }::older) }) hb hlen h ?_ ⟨_,rfl⟩ (λen w' hr=>⟨rfl,hr⟩);simp only[recoverD,hu];exact⟨by first|rfl|trivial,by first|rfl|trivial⟩
end
end Go.W
set_option maxRecDepth 100000
namespace Go.W.T
open Go Go.Proofs
def dE(R:Ending->World->Prop)(cf:FuncId)(vx vy:Value):KE:=λch w2=>
 ∃p,ch=[{ v:=.iface 98 p,recovered:=false }]/\CallsD P cf #[vx,vy] (.panicking ch) w2 λen u' w3=>
  (∃v,en=.returned v)/\u'=.panicking [{ v:=.iface 98 p,recovered:=true }]/\Ld vx w3 λv1=>Ld vy w3 λv2=>R (.returned (.tuple #[v1,v2])) w3
abbrev JJ:FuncId:=19
def sG(R:Ending->World->Prop)(a0:Value)(w:World):Prop:=Nw 53 (.pointer none) w λx1 w2=>Nw 55 (.nilIface) w2 λx3 w4=>Ln true a0 λx5=>Bi .gtr x5 (.int .i64 1200) λx6=>If x6 ( Bu (.agg #[.int .i64 0,.int .i64 0]) [(0,1,(.int .i64 1))] λx7=>Nw 101 x7 w4 λx8 w9=>St x1 (.pointer none) w9 λw10=>St x3 (.iface 98 x8) w10 λw11=>Ld x1 w11 λx12=>Ld x3 w11 λx13=>R (.returned (.tuple #[x12,x13])) w11) ( Cl P 37 #[a0] w4 (dE R 36 x1 x3) λx14 w15=>Cl P 38 #[x14] w15 (dE R 36 x1 x3) λx16 w17=>Bu (.agg #[.slice none 0 0,.pointer none]) [(0,1,x14),(1,1,x16)] λx18=>Nw 107 x18 w17 λx19 w20=>St x1 x19 w20 λw21=>St x3 .nilIface w21 λw22=>Ld x1 w22 λx23=>Ld x3 w22 λx24=>R (.returned (.tuple #[x23,x24])) w22)
theorem Gv(R:Ending->World->Prop)(a0:Value)(w:World):fnDB P Tryz.f19 [] 36 2 [a0] w R=sG R a0 w:=by kernel_rfl
theorem Gu(hi:Idle P 36)(h:sG R a0 w):Calls P JJ #[a0] w R:=Kz (fn:=Tryz.f19) (keep:=[]) (cf:=36) (k:=2) (args:=[a0]) Tryz.func19 rfl hi (by rw[Gv];exact h)
def qf(R:Ending->World->Prop)(x0:Value)(a0 a1:Value)(w:World):Prop:=En .ifc false x0 λx1=>If x1 ( R (.returned (.tuple #[])) w) ( Ta 98 (.pointer none) x0 λx2=>Ex x2 1 λx3=>Ex x2 0 λx4=>If x3 ( St a0 (.pointer none) w λw5=>St a1 (.iface 98 x4) w5 λw6=>R (.returned (.tuple #[])) w6) ( Pn x0 w (pE R)))
theorem uA(R:Ending->World->Prop)(x0:Value)(a0 a1:Value)(w:World):fnR P Tryz.f36 [] x0 [a0,a1] w R=qf R x0 a0 a1 w:=by kernel_rfl
end Go.W.T
namespace Go.W
open Go
section
variable {P:Program} {n:Nat} {keep:List Nat} {ds:List Deferred} {E:KE} {ops:Array Oper}
def FrA(S:List Nat)(a0 a:Act):Prop:=a.tmps.size=a0.tmps.size/\∀i,i ∉ S->a.tmps[i]?=a0.tmps[i]?
theorem FrA.put{S:List Nat}{a0 a:Act}(h:FrA S a0 a){d:Option Tmp}{v:Value}(hd:∀x,d=some x->x∈S):FrA S a0 (a.put d v):=by
 cases d with
 |none=>exact h
 |some x=>
  refine⟨by simpa [Act.put] using h.1,λi hi=>?_⟩;have hx:x≠i:=λe=>hi (e▸hd x rfl);simp only[Act.put];rw[Array.getElem?_setIfInBounds,if_neg hx];exact h.2 i hi
end
end Go.W
