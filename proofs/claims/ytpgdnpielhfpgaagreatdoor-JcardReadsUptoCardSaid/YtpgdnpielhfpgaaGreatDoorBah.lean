/- Parts of the proof of jcardReads_card. -/
import Derived.RangeFuncRecord
import Derived.RangeFuncSeq
import Derived.OrdersIn
import Derived.LoopNIn
import Derived.Lib.Fields
import Derived.Lib.LaidTab
import Derived.Test.YtpgdnpielhfpgaaGreatDoorBag
set_option linter.unusedVariables false
set_option linter.unusedSimpArgs false
set_option linter.unusedSectionVars false
namespace Go.Proofs.YtpgdnpielhfpgaaGreatDoor
open Go Go.RowKit
open Tryz
set_option maxRecDepth 20000
set_option maxHeartbeats 4000000
section
def Fo (rd:Option Nat):Fence:={fn:=λ_=>True,depth:=none,alive:=false,round:=rd}
theorem OM {P:Program}{f:FuncId}{args:Array Value}{w:World}{R:Ending->World->Prop}(rd:Option Nat)(m:Nat)(h:Calls P f args w R):CallsIn (Fo rd) m P f args w R:=(callsIn_wide (n:=m)).2 h
theorem Qh {P:Program}{row:String}{args:Array Value}{w:World}{R:Value->World->Prop}(rd:Option Nat)(m:Nat)(h:Rows P row args w R):RowsIn (Fo rd) m P row args w R:=
 λc cs _=>let ⟨v,w',r,s⟩:=h c cs;⟨v,w',r,stepsIn_wide.2 s⟩
theorem qE {C:Ctx}{n:Nat}{Q:aQ->Env->Heap->Prop}:¬LetsOut (kI C n Q):=by
 rintro⟨a,w,x,env,H,R,q,er,_⟩;cases x with
 |normal=>cases er
 |exit i=>cases er
 |goto i=>cases er
 |ret=>cases er
 |panic v=>obtain⟨y,e,_⟩:=er;cases e
def fu (l:List Oper):Bool:=l.all λo=>match o.op with
 |.defer _=>false
 |_=>true
theorem s7 {l:List Oper}(h:fu l=true){o:Oper}(ho:o∈l):∀c,o.op≠ .defer c:=by
 intro c e;have:=List.all_eq_true.1 h o ho;rw[e] at this;cases this
theorem L9 {rd:Option Nat}{ρ:Operand->Value}{o:Oper}(hd:∀c,o.op≠ .defer c):Oper.semAt rd ρ o=execOp ρ o:=by
 cases rd with
 |none=>exact Oper.semAt_none ρ o
 |some l=>exact Oper.semAt_some l ρ o hd
section
variable {P:Program} {rd:Option Nat} {m:Nat} {ops:Array Oper} {Q0 Q:Exit->Act->World->Prop}
theorem Hh {o:Oper}{a:Act}{K K':Act->World->Prop}{r:Result Next}(hk:∀a w,K a w->K' a w)(hp:∀c a w,Q0 (.panic c) a w->Q (.panic c) a w)(ho:¬LetsOut Q0)(h:o.upon P a K Q0 r):o.uponIn (Fo rd) m P a K' Q r:=by
 cases r with
 |ok x w'=>
  cases x<;>simp only[Oper.upon,Oper.uponIn] at h ⊢ <;>first
   |exact hk _ _ h
   |exact⟨λe=>(by cases e),(OM rd _ h).mono λe w'' he=>by cases e<;>first|exact hk _ _ he|exact hp _ _ _ he|exact absurd he ho⟩
   |exact⟨λe=>(by cases e),(Qh rd _ h).mono λ_ _ he=>hk _ _ he⟩
   |exact h.elim
 |halt x w'=>cases x<;>simp only[Oper.upon,Oper.uponIn] at h ⊢ <;>exact hp _ _ _ h
theorem lz {l:List Oper}(hn:∀a w,Q0 .normal a w->wpListIn (Fo rd) m P ops Q l a w)(hp:∀c a w,Q0 (.panic c) a w->Q (.panic c) a w)(ho:¬LetsOut Q0):
  ∀{pre:List Oper} {a:Act} {w:World},fu pre=true->wpList P ops Q0 pre a w->wpListIn (Fo rd) m P ops Q (pre++l) a w
 |[],a,w,_,h=>hn a w h
 |o::rest,a,w,hd,h=>by
  have h1:=s7 hd (List.mem_cons_self ..);have h2:fu rest=true:=by
   unfold fu at hd ⊢;rw[List.all_cons,Bool.and_eq_true] at hd;exact hd.2
  simp only[wpList,List.cons_append,wpListIn] at h ⊢;split
  ·rename_i hw;rw[if_pos hw] at h;rcases h with h|⟨_,h⟩
   ·refine⟨λ_ _=>trivial,?_⟩;rw[show(Fo rd).round=rd from rfl,L9 h1];exact Hh (λa w h=>lz hn hp ho h2 h) hp ho h
   ·exact absurd h ho
  ·rename_i hw;rw[if_neg hw] at h;exact⟨λ_ _=>trivial,lz hn hp ho h2 h⟩
theorem Pt {i:Nat}{a:Act}{w:World}{K K':Act->World->Prop}(hd:fu ops.toList=true)(hk:∀a w,K a w->K' a w)(ho:¬LetsOut Q)(h:wpOp P ops Q i K a w):wpOpIn (Fo rd) m P ops Q i K' a w:=by
 unfold wpOp at h;unfold wpOpIn;cases hi:ops[i]? with
 |none=>rw[hi] at h;exact hk _ _ h
 |some o=>
  rw[hi] at h;have h1:=s7 hd (List.mem_of_getElem? (i:=i) (by rw[Array.getElem?_toList];exact hi));dsimp only at h ⊢;split
  ·rename_i hw;rw[if_pos hw] at h;rcases h with h|⟨_,h⟩
   ·refine⟨λ_ _=>trivial,?_⟩;rw[show(Fo rd).round=rd from rfl,L9 h1];exact Hh hk (λ_ _ _ q=>q) ho h
   ·exact absurd h ho
  ·rename_i hw;rw[if_neg hw] at h;exact⟨λ_ _=>trivial,hk _ _ h⟩
theorem B1 {md:Region.Mode}(hd:fu ops.toList=true)(ho:¬LetsOut Q):∀(fuel:Nat) (listed:Array Bool) (a:Act) (w:World),wpAny P md ops Q fuel listed a w->wpAnyIn (Fo rd) m P md ops Q fuel listed a w
 |0,_,_,_,h=>h
 |fuel+1,_,_,_,h=>⟨h.1,λi hi=>Pt hd (λa w q=>B1 hd ho fuel _ a w q) ho (h.2 i hi)⟩
end
def iz (rd:Option Nat)(P:Program)(C:Ctx)(n:Nat)(c:Code)(env:Env)(H:Heap)(Q:aQ->Env->Heap->Prop):Prop:=
 ∀R a w,MS C R H w->FS C.D n R env a->c.wpIn (Fo rd) 0 P (kI C n Q) a w
section
variable {rd:Option Nat} {P:Program} {C:Ctx} {n:Nat} {env:Env} {H:Heap} {Q:aQ->Env->Heap->Prop} {G:Glo} {GL:List (Nat×List AVal)}
theorem iz.mono {c:Code}{Q':aQ->Env->Heap->Prop}(h:iz rd P C n c env H Q)(hq:∀x e h,Q x e h->Q' x e h):iz rd P C n c env H Q':=
 λR a w hm hf=>Go.wpIn_mono (h R a w hm hf) λ_ _ _ ⟨x,en,H',R',q,r⟩=>⟨x,en,H',R',hq _ _ _ q,r⟩
theorem uN {x y:Code}(h:iz rd P C n x env H (gG (λe h=>iz rd P C n y e h Q) Q)):iz rd P C n (.seq x y) env H Q:=by
 intro R a w hm hf;refine wpIn_seq (Go.wpIn_mono (h R a w hm hf) ?_);rintro e a' w' ⟨x',en,H',R',q,er,hm',hf'⟩;cases x' with
 |normal=>simp only[aM] at er;subst er;exact q R' a' w' hm' hf'
 |exit i=>simp only[aM] at er;subst er;exact⟨.exit i,en,H',R',q,rfl,hm',hf'⟩
 |goto i=>simp only[aM] at er;subst er;exact⟨.goto i,en,H',R',q,rfl,hm',hf'⟩
 |ret=>simp only[aM] at er;subst er;exact⟨.ret,en,H',R',q,rfl,hm',hf'⟩
 |panic v=>obtain⟨y,rfl,hr⟩:=er;exact⟨.panic v,en,H',R',q,⟨y,rfl,hr⟩,hm',hf'⟩
theorem ED {c:Operand}{x y:Code}{b:Bool}(hc:ai env c=some (.bool b))(ht:b=true->iz rd P C n x env H Q)(hf:b=false->iz rd P C n y env H Q):iz rd P C n (.cond c x y) env H Q:=by
 intro R a w hm hfr;exact wpIn_cond_split (aW.1 (hfr.eval hc)) (λe=>ht e R a w hm hfr) (λe=>hf e R a w hm hfr)
theorem sR {id:Nat}{c:Code}(h:iz rd P C n c env H (BE id Q)):iz rd P C n (.block id c) env H Q:=by
 intro R a w hm hf;refine wpIn_block (Go.wpIn_mono (h R a w hm hf) ?_);rintro e a' w' ⟨x',en,H',R',q,er,hm',hf'⟩;cases x' with
 |normal=>simp only[aM] at er;subst er;exact⟨.normal,en,H',R',q,rfl,hm',hf'⟩
 |exit i=>
  simp only[aM] at er;subst er;simp only[Exit.inBlock];by_cases e:i=id
  ·rw[if_pos e];exact⟨.normal,en,H',R',q.1 e,rfl,hm',hf'⟩
  ·rw[if_neg e];exact⟨.exit i,en,H',R',q.2 e,rfl,hm',hf'⟩
 |goto i=>simp only[aM] at er;subst er;exact⟨.goto i,en,H',R',q,rfl,hm',hf'⟩
 |ret=>simp only[aM] at er;subst er;exact⟨.ret,en,H',R',q,rfl,hm',hf'⟩
 |panic v=>obtain⟨y,rfl,hr⟩:=er;exact⟨.panic v,en,H',R',q,⟨y,rfl,hr⟩,hm',hf'⟩
theorem G5 {id:Nat}{l:List Oper}(hd:fu l=true)(h:aw P C n l.toArray l env H Q):iz rd P C n (.region id l.toArray false) env H Q:=by
 intro R a w hm hf;refine wpIn_region_lit ?_;have:=lz (rd:=rd) (m:=0) (l:=[]) (Q:=kI C n Q) (λa w q=>wpListIn_nil q) (λ_ _ _ q=>q) qE hd (h R a w hm hf);rwa [List.append_nil] at this
theorem O0 {id:Nat}{l:List Oper}(hm:P.follows .mixedOrders=true)(hB:Region.lexB .any l.toArray=true)(hd:fu l=true)(h:AQ P C n l.toArray l env H (λe=>Q .normal e H)):
  iz rd P C n (.region id l.toArray true) env H Q:=by
 intro R a w hw hf;refine wpIn_region_any hm (B1 (by simpa using hd) qE _ _ _ _ ?_);have h1:=h R a hf;have h2:∀(l':List Oper) (a:Act),wpQuiet P l.toArray (CW C R H) (λa'=>∃env',Q .normal env' H/\FS C.D n R env' a') l' a->
   wpQuiet P l.toArray (CW C R H) (λa'=>∀w',CW C R H w'->kI C n Q .normal a' w') l' a:=by
  intro l';induction l' with
  |nil=>rintro a ⟨env',hq,hfs⟩ w' ⟨R',hle,hms⟩;exact⟨.normal,env',H,R',hq,rfl,hms,hfs.mono hle⟩
  |cons o r ih=>
   intro a h;have h':=h;unfold wpQuiet at h';refine wpQuiet_step λX hX=> ?_;split
   ·rename_i hw;rw[if_pos hw] at h';exact Oper.quiet_mono (λa' q=>hX _ (ih a' q)) h'
   ·rename_i hw;rw[if_neg hw] at h';exact hX _ (ih _ h')
 simp only[Region.lexB,Bool.and_eq_true] at hB;refine wpAny_of_quiet (C:=CW C R H) (Q:=λa'=>∀w',CW C R H w'->kI C n Q .normal a' w') (λ_ w' hw' h=>h w' hw') _ _ _ _ ⟨R,Seal.le_refl R,hw.drawn _⟩ ?_;have:=wpAnyQ_lex (C:=CW C R H) (md:=.any) hB.1 l.toArray.toList 0 (Array.replicate l.toArray.size false) a (by simp) (by simpa using hB.2) (h2 _ _ (by simpa using h1));simpa using this
def uP (rd:Option Nat)(P:Program)(C:Ctx)(n:Nat)(c:Code)(Q:aQ->Env->Heap->Prop):Nat->Env->Heap->Prop
 |0,_,_=>False
 |k+1,e,h=>iz rd P C n c e h (gG (uP rd P C n c Q k) Q)
theorem G4 {c:Code}(k:Nat)(h:uP rd P C n c Q k env H):iz rd P C n (.loop c) env H Q:=by
 intro R a w hm hf;refine wpIn_loop_rounds k ?_;induction k generalizing env H R a w with
 |zero=>exact h.elim
 |succ k ih=>
  rw[roundsIn_succ];refine Go.wpIn_mono (h R a w hm hf) ?_;rintro e a' w' ⟨x',en,H',R',q,er,hm',hf'⟩;cases x' with
  |normal=>simp only[aM] at er;subst er;exact ih q R' a' w' hm' hf'
  |exit i=>simp only[aM] at er;subst er;exact⟨.exit i,en,H',R',q,rfl,hm',hf'⟩
  |goto i=>simp only[aM] at er;subst er;exact⟨.goto i,en,H',R',q,rfl,hm',hf'⟩
  |ret=>simp only[aM] at er;subst er;exact⟨.ret,en,H',R',q,rfl,hm',hf'⟩
  |panic v=>obtain⟨y,rfl,hr⟩:=er;exact⟨.panic v,en,H',R',q,⟨y,rfl,hr⟩,hm',hf'⟩
theorem RP {c:Code}{env':Env}(hs:Env.sub env env')(h:iz rd P C n c env' H Q):iz rd P C n c env H Q:=λR a w hm hf=>h R a w hm (hf.sub hs)
noncomputable def xt (P:Program)[Tab P](C:Ctx)(n:Nat)(G:Glo)(GL:List (Nat×List AVal))(c:Code):Env->Heap->(aQ->Env->Heap->Prop)->Prop:=
 Code.rec (motive:=λ_=>Env->Heap->(aQ->Env->Heap->Prop)->Prop)
  (λenv H Q=>Q .normal env H)
  (λ_ ops d env H Q=>match d with
   |false=>match fu ops.toList with
    |true=>mw P C n G GL ops Q ops.toList env H
    |false=>False
   |true=>False)
  (λ_ _ iha ihb env H Q=>iha env H (gG (λe h=>ihb e h Q) Q))
  (λc _ _ ihx ihy env H Q=>match ai env c with
   |some (.bool b)=>Sc b (ihx env H Q) (ihy env H Q)
   |_=>False)
  (λid _ ih env H Q=>ih env H (BD id Q))
  (λ_ _ _ _ _=>False)
  (λ_ _ _ _ _ _ _ _ _=>False)
  (λid env H Q=>Q (.exit id) env H)
  (λ_ _ _ _ _=>False)
  (λ_ _ _ _=>False)
  (λ_ _ _ _=>False)
  (λenv H Q=>Q .ret env H)
  (λ_ _ _ _=>False) c
theorem kG [Tab P](hC:C.G=G)(hGL:ab G GL):∀(c:Code) (env:Env) (H:Heap) (Q:aQ->Env->Heap->Prop),xt P C n G GL c env H Q->iz rd P C n c env H Q
 |.skip,_,_,_,h=>λR _ _ hm hf=>wpIn_skip ⟨.normal,_,_,R,h,rfl,hm,hf⟩
 |.region id ops dr,env,H,Q,h=>by
  cases dr with
  |false=>
   replace h:(match fu ops.toList with
    |true=>mw P C n G GL ops Q ops.toList env H
    |false=>False):=h
   cases hd:fu ops.toList with
   |false=>rw[hd] at h;exact h.elim
   |true=>
    rw[hd] at h;have e:=dt (a:=ops) rfl;have:=G5 (rd:=rd) (id:=id) hd (by rw[<-e];exact eZ hC hGL _ _ _ h);rwa [<-e] at this
  |true=>exact False.elim h
 |.seq a b,env,H,Q,h=>by
  replace h:xt P C n G GL a env H (gG (λe h=>xt P C n G GL b e h Q) Q):=h;refine uN ((kG hC hGL a env H _ h).mono ?_);intro x e h' q;cases x with
  |normal=>exact kG hC hGL b e h' Q q
  |exit i=>exact q
  |goto i=>exact q
  |ret=>exact q
  |panic v=>exact q
 |.cond c x y,env,H,Q,h=>by
  replace h:(match ai env c with
   |some (.bool b)=>Sc b (xt P C n G GL x env H Q) (xt P C n G GL y env H Q)
   |_=>False):=h
  split at h
  ·rename_i b hb;exact ED hb (λe=>kG hC hGL x env H Q (h.1 e)) (λe=>kG hC hGL y env H Q (h.2 e))
  ·exact h.elim
 |.block id c,env,H,Q,h=>sR ((kG hC hGL c env H _ h).mono λ_ _ _ q=>Aa q)
 |.exit id,_,_,_,h=>λR _ _ hm hf=>wpIn_exit ⟨.exit id,_,_,R,h,rfl,hm,hf⟩
 |.ret,_,_,_,h=>λR _ _ hm hf=>wpIn_ret ⟨.ret,_,_,R,h,rfl,hm,hf⟩
 |.loop c,_,_,_,h=>False.elim h
 |.rangeFunc ..,_,_,_,h=>False.elim h
 |.scope _,_,_,_,h=>False.elim h
 |.label _,_,_,_,h=>False.elim h
 |.goto _,_,_,_,h=>False.elim h
 |.refuse _,_,_,_,h=>False.elim h
theorem BH [Tab P]{a b:Code}{X:Type}(hC:C.G=G)(hGL:ab G GL)(I:X->Env)(J:X->Heap)(Inv:X->Prop)(h1:xt P C n G GL a env H (gG (λe h=>Cy I J Inv e h) Q))(h2:∀x,Inv x->iz rd P C n b (I x) (J x) Q):iz rd P C n (.seq a b) env H Q:=
 uN ((kG hC hGL _ _ _ _ h1).mono λx e h q=>by
  cases x with
  |normal=>
   obtain⟨y,hy,hs,rfl⟩:=q.h;exact RP hs (h2 y hy)
  |exit i=>exact q
  |goto i=>exact q
  |ret=>exact q
  |panic v=>exact q)
theorem gj [Tab P]{c:Code}(hC:C.G=G)(hGL:ab G GL)(h:xt P C n G GL c env H Q):iz rd P C n c env H Q:=kG hC hGL _ _ _ _ h
theorem RQ [Tab P]{id:Nat}{ops:Array Oper}(hm:P.follows .mixedOrders=true)(hC:C.G=G)(hGL:ab G GL)(hB:(Region.lexB .any ops&&fu ops.toList)=true)(h:U7 P C n G GL H ops (λe=>Q .normal e H) ops.toList env):iz rd P C n (.region id ops true) env H Q:=by
 rw[Bool.and_eq_true] at hB;have e:=dt (a:=ops) rfl;have:=O0 (rd:=rd) (P:=P) (C:=C) (n:=n) (env:=env) (H:=H) (Q:=Q) (id:=id) (l:=ops.toList) hm (by rw[<-e];exact hB.1) hB.2 (by rw[<-e];exact Mx hC hGL _ _ h);rwa [<-e] at this
theorem WS [Tab P]{c:Code}{k:Nat}(h:iz rd P C n c env H (gG (uP rd P C n c Q k) Q)):uP rd P C n c Q (k+1) env H:=h
end
def m6 (P:Program)(G:Glo)(L:Nat)(avs:List AVal)(H:Heap)(Qf:Bool->Heap->Prop):Prop:=
 ∀R w args (hG:G.p R),MS ⟨w,R,eh H,G,hG,[]⟩ R H w->dv R avs args.toList->
  YieldAt Fence.wide 0 P L args w λe w'=>∃b H' R',Qf b H'/\e= .returned (.bool b)/\MS ⟨w,R,eh H,G,hG,[]⟩ R' H' w'
def JH (r:Loop)(st:LoopState)(pe:Option Code):Loop:={r with state:=st,pending:=pe}
abbrev iJ (D:Nat):HEnt:=.obj D (.deferred (some []))
abbrev fJ (L:Nat)(r:Loop)(st:LoopState)(pe:Option Code):HEnt:=.obj L (.loop (JH r st pe))
theorem nD {C:Ctx}{R:Seal}{H:Heap}{w:World}{i L:Nat}{o:Obj}(h:MS C R H w)(hi:H[i]? =some (.obj L o)):w.heap[L]? =some o:=h.heap.holds _ (List.mem_of_getElem? hi)
theorem j3 {C:Ctx}{R:Seal}{H:Heap}{w:World}{i L:Nat}{o:Obj}(o':Obj)(h:MS C R H w)(hi:H[i]? =some (.obj L o)):MS C R (H.set i (.obj L o')) (w.putObj L o'):=by
 have hl:=ov (nD h hi);exact h.write hi rfl ⟨rfl,rfl,rfl,World.putObj_size,World.putObj_heap_same hl,λb hb=>World.putObj_heap_other hb⟩ rfl (World.putObj_heap_same hl)
def RdQ (L:Nat)(r:Loop)(Qf:Bool->Heap->Prop):aQ->Env->Heap->Prop
 |.normal,_,h=>∃j,h[j]? =some (fJ L r .busy none)/\Qf true (h.set j (fJ L r .ready none))
 |.ret,_,h=>∃j,h[j]? =some (fJ L r .busy none)/\Qf false (h.set j (fJ L r .done (some .ret)))
 |.exit i,_,h=>∃j,h[j]? =some (fJ L r .busy none)/\Qf false (h.set j (fJ L r .done (some (.exit i))))
 |_,_,_=>False
section
variable {P:Program} {n:Nat} {env:Env} {H:Heap} {G:Glo} {GL:List (Nat×List AVal)}
theorem K3 {L p i:Nat}{av:AVal}{r:Loop}{Qf:Bool->Heap->Prop}(hi:H[i]? =some (fJ L r .ready none))(hps:r.params=#[p])(hp:Nat.ble (p+1) n=true)
  (hfs:∀R,FS [] n R env {tmps:=r.tmps,defers:=[]})
  (ha:∀C:Ctx,C.G=G->C.D=[]->iz (some L) P C n r.assign ((p,av)::env) H (λx e h=>x= .normal/\∃j,h[j]? =some (fJ L r .ready none)/\iz (some L) P C n r.body e (h.set j (fJ L r .busy none)) (RdQ L r Qf))):
  m6 P G L [av] H Qf:=by
 intro R w args hG hm hargs
 obtain⟨v,t,e,hv,ht⟩:=hargs
 obtain rfl:t=[]:=ht
 have hargs':args=#[v]:=by rw[<-Array.toList_inj];exact e
 subst hargs'
 have hl:=nD hm hi
 have hy:=run_yield (P:=P) (args:=#[v]) hl (by show 1=r.params.size;rw[hps];rfl)
 refine⟨_,_,_,_,hy,roundIn_of_wpIn trivial ?_⟩
 have h1:=ha ⟨w,R,eh H,G,hG,[]⟩ rfl rfl R _ w hm ((hfs R).put hp ⟨hv.1,hv.2⟩)
 have e1:((JH r .ready none).params.zip #[v]).foldl (λtmps (t,a)=>tmps.setIfInBounds t a) (JH r .ready none).tmps=r.tmps.setIfInBounds p v:=by
  show(r.params.zip #[v]).foldl (λtmps (t,a)=>tmps.setIfInBounds t a) r.tmps=_
  rw[hps]
  simp
 rw[e1]
 refine Go.wpIn_mono h1 ?_
 rintro ex a' w' ⟨x,en,H',R',⟨rfl,j,hj,hb⟩,er,hm',hf'⟩
 obtain rfl:ex= .normal:=er
 refine⟨_,run_beginRound (nD hm' hj) rfl,?_⟩
 refine Go.wpIn_mono (hb R' a' _ (j3 _ hm' hj) hf') ?_
 rintro ex a2 w2 ⟨x,en2,H2,R2,q,er,hm2,hf2⟩
 cases x with
 |normal=>
  obtain rfl:ex= .normal:=er
  obtain⟨k,hk,q⟩:=q
  exact⟨_,_,run_endRound none (nD hm2 hk),true,_,R2,q,rfl,j3 _ hm2 hk⟩
 |ret=>
  obtain rfl:ex= .ret:=er
  obtain⟨k,hk,q⟩:=q
  exact⟨_,_,run_endRound (some .ret) (nD hm2 hk),false,_,R2,q,rfl,j3 _ hm2 hk⟩
 |exit id=>
  obtain rfl:ex= .exit id:=er
  obtain⟨k,hk,q⟩:=q
  exact⟨_,_,run_endRound (some (.exit id)) (nD hm2 hk),false,_,R2,q,rfl,j3 _ hm2 hk⟩
 |goto i=>exact q.elim
 |panic v=>exact q.elim
structure SN (P:Program) (G:Glo) (fv:Option AVal) (avs:Option (List AVal)) (H:Heap) (K:Bool->Heap->Prop):Prop where
 h:∃L vs,fv=some (.func (.yield L) [] [])/\avs=some vs/\m6 P G L vs H K
def yQ (P:Program)[Tab P](C:Ctx)(n:Nat)(G:Glo)(GL:List (Nat×List AVal))(ops:Array Oper)(d:Nat)(fv:Operand)(args:Array Operand)(post:List Oper)(Q:aQ->Env->Heap->Prop):aQ->Env->Heap->Prop
 |.normal,e,h=>SN P G (ai e fv) (jm e args.toList) h λb h'=>mw P C n G GL ops Q post ((d,.bool b)::e) h'
 |x,e,h=>Q x e h
theorem EE [Tab P]{C:Ctx}{Q:aQ->Env->Heap->Prop}{id d:Nat}{ops:Array Oper}{fv:Operand}{args:Array Operand}{ts:Array TypeId}{t:TypeId}{ps:String}{af:Array Edge}(k:Nat)(hC:C.G=G)(hGL:ab G GL)
  (hk:ops.toList[k]? =some {dst:=some d,op:=.call {callee:=.value fv,args:=args,argTypes:=ts},type:=t,pos:=ps,after:=af,guard:=none}) (hdn:Nat.ble (d+1) n=true) (hnd:fu ops.toList=true)
  (h:mw P C n G GL ops (yQ P C n G GL ops d fv args (ops.toList.drop (k+1)) Q) (ops.toList.take k) env H):bN P C n (.region id ops false) env H Q:=by
 intro R a w hm hf;have hlt:k<ops.toList.length:=(List.getElem?_eq_some_iff.1 hk).1;have hsp:ops.toList=ops.toList.take k++{dst:=some d,op:=.call {callee:=.value fv,args:=args,argTypes:=ts},type:=t,pos:=ps,after:=af,guard:=none}::ops.toList.drop (k+1):=by
  have:=List.take_append_drop k ops.toList;rw[List.drop_eq_getElem_cons hlt,(List.getElem?_eq_some_iff.1 hk).2] at this;exact this.symm
 have nd:∀{l:List Oper},l.Sublist ops.toList->fu l=true:=λhs=>List.all_eq_true.2 λo ho=>List.all_eq_true.1 hnd o (hs.subset ho);refine(wpIn_wide (n:=0)).1 (wpIn_region_list ?_);rw[hsp];refine lz (rd:=none) (m:=0) (Q0:=kI C n (yQ P C n G GL ops d fv args (ops.toList.drop (k+1)) Q)) ?_ ?_ qE (nd (List.take_sublist _ _)) (eZ hC hGL _ _ _ h R a w hm hf)
 ·rintro a w ⟨x,en,H',R',q,er,hm',hf'⟩;cases x with
  |normal=>
   obtain⟨L,vs,h1,h2,hs⟩:=SN.h q;refine wpListIn_plain rfl λK hK=>⟨λ_ _=>trivial,?_⟩;obtain⟨x1,x2,e,r1,r2⟩:=bA (hf'.eval h1) rfl;simp only[List.cons.injEq,and_true] at e;have r1:x1.toList=[]:=r1;have r2:x2.toList=[]:=r2;have r1:x1=#[]:=by rw[<-Array.toList_inj];exact r1
   have r2:x2=#[]:=by rw[<-Array.toList_inj];exact r2
   subst r1;subst r2;subst hC;have hrel:dv R' vs (args.map a.eval).toList:=by
    have:=gK (λx av h=>hf'.eval h) h2;simpa using this
   obtain⟨fn,tmps,asg,body,hy,hR⟩:=hs R' w _ hm'.glo (MS.enter (H2:=[]) (by simpa using hm')) hrel;have hrun:(execOp a.eval {dst:=some d,op:=.call {callee:=.value fv,args:=args,argTypes:=ts},type:=t,pos:=ps,after:=af,guard:=none:Oper}).run P w= .ok (.round L fn tmps asg body) w:=by
    rw[<-hy];simp only[execOp,resolve,e,Deferred.ofValue,Sem.run_bind,Sem.run_pure,Result.andThen_ok,invoke,Array.empty_append,Array.append_empty]
   rw[show(Fo none).round=none from rfl,Oper.semAt_none,hrun,Oper.uponIn_round];refine⟨λe=>(by cases e),hR.mono ?_⟩;rintro e w' ⟨b,H2,R2,q2,rfl,hm2⟩;have hm3:MS C R2 H2 w':=by simpa using MS.call (H2:=[]) (by simpa using hm') hm2
   refine hK _ _ ?_;have:=lz (rd:=none) (m:=0) (l:=[]) (Q:=kI C n Q) (λa w q=>wpListIn_nil q) (λ_ _ _ q=>q) qE (nd (List.drop_sublist _ _))
    (eZ rfl hGL _ _ _ q2 R2 _ w' hm3 ((hf'.mono hm2.ge).put hdn (aW.2 rfl)))
   rwa [List.append_nil] at this
  |exit i=>cases er
  |goto i=>cases er
  |ret=>cases er
  |panic v=>obtain⟨y,e,_⟩:=er;cases e
 ·rintro c a w ⟨x,en,H',R',q,er,hm',hf'⟩;cases x with
  |normal=>cases er
  |exit i=>cases er
  |goto i=>cases er
  |ret=>cases er
  |panic v=>exact⟨.panic v,en,H',R',q,er,hm',hf'⟩
def Wn (env:Env):Bool:=env.all λx=>x.2.det
theorem tk:∀{env:Env} {k:Nat} {v:AVal},Env.get env k=some v->(k,v)∈env
 |(j,x)::t,k,v,h=>by
  simp only[Env.get] at h;split at h
  ·rename_i hb;have:=Nat.eq_of_beq_eq_true hb;subst this;simp only[Option.some.injEq] at h;subst h;exact List.mem_cons_self ..
  ·exact List.mem_cons_of_mem _ (tk h)
theorem Uc {D:List Deferred}{R:Seal}{a:Act}(hd:Wn env=true)(hf:FS D n R env a)(R':Seal):FS [] n R' env {tmps:=a.tmps,defers:=[]}:=by
 refine⟨λk v hk=> ?_,hf.size,rfl⟩;obtain⟨x,hx,hr⟩:=hf.fr k v hk;have hdv:v.det=true:=List.all_eq_true.1 hd _ (tk hk);refine⟨x,hx,?_⟩;rw[GK hr hdv];exact uH hdv
abbrev nU (D:Nat):Deferred:={target:=.collected D,args:=#[]}
def LpQ (L D:Nat)(r:Loop)(C:Ctx)(env:Env)(Q:List Deferred->aQ->Env->Heap->Prop)(res:cz)(h:Heap):Prop:=
 ∃v j st pe,res= .ret v/\h[j]? =some (fJ L r st pe)/\st≠ .busy/\(match pe with
  |none=>Q (nU D::C.D) .normal env (h.set j (fJ L r .exhausted pe))
  |some .ret=>Q (nU D::C.D) .ret env (h.set j (fJ L r .exhausted pe))
  |some (.exit i)=>Q (nU D::C.D) (.exit i) env (h.set j (fJ L r .exhausted pe))
  |_=>False)
theorem Ae {C:Ctx}{Q:List Deferred->aQ->Env->Heap->Prop}{g:Operand}{ps:Array Tmp}{assign body:Code}{f:FuncId}{l2:List AVal}(hg:ai env g=some (.func (.func f) [] l2))
  (hcf:∀args w,(callFunc f args).run P w= .ok (.enter f args) w) (env':Env) (hs:Env.sub env env') (hdet:Wn env'=true)
  (hit:∀(L D:Nat) (r:Loop),r.params=ps->r.assign=assign->r.body=body->(∀R,FS [] n R env' {tmps:=r.tmps,defers:=[]})->
   ae P C.G f (AVal.func (.yield L) [] []::l2) (H++[iJ D,fJ L r .ready none]) (LpQ L D r C env' Q)):gk P C n (.rangeFunc g ps assign body) env H Q:=by
 intro R a w hm hf;refine(wpIn_wide (n:=1)).1 (wpIn_rangeFunc ?_);intro fn _;obtain⟨r,hr⟩:∃r:Loop,r={state:=.ready,pending:=none,fn,tmps:=a.tmps,params:=ps,assign,body,defers:=w.heap.size}:=⟨_,rfl⟩;have hW:(w.alloc (.deferred (some []))).alloc (.loop r)=grow (grow w (.deferred (some []))) (.loop r):=rfl;obtain⟨x1,b1,e,q1,q2⟩:=bA (hf.eval hg) rfl;simp only[List.cons.injEq,and_true] at e;have q1:x1.toList=[]:=q1;have q1:x1=#[]:=by rw[<-Array.toList_inj];exact q1
 subst q1;have hsz:(grow w (.deferred (some []))).heap.size=w.heap.size+1:=by simp[grow]
 have hm1:MS C R (iJ w.heap.size::H) (grow w (.deferred (some []))):=hm.alloc _ (iJ w.heap.size) rfl (fS w _);have hm2:MS C R (fJ (w.heap.size+1) r .ready none::iJ w.heap.size::H) (grow (grow w (.deferred (some []))) (.loop r)):=by
  have hrr:JH r .ready none=r:=by rw[hr];rfl
  refine hm1.alloc _ (fJ (w.heap.size+1) r .ready none) (by rw[hsz];rfl) ?_;show(grow (grow w (.deferred (some []))) (.loop r)).heap[w.heap.size+1]? =some (.loop (JH r .ready none));rw[hrr,<-hsz];exact fS _ _
 have hm3:MS C R (H++[iJ w.heap.size,fJ (w.heap.size+1) r .ready none]) (grow (grow w (.deferred (some []))) (.loop r)):=by
  refine hm2.perm ?_;refine List.Perm.trans (List.Perm.swap _ _ _) ?_;exact List.perm_append_comm (l₁:=[iJ w.heap.size,fJ (w.heap.size+1) r .ready none]) (l₂:=H)
 have hspec:=hit (w.heap.size+1) w.heap.size r (by rw[hr]) (by rw[hr]) (by rw[hr]) (λR'=>by rw[hr];exact Uc hdet (hf.sub hs) R');refine⟨w.heap.size+1,[nU w.heap.size],grow (grow w (.deferred (some []))) (.loop r),{target:=.fn (.func f) b1,args:=#[.func (.yield (w.heap.size+1)) #[] #[]]},grow (grow w (.deferred (some []))) (.loop r),f,
  #[.func (.yield (w.heap.size+1)) #[] #[]]++b1,grow (grow w (.deferred (some []))) (.loop r),?_,?_,λ_ _=>trivial,?_,λ_=>Nat.le_refl _,?_⟩
 ·rw[<-hW,hr];exact run_enterLoop_outer _ _ _ _ _
 ·simp only[resolve,rangeCall,e];simp[go_sem,Deferred.ofValue]
 ·simp only[invoke];exact hcf _ _
 ·have hrel:dv R (AVal.func (.yield (w.heap.size+1)) [] []::l2) (#[Value.func (.yield (w.heap.size+1)) #[] #[]]++b1).toList:=by
   rw[Array.toList_append];exact⟨.func (.yield (w.heap.size+1)) #[] #[],_,rfl,⟨⟨#[],#[],rfl,rfl,rfl⟩,rfl⟩,q2⟩
  have hcall:=hspec R _ _ hm.glo (MS.enter (H2:=[]) (by simpa using hm3)) hrel;have hcalls:Calls P f (#[Value.func (.yield (w.heap.size+1)) #[] #[]]++b1) (grow (grow w (.deferred (some []))) (.loop r)) (λe w'=>∃res H' R',LpQ (w.heap.size+1) w.heap.size r C env' Q res H'/\gD R' res e/\
    MS ⟨grow (grow w (.deferred (some []))) (.loop r),R,eh (H++[iJ w.heap.size,fJ (w.heap.size+1) r .ready none]),C.G,hm.glo,[]⟩ R' H' w'):=by
   rcases hcall with⟨_,h2⟩|⟨v,w',h1,_⟩
   ·exact h2
   ·rw[hcf] at h1;cases h1
  refine((callsIn_wide (n:=1-1)).2 hcalls).mono ?_;rintro e' w3 ⟨res,H',R',⟨v,j,st,pe,rfl,hj,hst,hq⟩,⟨y,rfl,_⟩,hm4⟩;have hm5:MS C R' H' w3:=by simpa using MS.call (H2:=[]) (by simpa using hm3) hm4
  refine⟨pe,_,run_endLoop (nD hm5 hj) hst,?_⟩;have hm6:=j3 (.loop {JH r st pe with state:=.exhausted}) hm5 hj;have hf6:FS (nU w.heap.size::C.D) n R' env' {a with defers:=[nU w.heap.size]++a.defers}:=by
   have h7:=(hf.sub hs).mono hm4.ge;exact⟨h7.fr,h7.size,by show nU w.heap.size::a.defers=_;rw[h7.defers]⟩
  cases pe with
  |none=>exact⟨_,.normal,env',_,R',hq,rfl,hm6,hf6⟩
  |some c=>
   cases c with
   |ret=>exact wpIn_ret ⟨_,.ret,env',_,R',hq,rfl,hm6,hf6⟩
   |exit i=>exact wpIn_exit ⟨_,.exit i,env',_,R',hq,rfl,hm6,hf6⟩
   |_=>exact hq.elim
def UO (id:Nat)(Q:List Deferred->aQ->Env->Heap->Prop):List Deferred->aQ->Env->Heap->Prop
 |D,.exit i,e,h=>(i=id->Q D .normal e h)/\(i≠id->Q D (.exit i) e h)
 |D,x,e,h=>Q D x e h
theorem Af {C:Ctx}{Q:List Deferred->aQ->Env->Heap->Prop}{id:Nat}{c:Code}(h:gk P C n c env H (UO id Q)):gk P C n (.block id c) env H Q:=by
 intro R a w hm hf
 refine wp_block (wp_mono (h R a w hm hf) ?_)
 rintro e a' w' ⟨D,x',en,H',R',q,er,hm',hf'⟩;cases x' with
 |normal=>simp only[aM] at er;subst er;exact⟨D,.normal,en,H',R',q,rfl,hm',hf'⟩
 |exit i=>
  simp only[aM] at er;subst er;simp only[Exit.inBlock];by_cases e:i=id
  ·rw[if_pos e];exact⟨D,.normal,en,H',R',q.1 e,rfl,hm',hf'⟩
  ·rw[if_neg e];exact⟨D,.exit i,en,H',R',q.2 e,rfl,hm',hf'⟩
 |goto i=>simp only[aM] at er;subst er;exact⟨D,.goto i,en,H',R',q,rfl,hm',hf'⟩
 |ret=>simp only[aM] at er;subst er;exact⟨D,.ret,en,H',R',q,rfl,hm',hf'⟩
 |panic v=>obtain⟨y,rfl,hr⟩:=er;exact⟨D,.panic v,en,H',R',q,⟨y,rfl,hr⟩,hm',hf'⟩
def SP (P:Program)(G:Glo)(n:Nat)(rs:List ResultVar)(env:Env)(D:List Deferred)(m:fy)(H:Heap)(Qf:cz->Heap->Prop):Prop:=
 ∀(C:Ctx) (R:Seal) (a:Act) (w:World) (fn:Func) (u:FrameMode) (D0:List Deferred),C.G=G->fn.results.toList=rs->MS C R H w->FS D0 n R env a->fc R m u->
  LeavesInM Fence.wide 0 P fn a.tmps (λe w'=>∃res H' R',Qf res H'/\gD R' res e/\MS C R' H' w') D u w
variable {rs:List ResultVar} {Qf:cz->Heap->Prop} {D:List Deferred} {m:fy}
theorem A4 [Tab P](h:ui P rs Qf .ret env H):SP P G n rs env [] .ret H Qf:=by
 rintro C R a w fn u D0 hC hrs hm hf rfl
 obtain⟨vs,H'',hv,hs,q⟩:=jV h
 obtain⟨y,hy,hr⟩:=ea (fn:=fn) hm hf (by rw[hrs];exact hv);exact⟨y,hy,_,H'',R,q,⟨y,rfl,hr⟩,hm.drop hs⟩
theorem A5 {i d:Nat}(hi:H[i]? =some (iJ d))(h:SP P G n rs env D m (H.set i (.obj d (.deferred none))) Qf):SP P G n rs env (nU d::D) m H Qf:=by
 rintro C R a w fn u D0 hC hrs hm hf hu;refine⟨Dt hu,.inl ⟨d,_,rfl,run_takeDeferred (nD hm hi),h C R a _ fn u D0 hC hrs (j3 _ hm hi) hf hu⟩⟩
def Xc (P:Program)(G:Glo)(n:Nat)(rs:List ResultVar)(Qf:cz->Heap->Prop):List Deferred->aQ->Env->Heap->Prop
 |D,.ret,e,H|D,.normal,e,H=>SP P G n rs e D .ret H Qf
 |D,.panic v,e,H=>SP P G n rs e D (.pan v) H Qf
 |_,_,_,_=>False
theorem Wa {f:FuncId}{fn:Func}{c:Code}{avs:List AVal}(hf:P.funcs[f]? =some fn)
  (hc:∀args w,(callFunc f args).run P w= .ok (.enter f args) w) (hb:fn.body=some c) (hn:fn.ntmps=n) (hrs:fn.results=rs.toArray) (hlen:Nat.ble avs.length n=true)
  (h:∀C:Ctx,C.G=G->C.D=[]->gk P C n c (ft 0 avs) H (Xc P G n rs Qf)):ae P G f avs H Qf:=by
 intro R w args hG hm ha
 refine .inl ⟨hc args w,(callsIn_wide (n:=0)).1 (callsIn_of_wp_marks hf hb trivial ((wpIn_wide (n:=0)).2 ?_))⟩
 subst hn
 have hrs':fn.results.toList=rs:=by rw[hrs]
 refine wp_mono (h ⟨w,R,eh H,G,hG,[]⟩ rfl rfl R _ w hm (BL hlen ha)) ?_
 rintro e a' w' ⟨D,x,env',H',R',q,er,hm',hf'⟩
 cases x with
 |normal=>
  simp only[aM] at er;subst er
  have:=q _ R' a' w' fn .returning D rfl hrs' hm' hf' rfl
  rwa [<-hf'.defers] at this
 |ret=>
  simp only[aM] at er;subst er
  have:=q _ R' a' w' fn .returning D rfl hrs' hm' hf' rfl
  rwa [<-hf'.defers] at this
 |panic v=>
  obtain⟨y,rfl,hr⟩:=er
  have:=q _ R' a' w' fn (.panicking [{v:=y,recovered:=false}]) D rfl hrs' hm' hf' ⟨y,rfl,hr⟩
  rwa [<-hf'.defers] at this
 |exit i=>exact q.elim
 |goto i=>exact q.elim
end
end
section
structure Rl where
 t:Int
 a:Int
 b:Int
 p:Int
deriving DecidableEq
def Rl.A (r:Rl):AVal:=.agg [.int .i64 r.t,.int .i64 r.a,.int .i64 r.b,.int .i64 r.p]
def Rl.z:Rl:=⟨0,0,0,0⟩
structure Kn where
 n:List UInt8
 o:Option Rl
 w:Option Rl
def Pp:List Kn:=[
 ⟨[70,78],some ⟨1,1,1,0⟩,some ⟨1,1,0,0⟩⟩,
 ⟨[78],some ⟨3,1,1,5⟩,some ⟨3,0,1,5⟩⟩,
 ⟨[78,73,67,75,78,65,77,69],some ⟨2,0,0,0⟩,some ⟨2,0,0,0⟩⟩,
 ⟨[80,72,79,84,79],some ⟨8,0,0,0⟩,some ⟨4,0,0,0⟩⟩,
 ⟨[66,68,65,89],some ⟨5,0,1,0⟩,some ⟨5,0,1,0⟩⟩,
 ⟨[65,78,78,73,86,69,82,83,65,82,89],none,some ⟨5,0,1,0⟩⟩,
 ⟨[71,69,78,68,69,82],none,some ⟨3,0,1,2⟩⟩,
 ⟨[65,68,82],some ⟨3,0,0,7⟩,some ⟨3,0,0,7⟩⟩,
 ⟨[76,65,66,69,76],some ⟨1,0,0,0⟩,none⟩,
 ⟨[84,69,76],some ⟨1,0,0,0⟩,some ⟨1,0,0,0⟩⟩,
 ⟨[69,77,65,73,76],some ⟨1,0,0,0⟩,some ⟨1,0,0,0⟩⟩,
 ⟨[77,65,73,76,69,82],some ⟨1,0,0,0⟩,none⟩,
 ⟨[73,77,80,80],none,some ⟨4,0,0,0⟩⟩,
 ⟨[76,65,78,71],none,some ⟨7,0,0,0⟩⟩,
 ⟨[84,90],some ⟨6,0,1,0⟩,some ⟨1,0,0,0⟩⟩,
 ⟨[71,69,79],some ⟨3,0,1,2⟩,some ⟨4,0,0,0⟩⟩,
 ⟨[84,73,84,76,69],some ⟨1,0,0,0⟩,some ⟨1,0,0,0⟩⟩,
 ⟨[82,79,76,69],some ⟨1,0,0,0⟩,some ⟨1,0,0,0⟩⟩,
 ⟨[76,79,71,79],some ⟨8,0,0,0⟩,some ⟨4,0,0,0⟩⟩,
 ⟨[65,71,69,78,84],some ⟨1,0,0,0⟩,none⟩,
 ⟨[79,82,71],some ⟨3,0,0,0⟩,some ⟨3,0,0,0⟩⟩,
 ⟨[77,69,77,66,69,82],none,some ⟨4,0,0,0⟩⟩,
 ⟨[82,69,76,65,84,69,68],none,some ⟨4,0,0,0⟩⟩,
 ⟨[67,65,84,69,71,79,82,73,69,83],some ⟨2,0,0,0⟩,some ⟨2,0,0,0⟩⟩,
 ⟨[78,79,84,69],some ⟨1,0,0,0⟩,some ⟨1,0,0,0⟩⟩,
 ⟨[80,82,79,68,73,68],some ⟨1,0,1,0⟩,some ⟨1,0,1,0⟩⟩,
 ⟨[82,69,86],some ⟨5,0,1,0⟩,some ⟨5,0,1,0⟩⟩,
 ⟨[83,79,82,84,45,83,84,82,73,78,71],some ⟨1,0,1,0⟩,none⟩,
 ⟨[83,79,85,78,68],some ⟨8,0,0,0⟩,some ⟨4,0,0,0⟩⟩,
 ⟨[85,73,68],some ⟨1,0,1,0⟩,some ⟨4,0,1,0⟩⟩,
 ⟨[85,82,76],some ⟨4,0,0,0⟩,some ⟨4,0,0,0⟩⟩,
 ⟨[67,76,65,83,83],some ⟨1,0,1,0⟩,none⟩,
 ⟨[75,73,78,68],none,some ⟨1,0,1,0⟩⟩,
 ⟨[75,69,89],some ⟨8,0,0,0⟩,some ⟨4,0,0,0⟩⟩,
 ⟨[78,65,77,69],some ⟨1,0,1,0⟩,none⟩,
 ⟨[83,79,85,82,67,69],some ⟨4,0,0,0⟩,some ⟨4,0,0,0⟩⟩]
def Kn.of (k:Kn)(v:Int):Option Rl:=if v=3 then k.o else k.w
def cO (v:Int):List (List UInt8×Rl):=Pp.filterMap λk=>(k.of v).map λr=>(k.n,r)
def kF (i:Int):UInt8:=UInt8.ofNat (48+i.toNat)
def E6 (x:List UInt8×Rl):List UInt8:=x.1++[32,kF x.2.t,32,kF x.2.a,32,kF x.2.b,32,kF x.2.p]
def eI (c:UInt8):List (List UInt8)->List UInt8
 |[]=>[]
 |[x]=>x
 |x::y::t=>x++c::eI c (y::t)
def gS (v:Int):List (List UInt8):=(cO v).map E6
def Ja (v:Int):List UInt8:=eI 124 (gS v)
def fO (s:List UInt8):List (List UInt8×Rl)->Rl
 |[]=>⟨8,0,0,0⟩
 |x::t=>if x.1=s then x.2 else fO s t
def ci (v:Int)(s:List UInt8):Rl:=if v=3\/v=4 then fO (al 97 122 (-32) s) (cO v) else Rl.z
def dR (v:Int):Err:=if v=3\/v=4 then .none else .errno 1
def aH (v:Int):List (List UInt8):=if v=3\/v=4 then(cO v).map (·.1) else[]
theorem Gg {c:UInt8}{l:List (List UInt8)}{k:Nat}(h:k+1<l.length):eI c (l.drop k)=l.getD k []++c::eI c (l.drop (k+1)):=by
 rw[List.drop_eq_getElem_cons (by omega),List.drop_eq_getElem_cons h];simp only[eI]
 rw[List.getD_eq_getElem?_getD,List.getElem?_eq_getElem (by omega)]
 rfl
theorem Gf {c:UInt8}{l:List (List UInt8)}{k:Nat}(h:k+1=l.length):eI c (l.drop k)=l.getD k []:=by
 rw[List.drop_eq_getElem_cons (by omega),List.drop_of_length_le (by omega)];simp only[eI];rw[List.getD_eq_getElem?_getD,List.getElem?_eq_getElem (by omega)];rfl
end
section
def eK (s:List UInt8)(c:Int):List UInt8×List UInt8×Bool:=if bj s c<0 then(s,[],false) else(s.take (bj s c).toNat,s.drop ((bj s c).toNat+1),true)
def fU (s:List UInt8)(c:Int):Nat->Int
 |0=> -1
 |n+1=>if(aa s n:Int)=c then n else fU s c n
theorem td (s:List UInt8)(c:Int):∀n,(fU s c n= -1/\∀j,j<n->(aa s j:Int)≠c)\/∃m,m<n/\fU s c n=(m:Int)/\(aa s m:Int)=c/\∀j,m<j->j<n->(aa s j:Int)≠c
 |0=>.inl ⟨rfl,λj h=>absurd h (Nat.not_lt_zero _)⟩
 |n+1=>by
  by_cases h:(aa s n:Int)=c
  ·exact .inr ⟨n,Nat.lt_succ_self _,by simp only[fU];rw[if_pos h],h,λj h1 h2=>by omega⟩
  ·have e:fU s c (n+1)=fU s c n:=by simp only[fU];rw[if_neg h]
   rw[e];rcases td s c n with⟨h1,h2⟩|⟨m,h1,h2,h3,h4⟩
   ·exact .inl ⟨h1,λj hj=>by
     rcases Nat.lt_or_ge j n with g|g
     ·exact h2 j g
     ·rw[show j=n by omega];exact h⟩
   ·exact .inr ⟨m,by omega,h2,h3,λj g1 g2=>by
     rcases Nat.lt_or_ge j n with g|g
     ·exact h4 j g1 g
     ·rw[show j=n by omega];exact h⟩
theorem NH {c:UInt8}:bj [c] (c.toNat:Int)=0:=Be (i:=0) (Nat.lt_succ_self 0) rfl (λj h=>absurd h (Nat.not_lt_zero _))
theorem OQ {c:UInt8}:(aa [c] 0:Int)=(c.toNat:Int):=rfl
attribute [local irreducible] bN aw aa aC bg ab ae
theorem qn {G:Glo}(s:List UInt8)(c:UInt8):aj prog G 97 [.str s,.str [c]] (.int .i64 (bj s (c.toNat:Int))):=by
 have hc:=c.toNat_lt;have hb:=OQ (c:=c);have k1:=iA (G:=G) s (aa [c] 0:Int) (by omega) (by omega);by_cases hs:[c]=s
 ·have e:=NH (c:=c);rw[hs] at e;rw[e];refine ao func97 call97 λC hC hGL=> ?_;exact ba
 ·rw[<-hb];refine ao func97 call97 λC hC hGL=> ?_;exact ba
theorem Fl {G:Glo}(s:List UInt8)(c:UInt8)(hl:s.length<=1000000):aj prog G 144 [.str s,.str [c]] (.tuple [.str (eK s (c.toNat:Int)).1,.str (eK s (c.toNat:Int)).2.1,.bool (eK s (c.toNat:Int)).2.2]):=by
 have k1:=qn (G:=G) s c;rcases ky s (c.toNat:Int) with⟨h1,h2⟩|⟨m,h1,h2,h3,h4⟩
 ·have e:eK s (c.toNat:Int)=(s,[],false):=by unfold eK;rw[h1,if_pos (by decide)]
  rw[h1] at k1;rw[e];refine ao func144 call144 λC hC hGL=> ?_;exact ba
 ·have e:eK s (c.toNat:Int)=(s.take m,s.drop (m+1),true):=by unfold eK;rw[h2,if_neg (by omega),Int.toNat_natCast]
  rw[h2] at k1;rw[e];refine ao func144 call144 λC hC hGL=> ?_;exact ba
theorem mV {G:Glo}(s:List UInt8)(c:UInt8)(hl:s.length<=1000000):aj prog G 87 [.str s,.str [c]] (.tuple [.str (eK s (c.toNat:Int)).1,.str (eK s (c.toNat:Int)).2.1,.bool (eK s (c.toNat:Int)).2.2]):=by
 have k1:=Fl (G:=G) s c hl;refine ao func87 call87 λC hC hGL=> ?_;exact ba
theorem jU {G:Glo}(s:List UInt8)(c:Int)(h0:0<=c)(h1:c<=255)(hl:s.length<=1000000):aj prog G 227 [.str s,.int .u8 c] (.int .i64 (fU s c s.length)):=by
 refine ao func227 call227 λC hC hGL=> ?_;refine a6 ?_;refine lp hC hGL (λn:Nat=>[(0,.str s),(1,.int .u8 c),(5,.int .i64 ((n:Int)-1))]) (λ_=>[]) (λn=>n<=s.length/\fU s c n=fU s c s.length) (λn=>n) s.length ⟨Nat.le_refl _,rfl⟩ ad rfl ?_;rintro n ⟨h2,h3⟩;cases n with
 |zero=>
  rw[<-h3];exact ba
 |succ n=>
  by_cases h:(aa s n:Int)=c
  ·have e:fU s c (n+1)=n:=by simp only[fU];rw[if_pos h]
   rw[<-h3,e];have e9:((n+1:Nat):Int)-1=(n:Int):=by omega
   rw[e9];exact ba
  ·have e:fU s c (n+1)=fU s c n:=by simp only[fU];rw[if_neg h]
   rw[e] at h3;have e9:((n+1:Nat):Int)-1=(n:Int):=by omega
   rw[e9];refine a6 ?_;intros;exact di n ⟨by omega,h3⟩ (by omega) ad rfl
theorem m8 {G:Glo}(s:List UInt8)(c:Int)(h0:0<=c)(h1:c<=255)(hl:s.length<=1000000):aj prog G 192 [.str s,.int .u8 c] (.int .i64 (fU s c s.length)):=by
 have k1:=jU (G:=G) s c h0 h1 hl;refine ao func192 call192 λC hC hGL=> ?_;exact ba
end
section
theorem Eu {s:List UInt8}{j:Nat}{c:UInt8}(hj:j<s.length)(h:c∉s):(aa s j:Int)≠(c.toNat:Int):=by
 intro e;apply h;have e1:aa s j=(s[j]).toNat:=by simp[aa,List.getD,hj]
 have e2:(s[j]).toNat=c.toNat:=by rw[<-e1];omega
 rw[<-UInt8.toNat_inj.1 e2];exact List.getElem_mem hj
theorem NL {r t:List UInt8}{c:UInt8}(h:c∉r):bj (r++c::t) (c.toNat:Int)=(r.length:Nat):=by
 refine Be (by simp) ?_ λj hj=> ?_
 ·simp[aa,List.getD]
 ·have:=Eu hj h;rwa [show aa (r++c::t) j=aa r j by simp[aa,List.getD,List.getElem?_append_left hj]]
theorem Q8 {r:List UInt8}{c:UInt8}(h:c∉r):bj r (c.toNat:Int)= -1:=zI λj hj=>Eu hj h
theorem Al {P:Program}{G:Glo}{L:Nat}{avs:List AVal}{H:Heap}{Q Q':Bool->Heap->Prop}(h:m6 P G L avs H Q)(hq:∀b H',Q b H'->∃H2,H'.Perm H2/\Q' b H2):m6 P G L avs H Q':=by
 intro R w args hG hm ha;obtain⟨fn,tm,ag,bd,hy,hr⟩:=h R w args hG hm ha;exact⟨fn,tm,ag,bd,hy,hr.mono λe w' ⟨b,H',R',q,er,hm'⟩=>let ⟨H2,hp,q'⟩:=hq _ _ q;⟨b,H2,R',q',er,hm'.perm hp⟩⟩
theorem K4 {P:Program}[Tab P]{G:Glo}{L:Nat}{avs:List AVal}{H1 H2:Heap}{Q:Bool->Heap->Prop}(hp:H1.Perm H2)(h:m6 P G L avs H1 Q):m6 P G L avs H2 Q:=by
 have hb:∀k,k∈eh H2↔k∈eh H1:=λk=>by
  have:=(hp.filterMap HEnt.blk).mem_iff (a:=k);exact this.symm
 intro R w args hG hm ha;obtain⟨fn,tm,ag,bd,hy,hr⟩:=h R w args hG ((hm.perm hp.symm).blks_iff hb) ha;exact⟨fn,tm,ag,bd,hy,hr.mono λe w' ⟨b,H',R',q,er,hm'⟩=>⟨b,H',R',q,er,hm'.blks_iff λk=>(hb k).symm⟩⟩
theorem Ui {P:Program}[Tab P]{G:Glo}{f:FuncId}{avs:List AVal}(H:Heap){X:Type}{N:X->Heap}{v v':X->AVal}(hs:ae P G f avs [] (λr H'=>∃x,r= .ret (v x)/\H'=N x))(hv:∀x R u,bE R (v x) u->bE R (v' x) u):
  ae P G f avs H (λr H'=>∃x,r= .ret (v' x)/\H'=H++N x):=by
 intro R w args hG hm ha;rcases ig H hs R w args hG hm ha with⟨h1,h2⟩|⟨u,w',h1,res,H',R',⟨H1,⟨x,rfl,rfl⟩,rfl⟩,er,hm'⟩
 ·refine .inl ⟨h1,h2.mono ?_⟩;rintro e w' ⟨res,H',R',⟨H1,⟨x,rfl,rfl⟩,rfl⟩,⟨y,e1,hr⟩,hm'⟩;exact⟨.ret (v' x),_,R',⟨x,rfl,rfl⟩,⟨y,e1,hv x R' y hr⟩,hm'.perm List.perm_append_comm⟩
 ·obtain⟨y,e1,hr⟩:=er;exact .inr ⟨u,w',h1,.ret (v' x),_,R',⟨x,rfl,rfl⟩,⟨y,e1,hv x R' y hr⟩,hm'.perm List.perm_append_comm⟩
theorem GN {P:Program}[Tab P]{G:Glo}{f:FuncId}{avs:List AVal}{H:Heap}{K Kp:AVal->Heap->Prop}{X:Type}{N:X->Heap}{v:X->AVal}(v':X->AVal)(hs:ae P G f avs [] (λr H'=>∃x,r= .ret (v x)/\H'=N x))(hv:∀x R u,bE R (v x) u->bE R (v' x) u)(k:∀x,K (v' x) (H++N x)):Cx P G f avs H K Kp:=by
 refine .mk _ (Ui H hs hv) ?_ ?_
 ·rintro u H' ⟨x,e,rfl⟩;cases e;exact k x
 ·rintro u H' ⟨x,e,rfl⟩;cases e
abbrev dw (b:Nat)(s:List UInt8):HEnt:=.cells b (some 9) [.str s]
abbrev lG (b:Nat)(m:Int):HEnt:=.cells b (some 3) [.int .i64 m]
abbrev ga (b:Nat):Value:=.pointer (some ⟨b,0,none⟩)
attribute [local irreducible] bN aw aa aC bg ab ae
attribute [local irreducible] iz m6
theorem tD {G:Glo}(s:List UInt8)(c:UInt8):aj prog G 52 [.str s,.str [c]] (.int .i64 (bj s (c.toNat:Int))):=by
 have k1:=qn (G:=G) s c;refine ao func52 call52 λC hC hGL=> ?_;exact ba
theorem rQ {G:Glo}(s:List UInt8)(c:UInt8):ae prog G 128 [.str s,.str [c],.int .i64 0] []
  (λr H=>∃x:Nat×Nat×Nat,r= .ret (.func (.func 182) [] [.own 1 (ga x.2.1),.own 0 (ga x.1),.own 2 (ga x.2.2)])/\H=[dw x.1 s,dw x.2.1 [c],lG x.2.2 0]):=by
 refine ao func128 call128 λC hC hGL=> ?_;refine Vi ?_;intro b0 b1 b2;intros;exact⟨_,List.Sublist.refl _,(b0,b1,b2),rfl,rfl⟩
theorem lE {G:Glo}(s:List UInt8)(c:UInt8):ae prog G 78 [.str s,.str [c]] []
  (λr H=>∃x:Nat×Nat×Nat,r= .ret (.func (.func 182) [] [.own 1 (ga x.2.1),.own 0 (ga x.1),.own 2 (ga x.2.2)])/\H=[dw x.1 s,dw x.2.1 [c],lG x.2.2 0]):=by
 have h1:=rQ (G:=G) s c;refine ao func78 call78 λC hC hGL=> ?_;refine az ?_;refine GN (λx:Nat×Nat×Nat=>.func (.func 182) [] [.own 1 (ga x.2.1),.own 0 (ga x.1),.own 2 (ga x.2.2)]) h1 (λ_ _ _ h=>h) ?_;rintro⟨b0,b1,b2⟩;refine az ?_;exact⟨_,List.Sublist.refl _,(b0,b1,b2),rfl,rfl⟩
theorem oY {G:Glo}(L b0 b1 b2:Nat)(c:UInt8)(rows:List (List UInt8))(hne:0<rows.length)(hno:∀k,c∉rows.getD k [])(hlen:∀k,(eI c (rows.drop k)).length<=1000000){Y Z:Type}(J:Y->Heap)(E:Z->Heap)(Inv:Nat->Y->Prop)(y0:Y)(h0:Inv 0 y0)
  (hy:∀(k:Nat) (s':List UInt8) (y:Y),k<rows.length->Inv k y->m6 prog G L [.str (rows.getD k [])] (dw b0 s'::dw b1 [c]::lG b2 0::J y) (λb H'=>(b=true/\∃y',Inv (k+1) y'/\H'=dw b0 s'::dw b1 [c]::lG b2 0::J y')\/(b=false/\∃z,H'=dw b0 s'::dw b1 [c]::lG b2 0::E z))):
  ae prog G 182 [.func (.yield L) [] [],.own 1 (ga b1),.own 0 (ga b0),.own 2 (ga b2)] (dw b0 (eI c rows)::dw b1 [c]::lG b2 0::J y0)
   (λr H'=>r= .ret (.tuple [])/\∃s',(∃y,Inv rows.length y/\H'=dw b0 s'::dw b1 [c]::lG b2 0::J y)\/∃z,H'=dw b0 s'::dw b1 [c]::lG b2 0::E z):=by
 have k1:=λs=>tD (G:=G) s c;have hGL:ab G []:=aG;refine Kg func182 call182 rfl rfl rfl rfl ?_;intro C hC;refine cut hC hGL [(0,.func (.yield L) [] []),(1,.own 1 (ga b1)),(2,.own 0 (ga b0)),(3,.own 2 (ga b2))] (dw b0 (eI c rows)::dw b1 [c]::lG b2 0::J y0) True cx λ_=> ?_;refine fY (lY (nX (X:=Nat×Y) (λx=>[(0,.func (.yield L) [] []),(1,.own 1 (ga b1)),(2,.own 0 (ga b0)),(3,.own 2 (ga b2))]) (λx=>dw b0 (eI c (rows.drop x.1))::dw b1 [c]::lG b2 0::J x.2) (λx=>x.1<rows.length/\Inv x.1 x.2) (λx=>rows.length-x.1) (0,y0) ⟨hne,h0⟩ ad (List.Sublist.refl _) ?_));rintro⟨k,y⟩ ⟨hk,hI⟩;dsimp only at hk hI ⊢;refine lY ?_;by_cases hl:k+1<rows.length
 ·have e1:=Gg (c:=c) hl;have hi:=NL (r:=rows.getD k []) (t:=eI c (rows.drop (k+1))) (hno k);have hln:=hlen k;rw[<-e1] at hi;have k2:=k1 (eI c (rows.drop k));rw[hi] at k2;have hy1:=hy k (eI c (rows.drop k)) y hk hI;have e3:(eI c (rows.drop k)).take (rows.getD k []).length=rows.getD k []:=by rw[e1,List.take_left]
  have e4:(eI c (rows.drop k)).drop ((rows.getD k []).length+1)=eI c (rows.drop (k+1)):=by
   rw[e1,<-List.drop_drop,List.drop_left];rfl
  have e5:(rows.getD k []).length+1<=(eI c (rows.drop k)).length:=by rw[e1];simp
  generalize hsr:eI c (rows.drop k)=s at*
  generalize hr:rows.getD k []=r at*
  refine cut hC hGL [(0,.func (.yield L) [] []),(1,.own 1 (ga b1)),(2,.own 0 (ga b0)),(3,.own 2 (ga b2)),(7,.int .i64 (r.length:Nat))] (dw b0 s::dw b1 [c]::lG b2 0::J y) True cx λ_=> ?_;refine cut hC hGL [(0,.func (.yield L) [] []),(1,.own 1 (ga b1)),(2,.own 0 (ga b0)),(3,.own 2 (ga b2)),(7,.int .i64 (r.length:Nat))] (dw b0 s::dw b1 [c]::lG b2 0::J y) True cx λ_=> ?_;refine cut hC hGL [(0,.func (.yield L) [] []),(1,.own 1 (ga b1)),(2,.own 0 (ga b0)),(3,.own 2 (ga b2)),(7,.int .i64 (r.length:Nat)),(8,.str (s.take r.length))] (dw b0 s::dw b1 [c]::lG b2 0::J y) True cx λ_=> ?_;rw[e3];refine fY (fY (EE 2 hC hGL rfl rfl (by kernel_rfl) ?_));refine az ?_;refine⟨L,_,rfl,rfl,Al hy1 ?_⟩;rintro b H' (⟨rfl,y',hy',rfl⟩|⟨rfl,z,rfl⟩)
  ·refine⟨_,List.Perm.refl _,?_⟩;refine az ?_;refine am hC hGL (az ?_);refine am hC hGL (az ?_);rw[bB];refine⟨(k+1,y'),⟨hl,hy'⟩,by show rows.length-(k+1)<rows.length-k;omega,ad,?_⟩;show List.Sublist (dw b0 (eI c (rows.drop (k+1)))::dw b1 [c]::lG b2 0::J y') _;rw[<-e4];exact List.Sublist.refl _
  ·refine⟨_,List.Perm.refl _,?_⟩;refine az ?_;refine am hC hGL (az ?_);exact⟨_,List.Sublist.refl _,rfl,s,.inr ⟨z,rfl⟩⟩
 ·have e1:=Gf (c:=c) (l:=rows) (k:=k) (by omega);have hi:=Q8 (hno k);rw[<-e1] at hi;have k2:=k1 (eI c (rows.drop k));rw[hi] at k2;have hy1:=hy k (eI c (rows.drop k)) y hk hI;rw[<-e1] at hy1;have hkl:k+1=rows.length:=by omega
  generalize eI c (rows.drop k)=s at*
  refine cut hC hGL [(0,.func (.yield L) [] []),(1,.own 1 (ga b1)),(2,.own 0 (ga b0)),(3,.own 2 (ga b2)),(7,.int .i64 (-1))] (dw b0 s::dw b1 [c]::lG b2 0::J y) True cx λ_=> ?_;refine am hC hGL (az ?_);intro _;refine⟨λh=>absurd h (by decide),λ_=>⟨λ_=> ?_,λh=>absurd rfl h⟩⟩;refine EE 2 hC hGL rfl rfl (by kernel_rfl) ?_;refine az ?_;refine⟨L,_,rfl,rfl,Al hy1 ?_⟩;rintro b H' (⟨rfl,y',hy',rfl⟩|⟨rfl,z,rfl⟩)
  ·refine⟨_,List.Perm.refl _,?_⟩;refine az ?_;rw[hkl] at hy';exact⟨_,List.Sublist.refl _,rfl,s,.inl ⟨y',hy',rfl⟩⟩
  ·refine⟨_,List.Perm.refl _,?_⟩;refine az ?_;exact⟨_,List.Sublist.refl _,rfl,s,.inr ⟨z,rfl⟩⟩
end
section
theorem pm {α β:Type}{f:α->Option β}{x y:α}(hf:f y=f x):∀{h:List α} {i:Nat},h[i]? =some x->(h.set i y).filterMap f=h.filterMap f
 |[],i,e=>by simp at e
 |z::h,0,e=>by
  simp only[List.getElem?_cons_zero,Option.some.injEq] at e;subst e;simp[List.filterMap_cons,hf]
 |z::h,i+1,e=>by
  simp only[List.getElem?_cons_succ] at e;simp only[List.set_cons_succ,List.filterMap_cons,pm hf e]
theorem MS.setEnt {C:Ctx}{R:Seal}{H:Heap}{w:World}{i:Nat}{x y:HEnt}(h:MS C R H w)(hi:H[i]? =some x)(hb:y.blk=x.blk)(hy:y.holds R w):MS C R (H.set i y) w:=by
 have hx:x∈H:=List.mem_of_getElem? hi;have hm:∀z,z∈H.set i y->z∈H\/z=y:=λz hz=>List.mem_or_eq_of_mem_set hz;refine⟨h.sealed,h.ge,h.fresh,⟨λz hz=> ?_,?_,λz hz b hzb=> ?_⟩,λz hz b hzb=> ?_,h.ext⟩
 ·rcases hm z hz with h1|rfl
  ·exact h.heap.holds z h1
  ·exact hy
 ·rw[pm hb hi];exact h.heap.nodup
 ·rcases hm z hz with h1|rfl
  ·exact h.heap.apart z h1 b hzb
  ·exact h.heap.apart x hx b (by rw[<-hb];exact hzb)
 ·rcases hm z hz with h1|rfl
  ·exact h.own z h1 b hzb
  ·exact h.own x hx b (by rw[<-hb];exact hzb)
theorem lK {R:Seal}{a a':AVal}(ht:∀v,bh R a [v]->bh R a' [v]):∀{cs:List AVal} {vs:List Value} {p:Nat},ce R cs vs->cs[p]? =some a->ce R (cs.set p a') vs
 |[],_,_,_,e=>by simp at e
 |c::cs,_,0,⟨v,t,rfl,h1,h2⟩,e=>by
  simp only[List.getElem?_cons_zero,Option.some.injEq] at e;subst e;exact⟨v,t,rfl,ht v h1,h2⟩
 |c::cs,_,p+1,⟨v,t,rfl,h1,h2⟩,e=>by
  simp only[List.getElem?_cons_succ] at e;exact⟨v,t,rfl,h1,lK ht h2 e⟩
inductive mS (R:Seal) (p:Nat) (a':AVal):HEnt->HEnt->Prop
 |cells {b eT cs a} (hp:cs[p]? =some a) (ht:∀v,bh R a [v]->bh R a' [v]):mS R p a' (.cells b eT cs) (.cells b eT (cs.set p a'))
 |row {v eT sz n cs a} (hp:cs[p]? =some a) (ht:∀v,bh R a [v]->bh R a' [v]):mS R p a' (.row v eT sz n cs) (.row v eT sz n (cs.set p a'))
theorem mS.holds {R:Seal}{p:Nat}{a':AVal}{x y:HEnt}{w:World}(h:mS R p a' x y)(hx:x.holds R w):y.holds R w/\y.blk=x.blk:=by
 cases h with
 |cells hp ht=>
  obtain⟨C,e,fz,hb,hl,hf⟩:=hx;exact⟨⟨C,e,fz,hb,lK ht hl hp,hf⟩,rfl⟩
 |row hp ht=>
  rename_i v eT sz n cs a;obtain⟨hlen,y⟩:=hx;refine⟨⟨by rw[List.length_set];exact hlen,?_⟩,by cases v with|slice a l c=>cases a<;>rfl|_=>rfl⟩
  rcases y with⟨h1,h2⟩|⟨b,cap,C,e,fz,rfl,hb,hs,hn,hl,hf⟩
  ·exact .inl ⟨h1,h2⟩
  ·exact .inr ⟨b,cap,C,e,fz,rfl,hb,hs,hn,lK ht hl hp,hf⟩
def To (C:Ctx)(n:Nat)(e:Env)(h:Heap)(e':Env)(h':Heap):Prop:=
 ∀R a w,MS C R h w->FS C.D n R e a->∃R',R.le R'/\MS C R' h' w/\FS C.D n R' e' a
section
variable {C:Ctx} {n:Nat} {e e' e'':Env} {h h' h'':Heap}
theorem aE (a:To C n e h e' h')(b:To C n e' h' e'' h''):To C n e h e'' h'':=λR x w hm hf=>
 let ⟨R1,l1,m1,f1⟩:=a R x w hm hf
 let ⟨R2,l2,m2,f2⟩:=b R1 x w m1 f1
 ⟨R2,Seal.le_trans l1 l2,m2,f2⟩
theorem cQ (hs:Env.sub e e')(hh:h'.Sublist h):To C n e h e' h':=λR _ _ hm hf=>⟨R,Seal.le_refl R,hm.drop hh,hf.sub hs⟩
theorem S2 {k i:Nat}{v:Value}(hv:cU v=false)(hk:Env.get e k=some (.raw v)):To C n e h ((k,.own i v)::e) h:=λR _ _ hm hf=>⟨R,Seal.le_refl R,hm,wU hv hk hf⟩
theorem gQ (sz:Nat):To C n e h e (h++[.row (.slice none 0 0) none sz 0 []]):=λR a w hm hf=>by
 refine⟨R,Seal.le_refl R,MS.perm (H:=.row (.slice none 0 0) none sz 0 []::h) ?_ (List.perm_append_singleton _ h).symm,hf⟩;refine⟨hm.sealed,hm.ge,hm.fresh,⟨λz hz=> ?_,hm.heap.nodup,λz hz b hb=> ?_⟩,λz hz b hb=> ?_,hm.ext⟩
 ·rcases List.mem_cons.1 hz with rfl|hz
  ·exact⟨by simp,.inl ⟨rfl,rfl⟩⟩
  ·exact hm.heap.holds z hz
 ·rcases List.mem_cons.1 hz with rfl|hz
  ·cases hb
  ·exact hm.heap.apart z hz b hb
 ·rcases List.mem_cons.1 hz with rfl|hz
  ·cases hb
  ·exact hm.own z hz b hb
theorem jD {i p:Nat}{a':AVal}{x y:HEnt}(hi:h[i]? =some x)(hc:∀R,mS R p a' x y):To C n e h e (h.set i y):=λR a w hm hf=>by
 obtain⟨h1,h2⟩:=(hc R).holds (hm.heap.holds x (List.mem_of_getElem? hi));exact⟨R,Seal.le_refl R,hm.setEnt hi h2 h1,hf⟩
theorem jC {i k p sz m:Nat}{v:Value}{eT:Option TypeId}{cs:List AVal}{x y:HEnt}(f:Nat->AVal)(hi:h[i]? =some (.row v eT sz m cs))(hk:(h.eraseIdx i)[k]? =some x)
  (hf:∀j,j<m->(f j).cells=(cs.drop (j*sz)).take sz/\(f j).plain=true) (hc:∀R,bE R (.list sz m f) v->mS R p (.list sz m f) x y):To C n e h e ((h.eraseIdx i).set k y):=λR a w hm hfs=>by
 obtain⟨R',hle,hm',hr⟩:=MS.seal_row (hm.perm (fI hi)) hf;obtain⟨h1,h2⟩:=(hc R' hr).holds (hm'.heap.holds x (List.mem_of_getElem? hk));exact⟨R',hle,hm'.setEnt hk h2 h1,hfs.mono hle⟩
theorem df {R:Seal}{j sz m:Nat}{u v:Value}{f:Nat->AVal}(hr:bE R (.list sz m f) v):bh R (.own j v) [u]->bh R (.list sz m f) [u]:=by
 rintro⟨e,_⟩;simp only[List.cons.injEq,and_true] at e;subst e;exact bA hr rfl
theorem jK {R:Seal}{j:Nat}{u:Value}:bh R (.raw (.slice none 0 0)) [u]->bh R (.own j (.slice none 0 0)) [u]:=by
 intro e;have e:[u]=[.slice none 0 0]:=e;exact⟨e,rfl⟩
theorem g7 {R:Seal}{sz:Nat}{f:Nat->AVal}{u:Value}:bh R (.raw (.slice none 0 0)) [u]->bh R (.list sz 0 f) [u]:=by
 intro e;have e:[u]=[.slice none 0 0]:=e;exact⟨none,0,e,Nat.le_refl _,.inl rfl⟩
end
section
variable {P:Program} [Tab P] {C:Ctx} {n:Nat} {env:Env} {H:Heap} {Q:aQ->Env->Heap->Prop} {G:Glo} {GL:List (Nat×List AVal)}
structure Xb {X:Type} (C:Ctx) (n:Nat) (I:X->Env) (J:X->Heap) (Inv:X->Prop) (μ:X->Nat) (x:X) (e:Env) (h:Heap):Prop where
 h:∃x',Inv x'/\μ x'<μ x/\To C n e h (I x') (J x')
theorem nxT {X:Type}{I:X->Env}{J:X->Heap}{Inv:X->Prop}{μ:X->Nat}{x:X}{e:Env}{h:Heap}(x':X)(h1:Inv x')(h2:μ x'<μ x)(h3:To C n e h (I x') (J x')):Xb C n I J Inv μ x e h:=⟨⟨x',h1,h2,h3⟩⟩
theorem lpT {c:Code}{X:Type}(hC:C.G=G)(hGL:ab G GL)(I:X->Env)(J:X->Heap)(Inv:X->Prop)(μ:X->Nat)(x0:X)(h0:Inv x0)(hto:To C n env H (I x0) (J x0))
  (round:∀x,Inv x->gh P C n G GL c (I x) (J x) (gG (λe h=>Xb C n I J Inv μ x e h) Q)):Lp P C n c env H Q:=by
 refine⟨λR a w hm hf=> ?_⟩;obtain⟨R0,_,hm,hf⟩:=hto R a w hm hf;refine wp_loop_ghost (λm a w=>∃x R,Inv x/\μ x=m/\MS C R (J x) w/\FS C.D n R (I x) a) (μ x0) ⟨x0,R0,h0,rfl,hm,hf⟩ ?_;rintro m a w ⟨x,R,hx,rfl,hm,hf⟩;refine wp_mono (cX hC hGL _ _ _ _ (round x hx) R a w hm hf) ?_;rintro e a' w' ⟨x',en,H',R',q,er,hm',hf'⟩;cases x' with
 |normal=>
  simp only[aM] at er;subst er;obtain⟨x',hx',hlt,hto⟩:=Xb.h q;obtain⟨R2,_,hm2,hf2⟩:=hto R' a' w' hm' hf';exact⟨μ x',hlt,x',R2,hx',rfl,hm2,hf2⟩
 |exit i=>simp only[aM] at er;subst er;exact⟨.exit i,en,H',R',q,rfl,hm',hf'⟩
 |goto i=>simp only[aM] at er;subst er;exact⟨.goto i,en,H',R',q,rfl,hm',hf'⟩
 |ret=>simp only[aM] at er;subst er;exact⟨.ret,en,H',R',q,rfl,hm',hf'⟩
 |panic v=>obtain⟨y,rfl,hr⟩:=er;exact⟨.panic v,en,H',R',q,⟨y,rfl,hr⟩,hm',hf'⟩
omit [Tab P] in
theorem qM {c:Code}{e':Env}{h':Heap}(hto:To C n env H e' h')(k:Lp P C n c e' h' Q):Lp P C n c env H Q:=by
 refine⟨λR a w hm hf=> ?_⟩;obtain⟨R0,_,hm,hf⟩:=hto R a w hm hf;exact k.h R0 a w hm hf
omit [Tab P] in
theorem eQ {id:Nat}{ops:Array Oper}{e':Env}{h':Heap}(hto:To C n env H e' h')(k:Dw P C n id ops e' h' Q):Dw P C n id ops env H Q:=by
 refine⟨λR a w hm hf=> ?_⟩;obtain⟨R0,_,hm,hf⟩:=hto R a w hm hf;exact k.h R0 a w hm hf
def tu (res:cz)(H:Heap)(v:AVal):Prop:=∀(C:Ctx) (R:Seal) (w:World) (e:Ending),MS C R H w->gD R res e->∃R',MS C R' [] w/\gD R' (.ret v) e
omit [Tab P] in
theorem dC {f:FuncId}{avs:List AVal}{H:Heap}{Qf:cz->Heap->Prop}{v:AVal}(h:ae P G f avs H Qf)(hq:∀r H',Qf r H'->tu r H' v):ae P G f avs H (λr H'=>r= .ret v/\H'=[]):=by
 intro R w args hG hm ha;rcases h R w args hG hm ha with⟨h1,h2⟩|⟨x,w',h1,res,H',R',q,er,hm'⟩
 ·exact .inl ⟨h1,h2.mono λe w' ⟨res,H',R',q,er,hm'⟩=>let ⟨R2,m2,e2⟩:=hq _ _ q _ _ _ _ hm' er;⟨.ret v,[],R2,⟨rfl,rfl⟩,e2,m2⟩⟩
 ·obtain⟨R2,m2,e2⟩:=hq _ _ q _ _ _ _ hm' er;exact .inr ⟨x,w',h1,.ret v,[],R2,⟨rfl,rfl⟩,e2,m2⟩
end
end
section
theorem MS.seal_cells {C:Ctx}{R:Seal}{w:World}{H:Heap}{b:Nat}{eT:Option TypeId}{cs:List AVal}(h:MS C R (.cells b eT cs::H) w):
  ∃R',R.le R'/\MS C R' H w/\bE R' (.rop cs 0) (.pointer (some ⟨b,0,none⟩)):=by
 obtain⟨Cs,el,fz,hb,hl,hfz⟩:=h.heap.holds _ (List.mem_cons_self ..);obtain⟨h1,h2⟩:=h.fixed (b:=b) rfl hb;refine⟨_,h2,h1,⟨b,0,Cs,el,fz,rfl,Nat.le_refl _,Seal.put_at _ _ _,?_⟩,rfl⟩;have hlen:=aO hl;rw[Nat.sub_self,List.drop_zero,List.take_of_length_le (by omega)];exact dJ h2 _ _ hl
abbrev fp:HEnt:=.row (.slice none 0 0) none 1 0 []
section
variable {P:Program} [Tab P] {C:Ctx} {n:Nat} {G:Glo} {GL:List (Nat×List AVal)} {e:Env} {h:Heap} {env:Env} {H:Heap} {Q:aQ->Env->Heap->Prop}
theorem aK {i k j b:Nat}{eT:Option TypeId}{cs:List AVal}(hi:h[i]? =some (.cells b eT cs))(hk:Env.get e k=some (.own j (.pointer (some ⟨b,0,none⟩)))):
  To C n e h ((k,.rop cs 0)::e) (h.set i fp):=λR a w hm hf=>by
 obtain⟨R',hle,hm',hr⟩:=MS.seal_cells (hm.perm (fI hi));refine⟨R',hle,(hm'.ghost 1).perm (i6 fp hi),?_⟩;have hf':=hf.mono hle;refine⟨λt x ht=> ?_,hf'.size,hf'.defers⟩;simp only[Env.get] at ht;split at ht
 ·rename_i hb
  have:=Nat.eq_of_beq_eq_true hb
  subst this
  simp only[Option.some.injEq] at ht
  subst ht
  obtain⟨y,hy,hr'⟩:=hf'.fr k _ hk
  refine⟨y,hy,?_⟩
  rw[(a7.1 hr').1]
  exact hr
 ·exact hf'.fr t x ht
omit [Tab P] in
theorem Ag {c:Code}{e':Env}{h':Heap}(hto:To C n env H e' h')(k:bN P C n c e' h' Q):bN P C n c env H Q:=λR a w hm hf=>by
 obtain⟨R0,_,hm,hf⟩:=hto R a w hm hf;exact k R0 a w hm hf
def Qx:List (Nat×Nat×Value)->Env->Env
 |[],e=>e
 |(s,i,v)::t,e=>(s,.own i v)::Qx t e
def Hc:List (Nat×Nat×Value)->Env->Prop
 |[],_=>True
 |(s,_,v)::t,e=>(Env.get (Qx t e) s=some (.raw v)/\cU v=false)/\Hc t e
theorem Ir {D:List Deferred}{R:Seal}{a:Act}:∀{os:List (Nat×Nat×Value)} {e:Env},Hc os e->FS D n R e a->FS D n R (Qx os e) a
 |[],_,_,h=>h
 |(_,_,_)::_,_,⟨⟨h1,h2⟩,h3⟩,h=>wU h2 h1 (Ir h3 h)
theorem wX (os:List (Nat×Nat×Value)){f:FuncId}{fn:Func}{c:Code}{avs:List AVal}{Qf:cz->Heap->Prop}{rs:List ResultVar}(hf:P.funcs[f]? =some fn)
  (hc:∀args w,(callFunc f args).run P w= .ok (.enter f args) w) (hb:fn.body=some c) (hn:fn.ntmps=n) (hrs:fn.results=rs.toArray) (hlen:Nat.ble avs.length n=true) (ho:Hc os (ft 0 avs))
  (h:∀C:Ctx,C.G=G->bN P C n c (Qx os (ft 0 avs)) H (ui P rs Qf)):ae P G f avs H Qf:=
 qZ hf hb hc hn hrs hlen λw0 R0 hG=>bN.mono (G6 (λ_ _ hf=>Ir ho hf) (h ⟨w0,R0,eh H,G,hG,[]⟩ rfl)) λ_ _ _ q=>jV q
end
end
section
def zg:List Nat->Heap->Heap
 |[],_=>[]
 |i::is,H=>match H[i]? with
  |some x=>x::zg is (H.eraseIdx i)
  |none=>[]
def s3:List Nat->Heap->Heap
 |[],H=>H
 |i::is,H=>match H[i]? with
  |some _=>s3 is (H.eraseIdx i)
  |none=>H
theorem om:∀(is:List Nat) (H:Heap),H.Perm (zg is H++s3 is H)
 |[],H=>List.Perm.refl _
 |i::is,H=>by
  unfold zg s3;cases h:H[i]? with
  |none=>exact List.Perm.refl _
  |some x=>
   have h1:=fI h;exact h1.trans ((om is (H.eraseIdx i)).cons x)
theorem RB (is:List Nat){P:Program}[Tab P]{G:Glo}{f:FuncId}{avs:List AVal}{H H1:Heap}{K Kp:AVal->Heap->Prop}{Qf:cz->Heap->Prop}(hs:ae P G f avs H1 Qf)(e1:zg is H=H1)
  (kr:∀v H1',Qf (.ret v) H1'->∃H2,zg is H2=H1'/\s3 is H2=s3 is H/\K v H2) (kp:∀v H1',Qf (.panic v) H1'->∃H2,zg is H2=H1'/\s3 is H2=s3 is H/\Kp v H2):Cx P G f avs H K Kp:=by
 subst e1;have h1:=jQ (om is H).symm (ig (s3 is H) hs);refine⟨λr H'=>match r with|.ret v=>K v H'|.panic v=>Kp v H',jR h1 ?_,λv H' h=>h,λv H' h=>h⟩;rintro r H' ⟨H1',q,rfl⟩;cases r with
 |ret v=>
  obtain⟨H2,g1,g2,k⟩:=kr v H1' q;refine⟨H2,?_,k⟩;have:=om is H2;rw[g1,g2] at this;exact this.symm
 |panic v=>
  obtain⟨H2,g1,g2,k⟩:=kp v H1' q;refine⟨H2,?_,k⟩;have:=om is H2;rw[g1,g2] at this;exact this.symm
theorem jX {R R':Seal}{a a' b:AVal}{x:Value}(hle:R.le R')(h:bE R (.tuple [a,b]) x)(ht:∀v,bE R a v->bE R' a' v):bE R' (.tuple [a',b]) x:=by
 obtain⟨⟨ws,e,u,t,e1,hu,u2,t2,e2,hu2,rfl⟩,h2⟩:=h;have k:=ht u ⟨hu.1,hu.2⟩;have k2:=fF hle (show bE R b u2 from⟨hu2.1,hu2.2⟩);exact⟨⟨ws,e,_,_,e1,⟨k.1,k.2⟩,_,_,e2,⟨k2.1,k2.2⟩,rfl⟩,h2⟩
theorem jn {R R':Seal}{cs:List AVal}{p:Nat}{a a':AVal}{v:Value}(hle:R.le R')(h:bE R (.agg cs) v)(hp:cs[p]? =some a)(ht:∀v,bh R' a [v]->bh R' a' [v]):bE R' (.agg (cs.set p a')) v:=
 ⟨lK ht (dJ hle _ _ h.1) hp,h.2⟩
section
variable {P:Program} [Tab P] {C:Ctx} {n:Nat} {env:Env} {H:Heap} {Q:List Deferred->aQ->Env->Heap->Prop} {G:Glo} {GL:List (Nat×List AVal)}
theorem ik {a b:Code}{X:Type}(hC:C.G=G)(hGL:ab G GL)(I:X->Env)(J:X->Heap)(Inv:X->Prop)(h1:gh P C n G GL a env H (gG (λe h=>Cy I J Inv e h) (Q C.D)))(h2:∀x,Inv x->gk P C n b (I x) (J x) Q):gk P C n (.seq a b) env H Q:=by
 refine cA (O2 ((cX hC hGL _ _ _ _ h1).mono λx e h q=> ?_));cases x with
 |normal=>
  obtain⟨y,hy,hs,rfl⟩:=q.h
  exact λR a w hm hf=>h2 y hy R a w hm (hf.sub hs)
 |exit i=>exact q
 |goto i=>exact q
 |ret=>exact q
 |panic v=>exact q
end
end
section
theorem O1 {P:Program}{C:Ctx}{n:Nat}{c:Code}{env env':Env}{H H':Heap}{Q:List Deferred->aQ->Env->Heap->Prop}(hto:To C n env H env' H')(h:gk P C n c env' H' Q):gk P C n c env H Q:=λR a w hm hf=>by
 obtain⟨R',hle,hm',hf'⟩:=hto R a w hm hf;exact h R' a w hm' hf'
theorem Bp {P:Program}{G:Glo}{f:FuncId}{avs avs':List AVal}{H:Heap}{Qf:cz->Heap->Prop}(h:ae P G f avs H Qf)(ha:∀R vs,dv R avs' vs->dv R avs vs):ae P G f avs' H Qf:=
 λR w args hG hm h2=>h R w args hG hm (ha R _ h2)
def y8 (x:List UInt8×Rl):Bool:= !(E6 x).contains 124&&decide ((eK (E6 x) 32).1=x.1)&&(E6 x).all (λc=>decide (c.toNat<128))&&decide ((E6 x).length<=60)&&
 decide (Lib.fields (E6 x)=[x.1,[kF x.2.t],[kF x.2.a],[kF x.2.b],[kF x.2.p]])&&decide (0<=x.2.t/\x.2.t<10/\0<=x.2.a/\x.2.a<10/\0<=x.2.b/\x.2.b<10/\0<=x.2.p/\x.2.p<10)
theorem qy {v:Int}(hv:v=3\/v=4):(cO v).all y8=true/\(cO v).length<=36/\0<(cO v).length:=by
 rcases hv with rfl|rfl
 ·exact⟨by decide+kernel,by decide+kernel,by decide+kernel⟩
 ·exact⟨by decide+kernel,by decide+kernel,by decide+kernel⟩
theorem FB {v:Int}(hv:v=3\/v=4){k:Nat}(hk:k<(cO v).length):y8 (cO v)[k]=true:=List.all_eq_true.1 (qy hv).1 _ (List.getElem_mem hk)
theorem mg {v:Int}{k:Nat}(hk:k<(cO v).length):(gS v).getD k []=E6 (cO v)[k]:=by
 unfold gS;rw[List.getD_eq_getElem?_getD,List.getElem?_map,List.getElem?_eq_getElem hk];rfl
theorem zD (c:UInt8){m:Nat}:∀l:List (List UInt8),(∀x∈l,x.length<=m)->(eI c l).length<=l.length*(m+1)
 |[],_=>Nat.zero_le _
 |[x],h=>by
  have:=h x (List.mem_singleton.2 rfl);simp only[eI,List.length_cons,List.length_nil];omega
 |x::y::t,h=>by
  have h1:=h x (List.mem_cons_self ..);have ih:=zD c (m:=m) (y::t) λz hz=>h z (List.mem_cons_of_mem _ hz);simp only[eI,List.length_append,List.length_cons] at ih ⊢;rw[Nat.succ_mul];generalize (t.length+1)*(m+1)=z at*
  omega
theorem Hn {v:Int}(hv:v=3\/v=4)(k:Nat):(eI 124 ((gS v).drop k)).length<=1000000:=by
 have h1:=zD 124 (m:=60) ((gS v).drop k) λx hx=>by
  obtain⟨y,hy,rfl⟩:=List.mem_map.1 (List.mem_of_mem_drop hx);have:=List.all_eq_true.1 (qy hv).1 _ hy;simp only[y8,Bool.and_eq_true,decide_eq_true_eq] at this;exact this.1.1.2
 have h2:((gS v).drop k).length<=36:=by
  have:=(qy hv).2.1;unfold gS;rw[List.length_drop,List.length_map];omega
 have:=Nat.mul_le_mul_right (60+1) h2;omega
theorem LQ {v:Int}(hv:v=3\/v=4)(k:Nat):(124:UInt8)∉(gS v).getD k []:=by
 by_cases hk:k<(cO v).length
 ·rw[mg hk];have:=FB hv hk;simp only[y8,Bool.and_eq_true,Bool.not_eq_true',List.contains_eq_mem,decide_eq_false_iff_not] at this;exact this.1.1.1.1.1
 ·rw[List.getD_eq_getElem?_getD,List.getElem?_eq_none (by unfold gS;rw[List.length_map];omega)];simp
def ES (v:Int):List (List UInt8):=(cO v).map (·.1)
theorem QB {v:Int}{k:Nat}(hk:k<(cO v).length):(ES v).take (k+1)=(ES v).take k++[(cO v)[k].1]:=by
 unfold ES;rw[List.take_add_one,List.getElem?_map,List.getElem?_eq_getElem hk];rfl
abbrev QE (b:Nat)(i:Nat)(v:Value):HEnt:=.cells b (some 22) [.own i v]
attribute [local irreducible] bN aw aa aC bg ab ae
attribute [local irreducible] iz m6 gk SP To gS cO ES eK
theorem sZ {G:Glo}{v:Int}(hv:v=3\/v=4):aj prog G 79 [.int .i64 v] (.str (Ja v)):=by
 rcases hv with rfl|rfl
 ·refine ao func79 call79 λC hC hGL=> ?_;refine xw ?_;repeat' first|exact .n|apply Lc.mk
  all_goals intros
  all_goals first
   |exact absurd rfl (by assumption)
   |(apply ak;refine congrArg AVal.str ?_;decide+kernel)
 ·refine ao func79 call79 λC hC hGL=> ?_
  refine xw ?_
  repeat' first|exact .n|apply Lc.mk
  all_goals intros
  all_goals first
   |(apply ak;refine congrArg AVal.str ?_;decide+kernel)
theorem AI {G:Glo}{v:Int}(hv:v=3\/v=4):ae prog G 50 [.int .i64 v] [] (λr H=>∃va,r= .ret (.tuple [.own 4 va,.raw .nilIface])/\H=[.row va none 1 (ES v).length (bc (ES v))]):=by
 have hGL:ab G []:=aG;have hT:=sZ (G:=G) hv;have hS:=lE (G:=G) (Ja v) 124;have hlen:(ES v).length=(gS v).length:=by unfold ES gS;rw[List.length_map,List.length_map]
 have hlr:(gS v).length=(cO v).length:=by unfold gS;rw[List.length_map]
 have h36:=(qy hv).2;refine Wa (rs:=[.tmp 2,.tmp 3]) func50 call50 rfl rfl rfl rfl ?_;intro C hC hD;refine ik hC hGL (λ_:Unit=>[(0,.int .i64 v)]) (λ_=>[]) (λ_=>True) ?_ λ_ _=> ?_
 ·refine az ?_;exact cy () trivial
 refine ik hC hGL (λ_:Unit=>[(0,.int .i64 v)]) (λ_=>[]) (λ_=>True) ?_ λ_ _=> ?_
 ·refine xn ?_;repeat' first|exact .n|apply Lc.mk
  all_goals intros
  all_goals first
   |exact cy () trivial
   |(exfalso;omega)
 refine ik hC hGL (λbo:Nat=>[(0,.int .i64 v),(4,.own 0 (ga bo))]) (λbo=>[.cells bo (some 22) [.raw (.slice none 0 0)]]) (λ_=>True) ?_ λbo _=> ?_
 ·refine az ?_;intro bo;intros;exact cy bo trivial
 refine cA (ik hC hGL (λx:Nat×Nat×Nat=>[(0,.int .i64 v),(4,.own 0 (ga bo)),(18,.func (.func 182) [] [.own 2 (ga x.2.1),.own 1 (ga x.1),.own 3 (ga x.2.2)])]) (λx=>[.cells bo (some 22) [.raw (.slice none 0 0)],dw x.1 (Ja v),dw x.2.1 [124],lG x.2.2 0]) (λ_=>True) ?_ ?_)
 ·refine az ?_;refine GN (λx:Nat×Nat×Nat=>.func (.func 182) [] [.own 2 (ga x.2.1),.own 1 (ga x.1),.own 3 (ga x.2.2)]) hS (λ_ _ _ h=>h) ?_;rintro⟨b0,b1,b2⟩;refine az ?_;exact cy (b0,b1,b2) trivial
 rintro⟨b0,b1,b2⟩-
 dsimp only
 refine Af (O1 (aE (gQ 1) (jD (i:=0) (p:=0) (a':=.own 4 (.slice none 0 0)) rfl (λR=>.cells rfl λ_=>jK))) ?_);refine Ae rfl call182 [(0,.int .i64 v),(4,.own 0 (ga bo))] ad rfl ?_;intro L D r hp ha hb hfs;rw[hC];have hy:∀(k:Nat) (s':List UInt8) (y:List (List UInt8)×Value),k<(gS v).length->y.1=(ES v).take k->m6 prog G L [.str ((gS v).getD k [])] (dw b0 s'::dw b1 [124]::lG b2 0::[QE bo 4 y.2,.row y.2 none 1 y.1.length (bc y.1),iJ D,fJ L r .ready none])
   (λb H'=>(b=true/\∃y':List (List UInt8)×Value,y'.1=(ES v).take (k+1)/\H'=dw b0 s'::dw b1 [124]::lG b2 0::[QE bo 4 y'.2,.row y'.2 none 1 y'.1.length (bc y'.1),iJ D,fJ L r .ready none])\/(b=false/\∃z:Empty,H'=dw b0 s'::dw b1 [124]::lG b2 0::[])):=by
  rintro k s' ⟨ns,w⟩ hk hI;dsimp only at hI ⊢;have hk':k<(cO v).length:=by omega
  have hro:=FB hv hk';simp only[y8,Bool.and_eq_true,decide_eq_true_eq] at hro;have hcut:=mV (G:=G) ((gS v).getD k []) 32 (by rw[mg hk'];omega);have e1:(eK ((gS v).getD k []) 32).1=(cO v)[k].1:=by rw[mg hk'];exact hro.1.1.1.1.2
  have hcut:aj prog G 87 [.str ((gS v).getD k []),.str [32]] (.tuple [.str (cO v)[k].1,.str (eK ((gS v).getD k []) 32).2.1,.bool (eK ((gS v).getD k []) 32).2.2]):=by rw[<-e1];exact hcut
  have hns:ns.length<=36:=by rw[hI,List.length_take];omega
  have e2:=QB hk';refine Al (K4 (H1:=[QE bo 4 w,dw b0 s',dw b1 [124],lG b2 0,.row w none 1 ns.length (bc ns),iJ D,fJ L r .ready none]) (List.perm_middle (l₁:=[dw b0 s',dw b1 [124],lG b2 0]) (a:=QE bo 4 w)).symm
   (K3 (i:=6) (p:=19) (Qf:=λb H'=>b=true/\∃w',H'=[QE bo 4 w',dw b0 s',dw b1 [124],lG b2 0,.row w' none 1 (ns++[(cO v)[k].1]).length (bc (ns++[(cO v)[k].1])),iJ D,fJ L r .ready none]) rfl hp (by kernel_rfl) hfs ?_)) ?_
  ·intro C2 hC2 hD2;rw[ha];refine gj hC2 hGL (az ?_);refine⟨rfl,6,rfl,?_⟩;rw[hb];generalize (cO v)[k].1=nm at*
   refine gj hC2 hGL (az ?_);intro wa wk wc _;refine⟨6,rfl,rfl,.slice wa wk wc,?_⟩;rw[<-bJ,List.length_append];rfl
  ·rintro b H' ⟨rfl,w',rfl⟩;refine⟨_,(List.perm_middle (l₁:=[dw b0 s',dw b1 [124],lG b2 0]) (a:=QE bo 4 w')).symm,.inl ⟨rfl,(ns++[(cO v)[k].1],w'),?_,rfl⟩⟩;rw[e2,hI]
 have run:=oY (G:=G) L b0 b1 b2 124 (gS v) (by omega) (LQ hv) (Hn hv) (Y:=List (List UInt8)×Value) (Z:=Empty) (λy=>[QE bo 4 y.2,.row y.2 none 1 y.1.length (bc y.1),iJ D,fJ L r .ready none]) (λ_=>[]) (λk y=>y.1=(ES v).take k) ([],.slice none 0 0) rfl hy;refine jR (jQ (List.perm_middle (l₁:=[dw b0 (Ja v),dw b1 [124],lG b2 0]) (a:=QE bo 4 (.slice none 0 0))) (Bp run λ_ _ h=>h)) ?_;rintro res H' ⟨rfl,s',⟨⟨ns,w⟩,hI,rfl⟩|⟨z,_⟩⟩
 ·refine⟨_,List.perm_middle (l₁:=[dw b0 s',dw b1 [124],lG b2 0]) (a:=QE bo 4 w),.tuple [],6,.ready,none,rfl,rfl,(λh=>by cases h),?_⟩;dsimp only at hI ⊢;rw[<-hlen,List.take_length] at hI;subst hI;show gk prog _ _ _ _ _ _;refine bW (C:=withD C (nU D::C.D)) hC hGL (az ?_);rw[show(withD C (nU D::C.D)).D=[nU D] from(by show nU D::C.D=_;rw[hD])];refine A5 (i:=5) rfl (A4 ?_);refine az ?_;exact⟨_,.cons _ (.cons _ (.cons _ (.cons _ (.cons_cons _ (List.nil_sublist _))))),w,rfl,rfl⟩
 ·exact z.elim
theorem CT {G:Glo}(v:Int):aj prog G 50 [.int .i64 v] (.tuple [.list 1 (aH v).length (ay (aH v)),(dR v).A]):=by
 by_cases hv:v=3\/v=4
 ·have e1:aH v=ES v:=by unfold aH ES;rw[if_pos hv]
  have e2:dR v= .none:=by unfold dR;rw[if_pos hv]
  rw[e1,e2];exact jP (λa=>.tuple [a,Err.none.A]) (we _) (ay (ES v)) (eq _) (cs:=bc (ES v)) (eT:=none) ((AI hv).mono λr H ⟨va,h1,h2⟩=>⟨_,va,h1,h2⟩)
 ·have e1:aH v=[]:=by unfold aH;rw[if_neg hv]
  have e2:dR v= .errno 1:=by unfold dR;rw[if_neg hv]
  rw[e1,e2];refine dC (H:=[]) (Qf:=λr H=>r= .ret (.tuple [.raw (.slice none 0 0),(Err.errno 1).A])/\H=[]) ?_ (λr H h=>by
   obtain⟨rfl,rfl⟩:=h;rintro C R w e hm ⟨x,rfl,hx⟩;exact⟨R,hm,x,rfl,jX (Seal.le_refl R) hx λu hu=>by
    obtain rfl:=ar.1 (show bE R (.raw (.slice none 0 0)) u from hu);exact⟨⟨none,0,rfl,Nat.le_refl _,.inl rfl⟩,rfl⟩⟩)
  refine ao func50 call50 λC hC hGL=> ?_;refine xw ?_;repeat' first|exact .n|apply Lc.mk
  all_goals intros
  all_goals first
   |(exfalso;omega)
   |(apply ak;rfl)
end
section
def rI (G:Glo):Prop:=∀R,G.p R->∃e fz,R 2=some (.cells (Lib.asciiSpaceTab.map λz=>Value.int .u8 z).toArray e fz)
theorem S7 {G:Glo}(hS:rI G){R:Seal}{w:World}(hG:G.p R)(hs:ei R w):Lib.TabIs prog w "strings.asciiSpace" .u8 Lib.asciiSpaceTab:=by
 obtain⟨e,fz,h⟩:=hS R hG
 have hb:=hs _ _ h
 unfold Lib.TabIs World.var?
 rw[show prog.globalNamed "strings.asciiSpace" =some 2 by kernel_rfl]
 simp[hb]
theorem O4:∀d:Fin 10,Lib.atoiAll [UInt8.ofNat (48+d.val)]= .ok (d.val:Int):=by decide
attribute [local irreducible] bN aw aa aC bg ab ae
theorem rB {G:Glo}(d:Int)(h0:0<=d)(h1:d<10):aj prog G 81 [.str [kF d]] (.tuple [.int .i64 d,.raw .nilIface]):=by
 have ha:=O4 ⟨d.toNat,by omega⟩;have ed:((d.toNat:Nat):Int)=d:=by omega
 simp only[ed] at ha;refine gp (.tuple #[.int .i64 d,.nilIface]) (λR=>lI (aq.2 rfl) (ar.2 rfl)) call81 ?_;intro R args hr w _ _;obtain⟨x,t,e',hx,rfl⟩:=hr;obtain rfl:=aI.1 hx;obtain rfl:=fb e';refine(strconv_Atoi_ok ⟨[kF d].toArray⟩ (by rw[bG];show 1<=9223372036854775806;omega) _ (by unfold kF;simpa using ha) w).mono ?_;rintro e w' ⟨rfl,hw⟩;refine⟨rfl,?_⟩;rcases hw with rfl|⟨t,rfl⟩
 ·exact Below.refl _ _
 ·exact⟨rfl,rfl,rfl,by rw[Lib.bytesWorld_size];omega,λk hk=>Lib.bytesWorld_at_old _ _ _ _ hk⟩
theorem GD {G:Glo}(hS:rI G)(H:Heap)(s:List UInt8)(hl:s.length<100000)(ha:∀(j:Nat) (b:UInt8),s[j]? =some b->b.toNat<128):
  ae prog G 80 [.str s] H (λr H'=>∃b,r= .ret (.own H.length (.slice (some ⟨b,0,none⟩) (Lib.fields s).length (Lib.fields s).length))/\H'=H++[.row (.slice (some ⟨b,0,none⟩) (Lib.fields s).length (Lib.fields s).length) (some 9) 1 (Lib.fields s).length (bc (Lib.fields s))]):=by
 refine nK call80 (by rw[y3,Nat.mul_one]) ?_;rintro C R args ⟨x,t,e,hx,rfl⟩ w hG hm;obtain rfl:=aI.1 hx;obtain rfl:=fb e;refine(strings_Fields ⟨s.toArray⟩ w (by rw[bG];omega) (λj b hb=>ha j b (by simpa using hb)) (S7 hS hG hm.sealed)).mono ?_;rintro e w' ⟨rfl,rfl⟩;refine⟨w,_,Below.refl _ _,rfl,rfl,?_,λR=> ?_⟩
 ·simp
 ·have:=sb R (Lib.fields s);simpa using this
theorem Ea {G:Glo}(hS:rI G)(s:List UInt8)(hl:s.length<100000)(ha:∀(j:Nat) (b:UInt8),s[j]? =some b->b.toNat<128):aj prog G 80 [.str s] (.list 1 (Lib.fields s).length (ay (Lib.fields s))):=
 jP (λa=>a) HW (ay (Lib.fields s)) (eq _) ((GD hS [] s hl ha).mono λ_ _ ⟨_,h1,h2⟩=>⟨_,_,h1,h2⟩)
end
section
abbrev y9 (b:Nat)(r:Rl):HEnt:=.cells b (some 90) [.int .i64 r.t,.int .i64 r.a,.int .i64 r.b,.int .i64 r.p]
abbrev Xa (b:Nat)(t a u p:Int):HEnt:=.cells b (some 158) [.int .i64 t,.int .i64 a,.int .i64 u,.int .i64 p]
abbrev zV (b:Nat):HEnt:=.cells b (some 36) [.raw .nilIface]
theorem Jq {s:List UInt8}(h:(s.all λc=>decide (c.toNat<128))=true):∀(j:Nat) (b:UInt8),s[j]? =some b->b.toNat<128:=λj b hb=>by
 have:=List.all_eq_true.1 h b (List.mem_of_getElem? hb);simpa using this
theorem zQ {s:List UInt8}:∀{l:List (List UInt8×Rl)} {k:Nat} (hk:k<l.length),(∀j (hj:j<l.length),j<k->l[j].1≠s)->l[k].1=s->fO s l=l[k].2
 |x::t,0,hk,_,h=>by
  have h:x.1=s:=h;simp only[fO,if_pos h];rfl
 |x::t,k+1,hk,h0,h=>by
  have h1:=h0 0 (by simp) (Nat.succ_pos k);have h1:x.1≠s:=h1;have ih:=zQ (s:=s) (l:=t) (k:=k) (by simpa using hk) (λj hj hjk=>by
   have:=h0 (j+1) (by simpa using hj) (by omega);simpa using this) (by simpa using h)
  simp only[fO,if_neg h1,ih];rfl
theorem D7 {s:List UInt8}:∀{l:List (List UInt8×Rl)},(∀j (hj:j<l.length),l[j].1≠s)->fO s l=⟨8,0,0,0⟩
 |[],_=>rfl
 |x::t,h0=>by
  have h1:x.1≠s:=h0 0 (by simp);have ih:=D7 (s:=s) (l:=t) (λj hj=>by
   have:=h0 (j+1) (by simpa using hj);simpa using this)
  simp only[fO,if_neg h1,ih]
attribute [local irreducible] bN aw aa aC bg ab ae
attribute [local irreducible] iz m6 gk SP To gS cO ES al
theorem Jp {G:Glo}(hS:rI G){v:Int}(hv:v=3\/v=4)(s:List UInt8)(hl:s.length<=2000000):aj prog G 47 [.str s,.int .i64 v] (.tuple [(fO (al 97 122 (-32) s) (cO v)).A,.raw .nilIface]):=by
 have hGL:ab G []:=aG;have hT:=sZ (G:=G) hv;have hSq:=lE (G:=G) (Ja v) 124;have hU:=fK (G:=G) s (by omega);have hcu:=call43;have hlr:(gS v).length=(cO v).length:=by unfold gS;rw[List.length_map]
 have h36:=(qy hv).2;generalize hup:al 97 122 (-32) s=up at*
 refine Wa (rs:=[.cell 4 90,.cell 5 36]) func47 call47 rfl rfl rfl rfl ?_;intro C hC hD;refine ik hC hGL (λx:Nat×Nat×Nat=>[(1,.int .i64 v),(2,.own 0 (ga x.1)),(4,.own 1 (ga x.2.1)),(5,.own 2 (ga x.2.2))]) (λx=>[dw x.1 s,y9 x.2.1 Rl.z,zV x.2.2]) (λ_=>True) ?_ ?_
 ·refine Vi ?_;intro b2 b4 b5;intros;exact cy (b2,b4,b5) trivial
 rintro⟨b2,b4,b5⟩-
 dsimp only
 refine ik hC hGL (λ_:Unit=>[(1,.int .i64 v),(2,.own 0 (ga b2)),(4,.own 1 (ga b4)),(5,.own 2 (ga b5))]) (λ_=>[dw b2 s,y9 b4 Rl.z,zV b5]) (λ_=>True) ?_ λ_ _=> ?_
 ·refine xn ?_;repeat' first|exact .n|apply Lc.mk
  all_goals intros
  all_goals first
   |exact cy () trivial
   |(exfalso;omega)
 refine cA (ik hC hGL (λx:Nat×Nat×Nat=>[(1,.int .i64 v),(2,.own 0 (ga b2)),(4,.own 1 (ga b4)),(5,.own 2 (ga b5)),(20,.func (.func 182) [] [.own 4 (ga x.2.1),.own 3 (ga x.1),.own 5 (ga x.2.2)])]) (λx=>[dw b2 s,y9 b4 Rl.z,zV b5,dw x.1 (Ja v),dw x.2.1 [124],lG x.2.2 0]) (λ_=>True) ?_ ?_)
 ·refine az ?_;refine GN (λx:Nat×Nat×Nat=>.func (.func 182) [] [.own 4 (ga x.2.1),.own 3 (ga x.1),.own 5 (ga x.2.2)]) hSq (λ_ _ _ h=>h) ?_;rintro⟨b0,b1,b3⟩;refine az ?_;exact cy (b0,b1,b3) trivial
 rintro⟨b0,b1,b3⟩-
 dsimp only
 refine Af ?_;refine Ae rfl call182 [(1,.int .i64 v),(2,.own 0 (ga b2)),(4,.own 1 (ga b4)),(5,.own 2 (ga b5))] ad rfl ?_;intro L D r hp ha hb hfs;rw[hC];have hy:∀(k:Nat) (s':List UInt8) (y:Unit),k<(gS v).length->(∀j (hj:j<(cO v).length),j<k->(cO v)[j].1≠up)->m6 prog G L [.str ((gS v).getD k [])] (dw b0 s'::dw b1 [124]::lG b3 0::[dw b2 s,y9 b4 Rl.z,zV b5,iJ D,fJ L r .ready none])
   (λb H'=>(b=true/\∃_:Unit,(∀j (hj:j<(cO v).length),j<k+1->(cO v)[j].1≠up)/\H'=dw b0 s'::dw b1 [124]::lG b3 0::[dw b2 s,y9 b4 Rl.z,zV b5,iJ D,fJ L r .ready none])\/
    (b=false/\∃T:Heap,H'=dw b0 s'::dw b1 [124]::lG b3 0::(dw b2 s::y9 b4 (fO up (cO v))::zV b5::iJ D::fJ L r .done (some .ret)::T))):=by
  intro k s' y hk hI;have hk':k<(cO v).length:=by omega
  have hro:=FB hv hk';simp only[y8,Bool.and_eq_true,decide_eq_true_eq] at hro;have hF:=Ea hS ((gS v).getD k []) (by rw[mg hk'];omega) (by rw[mg hk'];exact Jq hro.1.1.1.2);rw[mg hk',hro.1.2] at hF;have hdg:=hro.2;have a1:=rB (G:=G) (cO v)[k].2.t hdg.1 hdg.2.1;have a2:=rB (G:=G) (cO v)[k].2.a hdg.2.2.1 hdg.2.2.2.1;have a3:=rB (G:=G) (cO v)[k].2.b hdg.2.2.2.2.1 hdg.2.2.2.2.2.1;have a4:=rB (G:=G) (cO v)[k].2.p hdg.2.2.2.2.2.2.1 hdg.2.2.2.2.2.2.2;have hfind:(cO v)[k].1=up->fO up (cO v)=(cO v)[k].2:=λh=>zQ hk' hI h;have hnext:(cO v)[k].1≠up->∀j (hj:j<(cO v).length),j<k+1->(cO v)[j].1≠up:=λh j hj hjk=>by
   by_cases e:j=k
   ·subst e;exact h
   ·exact hI j hj (by omega)
  rw[mg hk'];generalize (cO v)[k]=row at*
  obtain⟨nm,t,a,b,p⟩:=row;dsimp only at*
  have hperm:∀(x:HEnt) (rr:Rl) (T:Heap),(dw b2 s::y9 b4 rr::zV b5::dw b0 s'::dw b1 [124]::lG b3 0::T).Perm (dw b0 s'::dw b1 [124]::lG b3 0::dw b2 s::y9 b4 rr::zV b5::T):=λ_ rr T=>
   (List.perm_append_comm (l₁:=[dw b2 s,y9 b4 rr,zV b5]) (l₂:=[dw b0 s',dw b1 [124],lG b3 0])).append_right T
  refine Al (K4 (H1:=[dw b2 s,y9 b4 Rl.z,zV b5,dw b0 s',dw b1 [124],lG b3 0,iJ D,fJ L r .ready none]) (hperm (iJ D) _ _)
   (K3 (i:=7) (p:=21) (Qf:=λbb H'=>(bb=true/\nm≠up/\H'=[dw b2 s,y9 b4 Rl.z,zV b5,dw b0 s',dw b1 [124],lG b3 0,iJ D,fJ L r .ready none])\/(bb=false/\nm=up/\∃T,H'=[dw b2 s,y9 b4 ⟨t,a,b,p⟩,zV b5,dw b0 s',dw b1 [124],lG b3 0,iJ D,fJ L r .done (some .ret)]++T)) rfl hp (by kernel_rfl) hfs ?_)) ?_
  ·intro C2 hC2 hD2;rw[ha];refine gj hC2 hGL (az ?_);refine⟨rfl,7,rfl,?_⟩;rw[hb];refine sR (BH hC2 hGL (λ_:Unit=>[(1,.int .i64 v),(2,.own 0 (ga b2)),(4,.own 1 (ga b4)),(5,.own 2 (ga b5)),(7,.list 1 5 (ay [nm,[kF t],[kF a],[kF b],[kF p]]))]) (λ_=>[dw b2 s,y9 b4 Rl.z,zV b5,dw b0 s',dw b1 [124],lG b3 0,iJ D,fJ L r .busy none]) (λ_=>True) ?_ λ_ _=> ?_)
   ·refine az ?_;intros;exact cy () trivial
   refine uN (RQ mixed hC2 hGL (by kernel_rfl) ?_);refine az ?_;refine cq hcu hU rfl ?_;refine az ?_;refine ED rfl (λh=> ?_) (λh=> ?_)
   ·have hnu:nm=up:=bx.1 h;refine BH hC2 hGL (λb8:Nat=>[(4,.own 1 (ga b4)),(5,.own 2 (ga b5)),(7,.list 1 5 (ay [nm,[kF t],[kF a],[kF b],[kF p]])),(8,.own 8 (ga b8))]) (λb8=>[dw b2 s,y9 b4 Rl.z,zV b5,dw b0 s',dw b1 [124],lG b3 0,iJ D,fJ L r .busy none,Xa b8 0 0 0 0]) (λ_=>True) ?_ λb8 _=> ?_
    ·refine az ?_;intro b8;intros;exact cy b8 trivial
    refine uN (BH hC2 hGL (λ_:Unit=>[(4,.own 1 (ga b4)),(5,.own 2 (ga b5)),(7,.list 1 5 (ay [nm,[kF t],[kF a],[kF b],[kF p]])),(8,.own 8 (ga b8)),(30,.int .i64 0)]) (λ_=>[dw b2 s,y9 b4 Rl.z,zV b5,dw b0 s',dw b1 [124],lG b3 0,iJ D,fJ L r .busy none,Xa b8 0 0 0 0]) (λ_=>True) ?_ λ_ _=> ?_)
    ·refine az ?_;exact cy () trivial
    refine sR (G4 5 (WS (gj hC2 hGL (az ?_))));intro _;refine gj hC2 hGL (az ?_);intro _;refine gj hC2 hGL (az ?_);intro _;refine gj hC2 hGL (az ?_);intro _;refine gj hC2 hGL (az ?_);intro _;refine⟨λ_=> ?_,λh=>absurd rfl h⟩;refine gj hC2 hGL (az ?_);exact⟨7,rfl,.inr ⟨rfl,hnu,[Xa b8 t a b p],rfl⟩⟩
   ·refine gj hC2 hGL (az ?_);refine⟨7,rfl,.inl ⟨rfl,λe=> ?_,rfl⟩⟩;have h:aS nm up=false:=h;rw[bx.2 e] at h;cases h
  ·rintro b' H' (⟨rfl,hne,rfl⟩|⟨rfl,hnu,T,rfl⟩)
   ·exact⟨_,hperm (iJ D) _ _,.inl ⟨rfl,(),hnext hne,rfl⟩⟩
   ·rw[hfind hnu];exact⟨_,hperm (iJ D) _ _,.inr ⟨rfl,T,rfl⟩⟩
 have run:=oY (G:=G) L b0 b1 b3 124 (gS v) (by omega) (LQ hv) (Hn hv) (Y:=Unit) (Z:=Heap) (λ_=>[dw b2 s,y9 b4 Rl.z,zV b5,iJ D,fJ L r .ready none]) (λT=>dw b2 s::y9 b4 (fO up (cO v))::zV b5::iJ D::fJ L r .done (some .ret)::T) (λk _=>∀j (hj:j<(cO v).length),j<k->(cO v)[j].1≠up) () (λj hj h=>absurd h (Nat.not_lt_zero _)) hy;have hperm:∀(s':List UInt8) (rr:Rl) (T:Heap),(dw b0 s'::dw b1 [124]::lG b3 0::dw b2 s::y9 b4 rr::zV b5::T).Perm (dw b2 s::y9 b4 rr::zV b5::dw b0 s'::dw b1 [124]::lG b3 0::T):=λs' rr T=>
  (List.perm_append_comm (l₁:=[dw b0 s',dw b1 [124],lG b3 0]) (l₂:=[dw b2 s,y9 b4 rr,zV b5])).append_right T
 refine jR (jQ (hperm _ _ _) (Bp run λ_ _ h=>h)) ?_;rintro res H' ⟨rfl,s',⟨y,hI,rfl⟩|⟨T,rfl⟩⟩
 ·refine⟨_,hperm _ _ _,.tuple [],7,.ready,none,rfl,rfl,(λh=>by cases h),?_⟩;rw[D7 λj hj=>hI j hj (by omega)];show gk prog _ _ _ _ _ _;refine bW (C:=withD C (nU D::C.D)) hC hGL (az ?_);rw[show(withD C (nU D::C.D)).D=[nU D] from(by show nU D::C.D=_;rw[hD])];refine A5 (i:=6) rfl (A4 ?_);exact cx
 ·refine⟨_,hperm _ _ _,.tuple [],7,.done,some .ret,rfl,rfl,(λh=>by cases h),?_⟩;show SP _ _ _ _ _ (nU D::C.D) _ _ _;rw[hD];refine A5 (i:=6) rfl (A4 ?_);exact cx
theorem nr {G:Glo}(hS:rI G)(v:Int)(s:List UInt8)(hl:s.length<=2000000):aj prog G 47 [.str s,.int .i64 v] (.tuple [(ci v s).A,(dR v).A]):=by
 by_cases hv:v=3\/v=4
 ·have e1:ci v s=fO (al 97 122 (-32) s) (cO v):=by unfold ci;rw[if_pos hv]
  have e2:dR v= .none:=by unfold dR;rw[if_pos hv]
  rw[e1,e2];exact Jp hS hv s hl
 ·have e1:ci v s=Rl.z:=by unfold ci;rw[if_neg hv]
  have e2:dR v= .errno 1:=by unfold dR;rw[if_neg hv]
  rw[e1,e2];refine ao func47 call47 λC hC hGL=> ?_;refine xb ?_;repeat' first|exact .n|apply Lc.mk
  all_goals intros
  all_goals intros
  all_goals first
   |(exfalso;omega)
   |(apply ak;rfl)
end
section
theorem UR {P:Program}{C:Ctx}{n:Nat}{c:Code}{env env':Env}{H H':Heap}{Q:aQ->Env->Heap->Prop}(hto:To C n env H env' H')(h:bN P C n c env' H' Q):bN P C n c env H Q:=λR a w hm hf=>by
 obtain⟨R',hle,hm',hf'⟩:=hto R a w hm hf;exact h R' a w hm' hf'
def rlL (r:Rl):AVal:=.list 1 4 (bq [(0,.int .i64 r.t),(1,.int .i64 r.a),(2,.int .i64 r.b),(3,.int .i64 r.p)])
def JO:Option Rl->AVal
 |none=>.raw (.slice none 0 0)
 |some r=>rlL r
def ku (i:Nat):Kn:=Pp.getD i ⟨[],none,none⟩
def F7 (i:Nat):AVal:=.agg [.str (ku i).n,JO (ku i).o,JO (ku i).w]
def T1:List (Nat×AVal):=(List.range 36).map λi=>(i,F7 i)
theorem T3 {i:Nat}(h:i<36):bq T1 i=F7 i:=by
 unfold bq T1;rw[List.getElem?_map,List.getElem?_range h]
 rfl
theorem DC {R:Seal}{sz n:Nat}{f g:Nat->AVal}{u:Value}(h:∀i,i<n->f i=g i):bE R (.list sz n f) u->bE R (.list sz n g) u:=by
 rintro⟨⟨a,cap,e,hle,y⟩,h2⟩;refine⟨⟨a,cap,e,hle,?_⟩,h2⟩;rcases y with y|⟨b,o,C,el,fz,ha,hR,hi⟩
 ·exact .inl y
 ·exact .inr ⟨b,o,C,el,fz,ha,hR,λi hn=>by rw[<-h i hn];exact hi i hn⟩
def Vp (c:UInt8):Bool:=decide ((65<=c.toNat/\c.toNat<=90)\/c.toNat=45)
theorem T0:(Pp.all λk=>k.n.all Vp)=true:=by decide+kernel
theorem Ke {c d:UInt8}(hc:Vp c=true):UInt8.ofNat (dK 65 90 32 c.toNat).toNat=UInt8.ofNat (dK 65 90 32 d.toNat).toNat↔c=UInt8.ofNat (dK 97 122 (-32) d.toNat).toNat:=by
 have hc:(65<=c.toNat/\c.toNat<=90)\/c.toNat=45:=by simpa[Vp] using hc
 have h1:=c.toNat_lt;have h2:=d.toNat_lt;rw[<-UInt8.toNat_inj,<-UInt8.toNat_inj,UInt8.toNat_ofNat',UInt8.toNat_ofNat',UInt8.toNat_ofNat'];unfold dK
 (repeat' split)<;>omega
theorem zN:∀{n s:List UInt8},n.all Vp=true->(al 65 90 32 n=al 65 90 32 s↔n=al 97 122 (-32) s)
 |[],[],_=>by simp[al]
 |[],d::s,_=>by simp[al]
 |c::n,[],_=>by simp[al]
 |c::n,d::s,h=>by
  rw[List.all_cons,Bool.and_eq_true] at h;have ih:=zN (n:=n) (s:=s) h.2;have hb:=Ke (d:=d) h.1;unfold al at ih ⊢;simp only[List.map_cons,List.cons.injEq];rw[ih,hb]
theorem QV (i:Nat):(ku i).n.all Vp=true:=by
 unfold ku;by_cases h:i<Pp.length
 ·rw[List.getD_eq_getElem?_getD,List.getElem?_eq_getElem h];exact List.all_eq_true.1 T0 _ (List.getElem_mem h)
 ·rw[List.getD_eq_getElem?_getD,List.getElem?_eq_none (by omega)];rfl
theorem zS {v:Int}{up:List UInt8}{r:Rl}:∀{l:List Kn} {k:Nat} (hk:k<l.length),(∀j (hj:j<l.length),j<k->(l[j].of v=none\/l[j].n≠up))->l[k].of v=some r->l[k].n=up->fO up (l.filterMap λk=>(k.of v).map λr=>(k.n,r))=r
 |x::t,0,hk,_,h1,h2=>by
  have h1:x.of v=some r:=h1;have h2:x.n=up:=h2;simp only[List.filterMap_cons,h1,Option.map_some,fO,if_pos h2]
 |x::t,k+1,hk,h0,h1,h2=>by
  have ih:=zS (l:=t) (k:=k) (by simpa using hk) (λj hj hjk=>by
   have:=h0 (j+1) (by simpa using hj) (by omega);simpa using this) (by simpa using h1) (by simpa using h2)
  have h3:x.of v=none\/x.n≠up:=h0 0 (by simp) (Nat.succ_pos k);cases hx:x.of v with
  |none=>simp only[List.filterMap_cons,hx,Option.map_none,ih]
  |some r'=>
   rw[hx] at h3;have h3:x.n≠up:=by rcases h3 with h|h;cases h;exact h
   simp only[List.filterMap_cons,hx,Option.map_some,fO,if_neg h3,ih]
theorem D9 {v:Int}{up:List UInt8}:∀{l:List Kn},(∀j (hj:j<l.length),(l[j].of v=none\/l[j].n≠up))->fO up (l.filterMap λk=>(k.of v).map λr=>(k.n,r))=⟨8,0,0,0⟩
 |[],_=>rfl
 |x::t,h0=>by
  have ih:=D9 (v:=v) (up:=up) (l:=t) (λj hj=>by
   have:=h0 (j+1) (by simpa using hj);simpa using this)
  have h3:x.of v=none\/x.n≠up:=h0 0 (by simp);cases hx:x.of v with
  |none=>simp only[List.filterMap_cons,hx,Option.map_none,ih]
  |some r'=>
   rw[hx] at h3;have h3:x.n≠up:=by rcases h3 with h|h;cases h;exact h
   simp only[List.filterMap_cons,hx,Option.map_some,fO,if_neg h3,ih]
theorem qO {i:Nat}(h:i<Pp.length):ku i=Pp[i]:=by
 unfold ku;rw[List.getD_eq_getElem?_getD,List.getElem?_eq_getElem h];rfl
theorem kY:Pp.length=36:=rfl
attribute [local irreducible] bN aw aa aC bg ab ae
theorem FH {G:Glo}:aj prog G 60 [] (.list 3 36 (bq T1)):=by
 refine ao func60 call60 λC hC hGL=> ?_;exact ba
theorem zd {G:Glo}:aj prog G 60 [] (.list 3 36 F7):=
 dC FH λr H h=>by
  obtain⟨rfl,rfl⟩:=h;rintro C R w e hm ⟨x,rfl,hx⟩;exact⟨R,hm,x,rfl,DC (λi h=>T3 h) hx⟩
theorem gY {G:Glo}(s t:List UInt8)(hl:s.length<=9223372036854775807)(hm:t.length<=9223372036854775807):aj prog G 36 [.str s,.str t] (.bool (aS (al 65 90 32 s) (al 65 90 32 t))):=by
 have h1:=sg (G:=G) s hl;have h2:=sg (G:=G) t hm;refine ao func36 call36 λC hC hGL=> ?_;exact ba
end
section
theorem kq {R:Seal}{sz n:Nat}{f g:Nat->AVal}{u:Value}(h:∀i,i<n->f i=g i):bh R (.list sz n f) [u]->bh R (.list sz n g) [u]:=by
 rintro⟨a,cap,e,hle,y⟩;refine⟨a,cap,e,hle,?_⟩;rcases y with y|⟨b,o,C,el,fz,ha,hR,hi⟩
 ·exact .inl y
 ·exact .inr ⟨b,o,C,el,fz,ha,hR,λi hn=>by rw[<-h i hn];exact hi i hn⟩
theorem JU {R:Seal}{sz n:Nat}{f g:Nat->AVal}{u:Value}(h:∀i,i<n->∀vs,bh R (f i) vs->bh R (g i) vs):bh R (.list sz n f) [u]->bh R (.list sz n g) [u]:=by
 rintro⟨a,cap,e,hle,y⟩;refine⟨a,cap,e,hle,?_⟩;rcases y with y|⟨b,o,C,el,fz,ha,hR,hi⟩
 ·exact .inl y
 ·exact .inr ⟨b,o,C,el,fz,ha,hR,λi hn=>h i hn _ (hi i hn)⟩
theorem Jx {R:Seal}{sz n:Nat}{f g:Nat->AVal}(h:∀i,i<n->∀vs,bh R (f i) vs->bh R (g i) vs){k:Nat}:∀{l:List AVal} {vs:List Value},l[k]? =some (.list sz n f)->dv R l vs->dv R (l.set k (.list sz n g)) vs:=by
 induction k with
 |zero=>
  intro l vs hk ha;cases l with
  |nil=>cases hk
  |cons a l=>
   simp only[List.getElem?_cons_zero,Option.some.injEq] at hk;subst hk;obtain⟨u,us,rfl,hu,k⟩:=ha;have r:=pG (JU h (bA (show bE R _ u from hu) rfl)) rfl (by have:=hu.2;exact this.symm);exact⟨u,us,rfl,⟨r.1,r.2⟩,k⟩
 |succ k ih=>
  intro l vs hk ha;cases l with
  |nil=>cases hk
  |cons a l=>
   obtain⟨u,us,rfl,hu,k⟩:=ha;exact⟨u,us,rfl,hu,ih hk k⟩
theorem PK {C:Ctx}{n:Nat}{e:Env}{h h':Heap}(hp:h.Perm h'):To C n e h e h':=λR _ _ hm hf=>⟨R,Seal.le_refl R,hm.perm hp,hf⟩
structure Xd {X:Type} (C:Ctx) (n:Nat) (I:X->Env) (J:X->Heap) (Inv:X->Prop) (e:Env) (h:Heap):Prop where
 h:∃x,Inv x/\To C n e h (I x) (J x)
section
variable {P:Program} [Tab P] {C:Ctx} {n:Nat} {env:Env} {H:Heap} {Q:aQ->Env->Heap->Prop}
omit [Tab P] in
theorem BY {X:Type}{I:X->Env}{J:X->Heap}{Inv:X->Prop}{e:Env}{h:Heap}(x:X)(hp:Inv x)(ht:To C n e h (I x) (J x)):Xd C n I J Inv e h:=⟨⟨x,hp,ht⟩⟩
theorem yF {a b:Code}{X:Type}(I:X->Env)(J:X->Heap)(Inv:X->Prop)(h1:bN P C n a env H (gG (λe h=>Xd C n I J Inv e h) Q))(h2:∀x,Inv x->bN P C n b (I x) (J x) Q):bN P C n (.seq a b) env H Q:=
 fY (h1.mono λx e h q=>by
  cases x with
  |normal=>
   obtain⟨y,hy,ht⟩:=Xd.h q;exact Ag ht (h2 y hy)
  |exit i=>exact q
  |goto i=>exact q
  |ret=>exact q
  |panic v=>exact q)
variable {G:Glo} {GL:List (Nat×List AVal)}
theorem lpA {c:Code}{X:Type}(_:C.G=G)(_:ab G GL)(I:X->Env)(J:X->Heap)(Inv:X->Prop)(μ:X->Nat)(x0:X)(h0:Inv x0)(hs:Env.sub env (I x0))(hH:H=J x0)
  (round:∀x,Inv x->bN P C n c (I x) (J x) (gG (λe h=>Ve I J Inv μ x e h) Q)):Lp P C n c env H Q:=
 ⟨nX I J Inv μ x0 h0 hs (hH▸List.Sublist.refl _) λx hx=>(round x hx).mono λex e h q=>by
  cases ex with
  |normal=>exact Ve.h q
  |exit i=>exact q
  |goto i=>exact q
  |ret=>exact q
  |panic v=>exact q⟩
end
section
variable {P:Program} [Tab P] {C:Ctx} {H:Heap} {env:Env}
theorem iH {sz m:Nat}{f:Nat->AVal}{x:Operand}{T ty e:TypeId}{xT:TI}(hx:ai env x=some (.list sz (m+1) f))(h1:bC P T=some xT)(h2:xT.desc= .slice e):bD P C H env (.binOp .neq T x (.const (.slice none 0 0)) ty) (.bool true):=by
 intro R ρ w hm hf dst t p af g;refine⟨_,?_,aW.2 rfl⟩;obtain⟨a,cap,e1,_,y⟩:=bA (hf _ _ hx) rfl;have e1:ρ x= .slice a (m+1) cap:=(List.cons.inj e1).1;obtain⟨b,o,C0,el,fz,rfl,_⟩:=y.resolve_left (Nat.succ_ne_zero m);have hc:ρ (.const (.slice none 0 0))= .slice none 0 0:=ar.1 (hf (.const (.slice none 0 0)) _ (eP env (.slice none 0 0)));obtain⟨h3,h4,h5⟩:=oH (R:=R) (x:=x) (w:=w) (av:=.raw (ρ x)) (c:=false) (z:=.slice none 0 0) (ar.2 rfl) h1 (by rw[h2,e1];rfl) (by rw[h2];rfl);have h6:=h5 .neq (.inr rfl);rw[if_neg (by decide)] at h6
 simp only[execOp,hc,Sem.run_bind,h4,Result.andThen_ok,h6,h3,Sem.run_pure,Bool.not_false]
end
end
end Go.Proofs.YtpgdnpielhfpgaaGreatDoor
