/- Parts of the proof of streamCards_card. -/
import Derived.RangeFuncRecord
import Derived.RangeFuncSeq
import Derived.OrdersIn
import Derived.LoopNIn
import Derived.Lib.Fields
import Derived.Lib.ItoaNum
import Derived.Lib.Split
import Derived.Lib.LaidTab
import Derived.Test.YtgpjhbhdbjdlgaaGreatDoorBag
set_option linter.unusedVariables false
set_option linter.unusedSimpArgs false
set_option linter.unusedSectionVars false
namespace Go.Proofs.YtgpjhbhdbjdlgaaGreatDoor
open Go Go.RowKit
open Tryz
set_option maxRecDepth 20000
set_option maxHeartbeats 4000000
section
def Fo (rd:Option Nat):Fence:={fn:=λ_=>True,depth:=none,alive:=false,round:=rd}
theorem RG {P:Program}{f:FuncId}{args:Array Value}{w:World}{R:Ending->World->Prop}(rd:Option Nat)(m:Nat)(h:Calls P f args w R):CallsIn (Fo rd) m P f args w R:=(callsIn_wide (n:=m)).2 h
theorem Tf {P:Program}{row:String}{args:Array Value}{w:World}{R:Value->World->Prop}(rd:Option Nat)(m:Nat)(h:Rows P row args w R):RowsIn (Fo rd) m P row args w R:=
 λc cs _=>let ⟨v,w',r,s⟩:=h c cs;⟨v,w',r,stepsIn_wide.2 s⟩
theorem sh {C:Ctx}{n:Nat}{Q:aL->Env->Heap->Prop}:¬LetsOut (mg C n Q):=by
 rintro⟨a,w,x,env,H,R,q,er,_⟩;cases x with
 |normal=>cases er
 |exit i=>cases er
 |goto i=>cases er
 |ret=>cases er
 |panic v=>obtain⟨y,e,_⟩:=er;cases e
def gk (l:List Oper):Bool:=l.all λo=>match o.op with
 |.defer _=>false
 |_=>true
theorem uM {l:List Oper}(h:gk l=true){o:Oper}(ho:o∈l):∀c,o.op≠ .defer c:=by
 intro c e;have:=List.all_eq_true.1 h o ho;rw[e] at this;cases this
theorem OZ {rd:Option Nat}{ρ:Operand->Value}{o:Oper}(hd:∀c,o.op≠ .defer c):Oper.semAt rd ρ o=execOp ρ o:=by
 cases rd with
 |none=>exact Oper.semAt_none ρ o
 |some l=>exact Oper.semAt_some l ρ o hd
section
variable {P:Program} {rd:Option Nat} {m:Nat} {ops:Array Oper} {Q0 Q:Exit->Act->World->Prop}
theorem JV {o:Oper}{a:Act}{K K':Act->World->Prop}{r:Result Next}(hk:∀a w,K a w->K' a w)(hp:∀c a w,Q0 (.panic c) a w->Q (.panic c) a w)(ho:¬LetsOut Q0)(h:o.upon P a K Q0 r):o.uponIn (Fo rd) m P a K' Q r:=by
 cases r with
 |ok x w'=>
  cases x<;>simp only[Oper.upon,Oper.uponIn] at h ⊢ <;>first
   |exact hk _ _ h
   |exact⟨λe=>(by cases e),(RG rd _ h).mono λe w'' he=>by cases e<;>first|exact hk _ _ he|exact hp _ _ _ he|exact absurd he ho⟩
   |exact⟨λe=>(by cases e),(Tf rd _ h).mono λ_ _ he=>hk _ _ he⟩
   |exact h.elim
 |halt x w'=>cases x<;>simp only[Oper.upon,Oper.uponIn] at h ⊢ <;>exact hp _ _ _ h
theorem mW {l:List Oper}(hn:∀a w,Q0 .normal a w->wpListIn (Fo rd) m P ops Q l a w)(hp:∀c a w,Q0 (.panic c) a w->Q (.panic c) a w)(ho:¬LetsOut Q0):
  ∀{pre:List Oper} {a:Act} {w:World},gk pre=true->wpList P ops Q0 pre a w->wpListIn (Fo rd) m P ops Q (pre++l) a w
 |[],a,w,_,h=>hn a w h
 |o::rest,a,w,hd,h=>by
  have h1:=uM hd (z_ ..);have h2:gk rest=true:=by
   unfold gk at hd ⊢;rw[List.all_cons,l_] at hd;exact hd.2
  simp only[wpList,Lu,wpListIn] at h ⊢;split
  ·rename_i hw;rw[if_pos hw] at h;rcases h with h|⟨_,h⟩
   ·refine⟨λ_ _=>trivial,?_⟩;rw[show(Fo rd).round=rd from rfl,OZ h1];exact JV (λa w h=>mW hn hp ho h2 h) hp ho h
   ·exact absurd h ho
  ·rename_i hw;rw[if_neg hw] at h;exact⟨λ_ _=>trivial,mW hn hp ho h2 h⟩
theorem So {i:Nat}{a:Act}{w:World}{K K':Act->World->Prop}(hd:gk ops.toList=true)(hk:∀a w,K a w->K' a w)(ho:¬LetsOut Q)(h:wpOp P ops Q i K a w):wpOpIn (Fo rd) m P ops Q i K' a w:=by
 unfold wpOp at h;unfold wpOpIn;cases hi:ops[i]? with
 |none=>rw[hi] at h;exact hk _ _ h
 |some o=>
  rw[hi] at h;have h1:=uM hd (q_ (i:=i) (by rw[Array.getElem?_toList];exact hi));dsimp only at h ⊢;split
  ·rename_i hw;rw[if_pos hw] at h;rcases h with h|⟨_,h⟩
   ·refine⟨λ_ _=>trivial,?_⟩;rw[show(Fo rd).round=rd from rfl,OZ h1];exact JV hk (λ_ _ _ q=>q) ho h
   ·exact absurd h ho
  ·rename_i hw;rw[if_neg hw] at h;exact⟨λ_ _=>trivial,hk _ _ h⟩
theorem DV {md:Region.Mode}(hd:gk ops.toList=true)(ho:¬LetsOut Q):∀(fuel:Nat) (listed:Array Bool) (a:Act) (w:World),wpAny P md ops Q fuel listed a w->wpAnyIn (Fo rd) m P md ops Q fuel listed a w
 |0,_,_,_,h=>h
 |fuel+1,_,_,_,h=>⟨h.1,λi hi=>So hd (λa w q=>DV hd ho fuel _ a w q) ho (h.2 i hi)⟩
end
def jG (rd:Option Nat)(P:Program)(C:Ctx)(n:Nat)(c:Code)(env:Env)(H:Heap)(Q:aL->Env->Heap->Prop):Prop:=
 ∀R a w,MS C R H w->FS C.D n R env a->c.wpIn (Fo rd) 0 P (mg C n Q) a w
section
variable {rd:Option Nat} {P:Program} {C:Ctx} {n:Nat} {env:Env} {H:Heap} {Q:aL->Env->Heap->Prop} {G:Glo} {GL:List (Nat×List AVal)}
theorem jG.mono {c:Code}{Q':aL->Env->Heap->Prop}(h:jG rd P C n c env H Q)(hq:∀x e h,Q x e h->Q' x e h):jG rd P C n c env H Q':=
 λR a w hm hf=>Go.wpIn_mono (h R a w hm hf) λ_ _ _ ⟨x,en,H',R',q,r⟩=>⟨x,en,H',R',hq _ _ _ q,r⟩
theorem wg {x y:Code}(h:jG rd P C n x env H (iT (λe h=>jG rd P C n y e h Q) Q)):jG rd P C n (.seq x y) env H Q:=by
 intro R a w hm hf;refine wpIn_seq (Go.wpIn_mono (h R a w hm hf) ?_);rintro e a' w' ⟨x',en,H',R',q,er,hm',hf'⟩;cases x' with
 |normal=>simp only[aG] at er;subst er;exact q R' a' w' hm' hf'
 |exit i=>simp only[aG] at er;subst er;exact⟨.exit i,en,H',R',q,rfl,hm',hf'⟩
 |goto i=>simp only[aG] at er;subst er;exact⟨.goto i,en,H',R',q,rfl,hm',hf'⟩
 |ret=>simp only[aG] at er;subst er;exact⟨.ret,en,H',R',q,rfl,hm',hf'⟩
 |panic v=>obtain⟨y,rfl,hr⟩:=er;exact⟨.panic v,en,H',R',q,⟨y,rfl,hr⟩,hm',hf'⟩
theorem GX {c:Operand}{x y:Code}{b:Bool}(hc:ah env c=some (.bool b))(ht:b=true->jG rd P C n x env H Q)(hf:b=false->jG rd P C n y env H Q):jG rd P C n (.cond c x y) env H Q:=by
 intro R a w hm hfr;exact wpIn_cond_split (aO.1 (hfr.eval hc)) (λe=>ht e R a w hm hfr) (λe=>hf e R a w hm hfr)
theorem ux {id:Nat}{c:Code}(h:jG rd P C n c env H (Dx id Q)):jG rd P C n (.block id c) env H Q:=by
 intro R a w hm hf;refine wpIn_block (Go.wpIn_mono (h R a w hm hf) ?_);rintro e a' w' ⟨x',en,H',R',q,er,hm',hf'⟩;cases x' with
 |normal=>simp only[aG] at er;subst er;exact⟨.normal,en,H',R',q,rfl,hm',hf'⟩
 |exit i=>
  simp only[aG] at er;subst er;simp only[Exit.inBlock];by_cases e:i=id
  ·rw[if_pos e];exact⟨.normal,en,H',R',q.1 e,rfl,hm',hf'⟩
  ·rw[if_neg e];exact⟨.exit i,en,H',R',q.2 e,rfl,hm',hf'⟩
 |goto i=>simp only[aG] at er;subst er;exact⟨.goto i,en,H',R',q,rfl,hm',hf'⟩
 |ret=>simp only[aG] at er;subst er;exact⟨.ret,en,H',R',q,rfl,hm',hf'⟩
 |panic v=>obtain⟨y,rfl,hr⟩:=er;exact⟨.panic v,en,H',R',q,⟨y,rfl,hr⟩,hm',hf'⟩
theorem JJ {id:Nat}{l:List Oper}(hd:gk l=true)(h:au P C n l.toArray l env H Q):jG rd P C n (.region id l.toArray false) env H Q:=by
 intro R a w hm hf;refine wpIn_region_lit ?_;have:=mW (rd:=rd) (m:=0) (l:=[]) (Q:=mg C n Q) (λa w q=>wpListIn_nil q) (λ_ _ _ q=>q) sh hd (h R a w hm hf);rwa [Dc] at this
theorem RR {id:Nat}{l:List Oper}(hm:P.follows .mixedOrders=true)(hB:Region.lexB .any l.toArray=true)(hd:gk l=true)(h:AQ P C n l.toArray l env H (λe=>Q .normal e H)):
  jG rd P C n (.region id l.toArray true) env H Q:=by
 intro R a w hw hf;refine wpIn_region_any hm (DV (by simpa using hd) sh _ _ _ _ ?_);have h1:=h R a hf;have h2:∀(l':List Oper) (a:Act),wpQuiet P l.toArray (CW C R H) (λa'=>∃env',Q .normal env' H/\FS C.D n R env' a') l' a->
   wpQuiet P l.toArray (CW C R H) (λa'=>∀w',CW C R H w'->mg C n Q .normal a' w') l' a:=by
  intro l';induction l' with
  |nil=>rintro a ⟨env',hq,hfs⟩ w' ⟨R',hle,hms⟩;exact⟨.normal,env',H,R',hq,rfl,hms,hfs.mono hle⟩
  |cons o r ih=>
   intro a h;have h':=h;unfold wpQuiet at h';refine wpQuiet_step λX hX=> ?_;split
   ·rename_i hw;rw[if_pos hw] at h';exact Oper.quiet_mono (λa' q=>hX _ (ih a' q)) h'
   ·rename_i hw;rw[if_neg hw] at h';exact hX _ (ih _ h')
 simp only[Region.lexB,l_] at hB;refine wpAny_of_quiet (C:=CW C R H) (Q:=λa'=>∀w',CW C R H w'->mg C n Q .normal a' w') (λ_ w' hw' h=>h w' hw') _ _ _ _ ⟨R,Seal.le_refl R,hw.drawn _⟩ ?_;have:=wpAnyQ_lex (C:=CW C R H) (md:=.any) hB.1 l.toArray.toList 0 (Array.replicate l.toArray.size false) a (by simp) (by simpa using hB.2) (h2 _ _ (by simpa using h1));simpa using this
def wj (rd:Option Nat)(P:Program)(C:Ctx)(n:Nat)(c:Code)(Q:aL->Env->Heap->Prop):Nat->Env->Heap->Prop
 |0,_,_=>False
 |k+1,e,h=>jG rd P C n c e h (iT (wj rd P C n c Q k) Q)
theorem JI {c:Code}(k:Nat)(h:wj rd P C n c Q k env H):jG rd P C n (.loop c) env H Q:=by
 intro R a w hm hf;refine wpIn_loop_rounds k ?_;induction k generalizing env H R a w with
 |zero=>exact h.elim
 |succ k ih=>
  rw[roundsIn_succ];refine Go.wpIn_mono (h R a w hm hf) ?_;rintro e a' w' ⟨x',en,H',R',q,er,hm',hf'⟩;cases x' with
  |normal=>simp only[aG] at er;subst er;exact ih q R' a' w' hm' hf'
  |exit i=>simp only[aG] at er;subst er;exact⟨.exit i,en,H',R',q,rfl,hm',hf'⟩
  |goto i=>simp only[aG] at er;subst er;exact⟨.goto i,en,H',R',q,rfl,hm',hf'⟩
  |ret=>simp only[aG] at er;subst er;exact⟨.ret,en,H',R',q,rfl,hm',hf'⟩
  |panic v=>obtain⟨y,rfl,hr⟩:=er;exact⟨.panic v,en,H',R',q,⟨y,rfl,hr⟩,hm',hf'⟩
theorem UI {c:Code}{env':Env}(hs:Env.sub env env')(h:jG rd P C n c env' H Q):jG rd P C n c env H Q:=λR a w hm hf=>h R a w hm (hf.sub hs)
noncomputable def y4 (P:Program)[Tab P](C:Ctx)(n:Nat)(G:Glo)(GL:List (Nat×List AVal))(c:Code):Env->Heap->(aL->Env->Heap->Prop)->Prop:=
 Code.rec (motive:=λ_=>Env->Heap->(aL->Env->Heap->Prop)->Prop)
  (λenv H Q=>Q .normal env H)
  (λ_ ops d env H Q=>match d with
   |false=>match gk ops.toList with
    |true=>mN P C n G GL ops Q ops.toList env H
    |false=>False
   |true=>False)
  (λ_ _ iha ihb env H Q=>iha env H (iT (λe h=>ihb e h Q) Q))
  (λc _ _ ihx ihy env H Q=>match ah env c with
   |some (.bool b)=>Sc b (ihx env H Q) (ihy env H Q)
   |_=>False)
  (λid _ ih env H Q=>ih env H (Dv id Q))
  (λ_ _ _ _ _=>False)
  (λ_ _ _ _ _ _ _ _ _=>False)
  (λid env H Q=>Q (.exit id) env H)
  (λ_ _ _ _ _=>False)
  (λ_ _ _ _=>False)
  (λ_ _ _ _=>False)
  (λenv H Q=>Q .ret env H)
  (λ_ _ _ _=>False) c
theorem mb [Tab P](hC:C.G=G)(hGL:ab G GL):∀(c:Code) (env:Env) (H:Heap) (Q:aL->Env->Heap->Prop),y4 P C n G GL c env H Q->jG rd P C n c env H Q
 |.skip,_,_,_,h=>λR _ _ hm hf=>wpIn_skip ⟨.normal,_,_,R,h,rfl,hm,hf⟩
 |.region id ops dr,env,H,Q,h=>by
  cases dr with
  |false=>
   replace h:(match gk ops.toList with
    |true=>mN P C n G GL ops Q ops.toList env H
    |false=>False):=h
   cases hd:gk ops.toList with
   |false=>rw[hd] at h;exact h.elim
   |true=>
    rw[hd] at h;have e:=dE (a:=ops) rfl;have:=JJ (rd:=rd) (id:=id) hd (by rw[<-e];exact fm hC hGL _ _ _ h);rwa [<-e] at this
  |true=>exact False.elim h
 |.seq a b,env,H,Q,h=>by
  replace h:y4 P C n G GL a env H (iT (λe h=>y4 P C n G GL b e h Q) Q):=h;refine wg ((mb hC hGL a env H _ h).mono ?_);intro x e h' q;cases x with
  |normal=>exact mb hC hGL b e h' Q q
  |exit i=>exact q
  |goto i=>exact q
  |ret=>exact q
  |panic v=>exact q
 |.cond c x y,env,H,Q,h=>by
  replace h:(match ah env c with
   |some (.bool b)=>Sc b (y4 P C n G GL x env H Q) (y4 P C n G GL y env H Q)
   |_=>False):=h
  split at h
  ·rename_i b hb;exact GX hb (λe=>mb hC hGL x env H Q (h.1 e)) (λe=>mb hC hGL y env H Q (h.2 e))
  ·exact h.elim
 |.block id c,env,H,Q,h=>ux ((mb hC hGL c env H _ h).mono λ_ _ _ q=>BI q)
 |.exit id,_,_,_,h=>λR _ _ hm hf=>wpIn_exit ⟨.exit id,_,_,R,h,rfl,hm,hf⟩
 |.ret,_,_,_,h=>λR _ _ hm hf=>wpIn_ret ⟨.ret,_,_,R,h,rfl,hm,hf⟩
 |.loop c,_,_,_,h=>False.elim h
 |.rangeFunc ..,_,_,_,h=>False.elim h
 |.scope _,_,_,_,h=>False.elim h
 |.label _,_,_,_,h=>False.elim h
 |.goto _,_,_,_,h=>False.elim h
 |.refuse _,_,_,_,h=>False.elim h
theorem DB [Tab P]{a b:Code}{X:Type}(hC:C.G=G)(hGL:ab G GL)(I:X->Env)(J:X->Heap)(Inv:X->Prop)(h1:y4 P C n G GL a env H (iT (λe h=>Cy I J Inv e h) Q))(h2:∀x,Inv x->jG rd P C n b (I x) (J x) Q):jG rd P C n (.seq a b) env H Q:=
 wg ((mb hC hGL _ _ _ _ h1).mono λx e h q=>by
  cases x with
  |normal=>
   obtain⟨y,hy,hs,rfl⟩:=q.h;exact UI hs (h2 y hy)
  |exit i=>exact q
  |goto i=>exact q
  |ret=>exact q
  |panic v=>exact q)
theorem io [Tab P]{c:Code}(hC:C.G=G)(hGL:ab G GL)(h:y4 P C n G GL c env H Q):jG rd P C n c env H Q:=mb hC hGL _ _ _ _ h
theorem UJ [Tab P]{id:Nat}{ops:Array Oper}(hm:P.follows .mixedOrders=true)(hC:C.G=G)(hGL:ab G GL)(hB:(Region.lexB .any ops&&gk ops.toList)=true)(h:Yd P C n G GL H ops (λe=>Q .normal e H) ops.toList env):jG rd P C n (.region id ops true) env H Q:=by
 rw[l_] at hB;have e:=dE (a:=ops) rfl;have:=RR (rd:=rd) (P:=P) (C:=C) (n:=n) (env:=env) (H:=H) (Q:=Q) (id:=id) (l:=ops.toList) hm (by rw[<-e];exact hB.1) hB.2 (by rw[<-e];exact Pp hC hGL _ _ h);rwa [<-e] at this
theorem ZK [Tab P]{c:Code}{k:Nat}(h:jG rd P C n c env H (iT (wj rd P C n c Q k) Q)):wj rd P C n c Q (k+1) env H:=h
end
def ov (P:Program)(G:Glo)(L:Nat)(avs:List AVal)(H:Heap)(Qf:Bool->Heap->Prop):Prop:=
 ∀R w args (hG:G.p R),MS ⟨w,R,eR H,G,hG,[]⟩ R H w->dy R avs args.toList->
  YieldAt Fence.wide 0 P L args w λe w'=>∃b H' R',Qf b H'/\e= .returned (.bool b)/\MS ⟨w,R,eR H,G,hG,[]⟩ R' H' w'
def Mz (r:Loop)(st:LoopState)(pe:Option Code):Loop:={r with state:=st,pending:=pe}
abbrev jT (D:Nat):HEnt:=.obj D (.deferred (some []))
abbrev gy (L:Nat)(r:Loop)(st:LoopState)(pe:Option Code):HEnt:=.obj L (.loop (Mz r st pe))
theorem o6 {C:Ctx}{R:Seal}{H:Heap}{w:World}{i L:Nat}{o:Obj}(h:MS C R H w)(hi:H[i]? =some (.obj L o)):w.heap[L]? =some o:=h.heap.holds _ (q_ hi)
theorem lC {C:Ctx}{R:Seal}{H:Heap}{w:World}{i L:Nat}{o:Obj}(o':Obj)(h:MS C R H w)(hi:H[i]? =some (.obj L o)):MS C R (H.set i (.obj L o')) (w.putObj L o'):=by
 have hl:=qf (o6 h hi);exact h.write hi rfl ⟨rfl,rfl,rfl,World.putObj_size,World.putObj_heap_same hl,λb hb=>World.putObj_heap_other hb⟩ rfl (World.putObj_heap_same hl)
def RdQ (L:Nat)(r:Loop)(Qf:Bool->Heap->Prop):aL->Env->Heap->Prop
 |.normal,_,h=>∃j,h[j]? =some (gy L r .busy none)/\Qf true (h.set j (gy L r .ready none))
 |.ret,_,h=>∃j,h[j]? =some (gy L r .busy none)/\Qf false (h.set j (gy L r .done (some .ret)))
 |.exit i,_,h=>∃j,h[j]? =some (gy L r .busy none)/\Qf false (h.set j (gy L r .done (some (.exit i))))
 |_,_,_=>False
section
variable {P:Program} {n:Nat} {env:Env} {H:Heap} {G:Glo} {GL:List (Nat×List AVal)}
theorem NZ {L p i:Nat}{av:AVal}{r:Loop}{Qf:Bool->Heap->Prop}(hi:H[i]? =some (gy L r .ready none))(hps:r.params=#[p])(hp:Nat.ble (p+1) n=true)
  (hfs:∀R,FS [] n R env {tmps:=r.tmps,defers:=[]})
  (ha:∀C:Ctx,C.G=G->C.D=[]->jG (some L) P C n r.assign ((p,av)::env) H (λx e h=>x= .normal/\∃j,h[j]? =some (gy L r .ready none)/\jG (some L) P C n r.body e (h.set j (gy L r .busy none)) (RdQ L r Qf))):
  ov P G L [av] H Qf:=by
 intro R w args hG hm hargs
 obtain⟨v,t,e,hv,ht⟩:=hargs
 obtain rfl:t=[]:=ht
 have hargs':args=#[v]:=by rw[<-Array.toList_inj];exact e
 subst hargs'
 have hl:=o6 hm hi
 have hy:=run_yield (P:=P) (args:=#[v]) hl (by show 1=r.params.size;rw[hps];rfl)
 refine⟨_,_,_,_,hy,roundIn_of_wpIn trivial ?_⟩
 have h1:=ha ⟨w,R,eR H,G,hG,[]⟩ rfl rfl R _ w hm ((hfs R).put hp ⟨hv.1,hv.2⟩)
 have e1:((Mz r .ready none).params.zip #[v]).foldl (λtmps (t,a)=>tmps.setIfInBounds t a) (Mz r .ready none).tmps=r.tmps.setIfInBounds p v:=by
  show(r.params.zip #[v]).foldl (λtmps (t,a)=>tmps.setIfInBounds t a) r.tmps=_
  rw[hps]
  simp
 rw[e1]
 refine Go.wpIn_mono h1 ?_
 rintro ex a' w' ⟨x,en,H',R',⟨rfl,j,hj,hb⟩,er,hm',hf'⟩
 obtain rfl:ex= .normal:=er
 refine⟨_,run_beginRound (o6 hm' hj) rfl,?_⟩
 refine Go.wpIn_mono (hb R' a' _ (lC _ hm' hj) hf') ?_
 rintro ex a2 w2 ⟨x,en2,H2,R2,q,er,hm2,hf2⟩
 cases x with
 |normal=>
  obtain rfl:ex= .normal:=er
  obtain⟨k,hk,q⟩:=q
  exact⟨_,_,run_endRound none (o6 hm2 hk),true,_,R2,q,rfl,lC _ hm2 hk⟩
 |ret=>
  obtain rfl:ex= .ret:=er
  obtain⟨k,hk,q⟩:=q
  exact⟨_,_,run_endRound (some .ret) (o6 hm2 hk),false,_,R2,q,rfl,lC _ hm2 hk⟩
 |exit id=>
  obtain rfl:ex= .exit id:=er
  obtain⟨k,hk,q⟩:=q
  exact⟨_,_,run_endRound (some (.exit id)) (o6 hm2 hk),false,_,R2,q,rfl,lC _ hm2 hk⟩
 |goto i=>exact q.elim
 |panic v=>exact q.elim
structure VM (P:Program) (G:Glo) (fv:Option AVal) (avs:Option (List AVal)) (H:Heap) (K:Bool->Heap->Prop):Prop where
 h:∃L vs,fv=some (.func (.yield L) [] [])/\avs=some vs/\ov P G L vs H K
def yQ (P:Program)[Tab P](C:Ctx)(n:Nat)(G:Glo)(GL:List (Nat×List AVal))(ops:Array Oper)(d:Nat)(fv:Operand)(args:Array Operand)(post:List Oper)(Q:aL->Env->Heap->Prop):aL->Env->Heap->Prop
 |.normal,e,h=>VM P G (ah e fv) (kH e args.toList) h λb h'=>mN P C n G GL ops Q post ((d,.bool b)::e) h'
 |x,e,h=>Q x e h
theorem GZ [Tab P]{C:Ctx}{Q:aL->Env->Heap->Prop}{id d:Nat}{ops:Array Oper}{fv:Operand}{args:Array Operand}{ts:Array TypeId}{t:TypeId}{ps:String}{af:Array Edge}(k:Nat)(hC:C.G=G)(hGL:ab G GL)
  (hk:ops.toList[k]? =some {dst:=some d,op:=.call {callee:=.value fv,args:=args,argTypes:=ts},type:=t,pos:=ps,after:=af,guard:=none}) (hdn:Nat.ble (d+1) n=true) (hnd:gk ops.toList=true)
  (h:mN P C n G GL ops (yQ P C n G GL ops d fv args (ops.toList.drop (k+1)) Q) (ops.toList.take k) env H):bJ P C n (.region id ops false) env H Q:=by
 intro R a w hm hf;have hlt:k<ops.toList.length:=(List.getElem?_eq_some_iff.1 hk).1;have hsp:ops.toList=ops.toList.take k++{dst:=some d,op:=.call {callee:=.value fv,args:=args,argTypes:=ts},type:=t,pos:=ps,after:=af,guard:=none}::ops.toList.drop (k+1):=by
  have:=List.take_append_drop k ops.toList;rw[A_ hlt,(List.getElem?_eq_some_iff.1 hk).2] at this;exact this.symm
 have nd:∀{l:List Oper},l.Sublist ops.toList->gk l=true:=λhs=>List.all_eq_true.2 λo ho=>List.all_eq_true.1 hnd o (hs.subset ho);refine(wpIn_wide (n:=0)).1 (wpIn_region_list ?_);rw[hsp];refine mW (rd:=none) (m:=0) (Q0:=mg C n (yQ P C n G GL ops d fv args (ops.toList.drop (k+1)) Q)) ?_ ?_ sh (nd (List.take_sublist _ _)) (fm hC hGL _ _ _ h R a w hm hf)
 ·rintro a w ⟨x,en,H',R',q,er,hm',hf'⟩;cases x with
  |normal=>
   obtain⟨L,vs,h1,h2,hs⟩:=VM.h q;refine wpListIn_plain rfl λK hK=>⟨λ_ _=>trivial,?_⟩;obtain⟨x1,x2,e,r1,r2⟩:=bC (hf'.eval h1) rfl;simp only[o_,and_true] at e;have r1:x1.toList=[]:=r1;have r2:x2.toList=[]:=r2;have r1:x1=#[]:=by rw[<-Array.toList_inj];exact r1
   have r2:x2=#[]:=by rw[<-Array.toList_inj];exact r2
   subst r1;subst r2;subst hC;have hrel:dy R' vs (args.map a.eval).toList:=by
    have:=i6 (λx av h=>hf'.eval h) h2;simpa using this
   obtain⟨fn,tmps,asg,body,hy,hR⟩:=hs R' w _ hm'.glo (MS.enter (H2:=[]) (by simpa using hm')) hrel;have hrun:(execOp a.eval {dst:=some d,op:=.call {callee:=.value fv,args:=args,argTypes:=ts},type:=t,pos:=ps,after:=af,guard:=none:Oper}).run P w= .ok (.round L fn tmps asg body) w:=by
    rw[<-hy];simp only[execOp,resolve,e,Deferred.ofValue,e_,h_,c_,invoke,Array.empty_append,Array.append_empty]
   rw[show(Fo none).round=none from rfl,Oper.semAt_none,hrun,Oper.uponIn_round];refine⟨λe=>(by cases e),hR.mono ?_⟩;rintro e w' ⟨b,H2,R2,q2,rfl,hm2⟩;have hm3:MS C R2 H2 w':=by simpa using MS.call (H2:=[]) (by simpa using hm') hm2
   refine hK _ _ ?_;have:=mW (rd:=none) (m:=0) (l:=[]) (Q:=mg C n Q) (λa w q=>wpListIn_nil q) (λ_ _ _ q=>q) sh (nd (List.drop_sublist _ _))
    (fm rfl hGL _ _ _ q2 R2 _ w' hm3 ((hf'.mono hm2.ge).put hdn (aO.2 rfl)))
   rwa [Dc] at this
  |exit i=>cases er
  |goto i=>cases er
  |ret=>cases er
  |panic v=>obtain⟨y,e,_⟩:=er;cases e
 ·rintro c a w ⟨x,en,H',R',q,er,hm',hf'⟩;cases x with
  |normal=>cases er
  |exit i=>cases er
  |goto i=>cases er
  |ret=>cases er
  |panic v=>exact⟨.panic v,en,H',R',q,er,hm',hf'⟩
def Y9 (env:Env):Bool:=env.all λx=>x.2.det
theorem uW:∀{env:Env} {k:Nat} {v:AVal},Env.get env k=some v->(k,v)∈env
 |(j,x)::t,k,v,h=>by
  simp only[Env.get] at h;split at h
  ·rename_i hb;have:=m_ hb;subst this;simp only[g_] at h;subst h;exact z_ ..
  ·exact List.mem_cons_of_mem _ (uW h)
theorem W7 {D:List Deferred}{R:Seal}{a:Act}(hd:Y9 env=true)(hf:FS D n R env a)(R':Seal):FS [] n R' env {tmps:=a.tmps,defers:=[]}:=by
 refine⟨λk v hk=> ?_,hf.size,rfl⟩;obtain⟨x,hx,hr⟩:=hf.fr k v hk;have hdv:v.det=true:=List.all_eq_true.1 hd _ (uW hk);refine⟨x,hx,?_⟩;rw[Jl hr hdv];exact vZ hdv
abbrev pw (D:Nat):Deferred:={target:=.collected D,args:=#[]}
def LpQ (L D:Nat)(r:Loop)(C:Ctx)(env:Env)(Q:List Deferred->aL->Env->Heap->Prop)(res:co)(h:Heap):Prop:=
 ∃v j st pe,res= .ret v/\h[j]? =some (gy L r st pe)/\st≠ .busy/\(match pe with
  |none=>Q (pw D::C.D) .normal env (h.set j (gy L r .exhausted pe))
  |some .ret=>Q (pw D::C.D) .ret env (h.set j (gy L r .exhausted pe))
  |some (.exit i)=>Q (pw D::C.D) (.exit i) env (h.set j (gy L r .exhausted pe))
  |_=>False)
theorem BK {C:Ctx}{Q:List Deferred->aL->Env->Heap->Prop}{g:Operand}{ps:Array Tmp}{assign body:Code}{f:FuncId}{l2:List AVal}(hg:ah env g=some (.func (.func f) [] l2))
  (hcf:∀args w,(callFunc f args).run P w= .ok (.enter f args) w) (env':Env) (hs:Env.sub env env') (hdet:Y9 env'=true)
  (hit:∀(L D:Nat) (r:Loop),r.params=ps->r.assign=assign->r.body=body->(∀R,FS [] n R env' {tmps:=r.tmps,defers:=[]})->
   ad P C.G f (AVal.func (.yield L) [] []::l2) (H++[jT D,gy L r .ready none]) (LpQ L D r C env' Q)):gj P C n (.rangeFunc g ps assign body) env H Q:=by
 intro R a w hm hf;refine(wpIn_wide (n:=1)).1 (wpIn_rangeFunc ?_);intro fn _;obtain⟨r,hr⟩:∃r:Loop,r={state:=.ready,pending:=none,fn,tmps:=a.tmps,params:=ps,assign,body,defers:=w.heap.size}:=⟨_,rfl⟩;have hW:(w.alloc (.deferred (some []))).alloc (.loop r)=grow (grow w (.deferred (some []))) (.loop r):=rfl;obtain⟨x1,b1,e,q1,q2⟩:=bC (hf.eval hg) rfl;simp only[o_,and_true] at e;have q1:x1.toList=[]:=q1;have q1:x1=#[]:=by rw[<-Array.toList_inj];exact q1
 subst q1;have hsz:(grow w (.deferred (some []))).heap.size=w.heap.size+1:=by simp[grow]
 have hm1:MS C R (jT w.heap.size::H) (grow w (.deferred (some []))):=hm.alloc _ (jT w.heap.size) rfl (gn w _);have hm2:MS C R (gy (w.heap.size+1) r .ready none::jT w.heap.size::H) (grow (grow w (.deferred (some []))) (.loop r)):=by
  have hrr:Mz r .ready none=r:=by rw[hr];rfl
  refine hm1.alloc _ (gy (w.heap.size+1) r .ready none) (by rw[hsz];rfl) ?_;show(grow (grow w (.deferred (some []))) (.loop r)).heap[w.heap.size+1]? =some (.loop (Mz r .ready none));rw[hrr,<-hsz];exact gn _ _
 have hm3:MS C R (H++[jT w.heap.size,gy (w.heap.size+1) r .ready none]) (grow (grow w (.deferred (some []))) (.loop r)):=by
  refine hm2.perm ?_;refine List.Perm.trans (List.Perm.swap _ _ _) ?_;exact Mp (l₁:=[jT w.heap.size,gy (w.heap.size+1) r .ready none]) (l₂:=H)
 have hspec:=hit (w.heap.size+1) w.heap.size r (by rw[hr]) (by rw[hr]) (by rw[hr]) (λR'=>by rw[hr];exact W7 hdet (hf.sub hs) R');refine⟨w.heap.size+1,[pw w.heap.size],grow (grow w (.deferred (some []))) (.loop r),{target:=.fn (.func f) b1,args:=#[.func (.yield (w.heap.size+1)) #[] #[]]},grow (grow w (.deferred (some []))) (.loop r),f,
  #[.func (.yield (w.heap.size+1)) #[] #[]]++b1,grow (grow w (.deferred (some []))) (.loop r),?_,?_,λ_ _=>trivial,?_,λ_=>Nat.le_refl _,?_⟩
 ·rw[<-hW,hr];exact run_enterLoop_outer _ _ _ _ _
 ·simp only[resolve,rangeCall,e];simp[go_sem,Deferred.ofValue]
 ·simp only[invoke];exact hcf _ _
 ·have hrel:dy R (AVal.func (.yield (w.heap.size+1)) [] []::l2) (#[Value.func (.yield (w.heap.size+1)) #[] #[]]++b1).toList:=by
   rw[Array.toList_append];exact⟨.func (.yield (w.heap.size+1)) #[] #[],_,rfl,⟨⟨#[],#[],rfl,rfl,rfl⟩,rfl⟩,q2⟩
  have hcall:=hspec R _ _ hm.glo (MS.enter (H2:=[]) (by simpa using hm3)) hrel;have hcalls:Calls P f (#[Value.func (.yield (w.heap.size+1)) #[] #[]]++b1) (grow (grow w (.deferred (some []))) (.loop r)) (λe w'=>∃res H' R',LpQ (w.heap.size+1) w.heap.size r C env' Q res H'/\iQ R' res e/\
    MS ⟨grow (grow w (.deferred (some []))) (.loop r),R,eR (H++[jT w.heap.size,gy (w.heap.size+1) r .ready none]),C.G,hm.glo,[]⟩ R' H' w'):=by
   rcases hcall with⟨_,h2⟩|⟨v,w',h1,_⟩
   ·exact h2
   ·rw[hcf] at h1;cases h1
  refine((callsIn_wide (n:=1-1)).2 hcalls).mono ?_;rintro e' w3 ⟨res,H',R',⟨v,j,st,pe,rfl,hj,hst,hq⟩,⟨y,rfl,_⟩,hm4⟩;have hm5:MS C R' H' w3:=by simpa using MS.call (H2:=[]) (by simpa using hm3) hm4
  refine⟨pe,_,run_endLoop (o6 hm5 hj) hst,?_⟩;have hm6:=lC (.loop {Mz r st pe with state:=.exhausted}) hm5 hj;have hf6:FS (pw w.heap.size::C.D) n R' env' {a with defers:=[pw w.heap.size]++a.defers}:=by
   have h7:=(hf.sub hs).mono hm4.ge;exact⟨h7.fr,h7.size,by show pw w.heap.size::a.defers=_;rw[h7.defers]⟩
  cases pe with
  |none=>exact⟨_,.normal,env',_,R',hq,rfl,hm6,hf6⟩
  |some c=>
   cases c with
   |ret=>exact wpIn_ret ⟨_,.ret,env',_,R',hq,rfl,hm6,hf6⟩
   |exit i=>exact wpIn_exit ⟨_,.exit i,env',_,R',hq,rfl,hm6,hf6⟩
   |_=>exact hq.elim
def XR (id:Nat)(Q:List Deferred->aL->Env->Heap->Prop):List Deferred->aL->Env->Heap->Prop
 |D,.exit i,e,h=>(i=id->Q D .normal e h)/\(i≠id->Q D (.exit i) e h)
 |D,x,e,h=>Q D x e h
theorem BL {C:Ctx}{Q:List Deferred->aL->Env->Heap->Prop}{id:Nat}{c:Code}(h:gj P C n c env H (XR id Q)):gj P C n (.block id c) env H Q:=by
 intro R a w hm hf
 refine wp_block (wp_mono (h R a w hm hf) ?_)
 rintro e a' w' ⟨D,x',en,H',R',q,er,hm',hf'⟩;cases x' with
 |normal=>simp only[aG] at er;subst er;exact⟨D,.normal,en,H',R',q,rfl,hm',hf'⟩
 |exit i=>
  simp only[aG] at er;subst er;simp only[Exit.inBlock];by_cases e:i=id
  ·rw[if_pos e];exact⟨D,.normal,en,H',R',q.1 e,rfl,hm',hf'⟩
  ·rw[if_neg e];exact⟨D,.exit i,en,H',R',q.2 e,rfl,hm',hf'⟩
 |goto i=>simp only[aG] at er;subst er;exact⟨D,.goto i,en,H',R',q,rfl,hm',hf'⟩
 |ret=>simp only[aG] at er;subst er;exact⟨D,.ret,en,H',R',q,rfl,hm',hf'⟩
 |panic v=>obtain⟨y,rfl,hr⟩:=er;exact⟨D,.panic v,en,H',R',q,⟨y,rfl,hr⟩,hm',hf'⟩
def VO (P:Program)(G:Glo)(n:Nat)(rs:List ResultVar)(env:Env)(D:List Deferred)(m:fL)(H:Heap)(Qf:co->Heap->Prop):Prop:=
 ∀(C:Ctx) (R:Seal) (a:Act) (w:World) (fn:Func) (u:FrameMode) (D0:List Deferred),C.G=G->fn.results.toList=rs->MS C R H w->FS D0 n R env a->fT R m u->
  LeavesInM Fence.wide 0 P fn a.tmps (λe w'=>∃res H' R',Qf res H'/\iQ R' res e/\MS C R' H' w') D u w
variable {rs:List ResultVar} {Qf:co->Heap->Prop} {D:List Deferred} {m:fL}
theorem CU [Tab P](h:uC P rs Qf .ret env H):VO P G n rs env [] .ret H Qf:=by
 rintro C R a w fn u D0 hC hrs hm hf rfl
 obtain⟨vs,H'',hv,hs,q⟩:=kh h
 obtain⟨y,hy,hr⟩:=dZ (fn:=fn) hm hf (by rw[hrs];exact hv);exact⟨y,hy,_,H'',R,q,⟨y,rfl,hr⟩,hm.drop hs⟩
theorem CV {i d:Nat}(hi:H[i]? =some (jT d))(h:VO P G n rs env D m (H.set i (.obj d (.deferred none))) Qf):VO P G n rs env (pw d::D) m H Qf:=by
 rintro C R a w fn u D0 hC hrs hm hf hu;refine⟨Fv hu,.inl ⟨d,_,rfl,run_takeDeferred (o6 hm hi),h C R a _ fn u D0 hC hrs (lC _ hm hi) hf hu⟩⟩
def ZZ (P:Program)(G:Glo)(n:Nat)(rs:List ResultVar)(Qf:co->Heap->Prop):List Deferred->aL->Env->Heap->Prop
 |D,.ret,e,H|D,.normal,e,H=>VO P G n rs e D .ret H Qf
 |D,.panic v,e,H=>VO P G n rs e D (.pan v) H Qf
 |_,_,_,_=>False
theorem Y2 {f:FuncId}{fn:Func}{c:Code}{avs:List AVal}(hf:P.funcs[f]? =some fn)
  (hc:∀args w,(callFunc f args).run P w= .ok (.enter f args) w) (hb:fn.body=some c) (hn:fn.ntmps=n) (hrs:fn.results=rs.toArray) (hlen:Nat.ble avs.length n=true)
  (h:∀C:Ctx,C.G=G->C.D=[]->gj P C n c (fg 0 avs) H (ZZ P G n rs Qf)):ad P G f avs H Qf:=by
 intro R w args hG hm ha
 refine .inl ⟨hc args w,(callsIn_wide (n:=0)).1 (callsIn_of_wp_marks hf hb trivial ((wpIn_wide (n:=0)).2 ?_))⟩
 subst hn
 have hrs':fn.results.toList=rs:=by rw[hrs]
 refine wp_mono (h ⟨w,R,eR H,G,hG,[]⟩ rfl rfl R _ w hm (DE hlen ha)) ?_
 rintro e a' w' ⟨D,x,env',H',R',q,er,hm',hf'⟩
 cases x with
 |normal=>
  simp only[aG] at er;subst er
  have:=q _ R' a' w' fn .returning D rfl hrs' hm' hf' rfl
  rwa [<-hf'.defers] at this
 |ret=>
  simp only[aG] at er;subst er
  have:=q _ R' a' w' fn .returning D rfl hrs' hm' hf' rfl
  rwa [<-hf'.defers] at this
 |panic v=>
  obtain⟨y,rfl,hr⟩:=er
  have:=q _ R' a' w' fn (.panicking [{v:=y,recovered:=false}]) D rfl hrs' hm' hf' ⟨y,rfl,hr⟩
  rwa [<-hf'.defers] at this
 |exit i=>exact q.elim
 |goto i=>exact q.elim
end
end
section
structure Rl where
 t:Int
 a:Int
 b:Int
 p:Int
deriving DecidableEq
def Rl.A (r:Rl):AVal:=.agg [.int .i64 r.t,.int .i64 r.a,.int .i64 r.b,.int .i64 r.p]
def Rl.z:Rl:=⟨0,0,0,0⟩
structure Kn where
 n:ω
 o:Option Rl
 w:Option Rl
def Sm:List Kn:=[
 ⟨[70,78],some ⟨1,1,1,0⟩,some ⟨1,1,0,0⟩⟩,
 ⟨[78],some ⟨3,1,1,5⟩,some ⟨3,0,1,5⟩⟩,
 ⟨[78,73,67,75,78,65,77,69],some ⟨2,0,0,0⟩,some ⟨2,0,0,0⟩⟩,
 ⟨[80,72,79,84,79],some ⟨8,0,0,0⟩,some ⟨4,0,0,0⟩⟩,
 ⟨[66,68,65,89],some ⟨5,0,1,0⟩,some ⟨5,0,1,0⟩⟩,
 ⟨[65,78,78,73,86,69,82,83,65,82,89],none,some ⟨5,0,1,0⟩⟩,
 ⟨[71,69,78,68,69,82],none,some ⟨3,0,1,2⟩⟩,
 ⟨[65,68,82],some ⟨3,0,0,7⟩,some ⟨3,0,0,7⟩⟩,
 ⟨[76,65,66,69,76],some ⟨1,0,0,0⟩,none⟩,
 ⟨[84,69,76],some ⟨1,0,0,0⟩,some ⟨1,0,0,0⟩⟩,
 ⟨[69,77,65,73,76],some ⟨1,0,0,0⟩,some ⟨1,0,0,0⟩⟩,
 ⟨[77,65,73,76,69,82],some ⟨1,0,0,0⟩,none⟩,
 ⟨[73,77,80,80],none,some ⟨4,0,0,0⟩⟩,
 ⟨[76,65,78,71],none,some ⟨7,0,0,0⟩⟩,
 ⟨[84,90],some ⟨6,0,1,0⟩,some ⟨1,0,0,0⟩⟩,
 ⟨[71,69,79],some ⟨3,0,1,2⟩,some ⟨4,0,0,0⟩⟩,
 ⟨[84,73,84,76,69],some ⟨1,0,0,0⟩,some ⟨1,0,0,0⟩⟩,
 ⟨[82,79,76,69],some ⟨1,0,0,0⟩,some ⟨1,0,0,0⟩⟩,
 ⟨[76,79,71,79],some ⟨8,0,0,0⟩,some ⟨4,0,0,0⟩⟩,
 ⟨[65,71,69,78,84],some ⟨1,0,0,0⟩,none⟩,
 ⟨[79,82,71],some ⟨3,0,0,0⟩,some ⟨3,0,0,0⟩⟩,
 ⟨[77,69,77,66,69,82],none,some ⟨4,0,0,0⟩⟩,
 ⟨[82,69,76,65,84,69,68],none,some ⟨4,0,0,0⟩⟩,
 ⟨[67,65,84,69,71,79,82,73,69,83],some ⟨2,0,0,0⟩,some ⟨2,0,0,0⟩⟩,
 ⟨[78,79,84,69],some ⟨1,0,0,0⟩,some ⟨1,0,0,0⟩⟩,
 ⟨[80,82,79,68,73,68],some ⟨1,0,1,0⟩,some ⟨1,0,1,0⟩⟩,
 ⟨[82,69,86],some ⟨5,0,1,0⟩,some ⟨5,0,1,0⟩⟩,
 ⟨[83,79,82,84,45,83,84,82,73,78,71],some ⟨1,0,1,0⟩,none⟩,
 ⟨[83,79,85,78,68],some ⟨8,0,0,0⟩,some ⟨4,0,0,0⟩⟩,
 ⟨[85,73,68],some ⟨1,0,1,0⟩,some ⟨4,0,1,0⟩⟩,
 ⟨[85,82,76],some ⟨4,0,0,0⟩,some ⟨4,0,0,0⟩⟩,
 ⟨[67,76,65,83,83],some ⟨1,0,1,0⟩,none⟩,
 ⟨[75,73,78,68],none,some ⟨1,0,1,0⟩⟩,
 ⟨[75,69,89],some ⟨8,0,0,0⟩,some ⟨4,0,0,0⟩⟩,
 ⟨[78,65,77,69],some ⟨1,0,1,0⟩,none⟩,
 ⟨[83,79,85,82,67,69],some ⟨4,0,0,0⟩,some ⟨4,0,0,0⟩⟩]
def Kn.of (k:Kn)(v:Int):Option Rl:=if v=3 then k.o else k.w
def da (v:Int):List (ω×Rl):=Sm.filterMap λk=>(k.of v).map λr=>(k.n,r)
def lZ (i:Int):UInt8:=UInt8.ofNat (48+i.toNat)
def Ht (x:ω×Rl):ω:=x.1++[32,lZ x.2.t,32,lZ x.2.a,32,lZ x.2.b,32,lZ x.2.p]
def fC (c:UInt8):List ω->ω
 |[]=>[]
 |[x]=>x
 |x::y::t=>x++c::fC c (y::t)
def jl (v:Int):List ω:=(da v).map Ht
def L3 (v:Int):ω:=fC 124 (jl v)
def gD (s:ω):List (ω×Rl)->Rl
 |[]=>⟨8,0,0,0⟩
 |x::t=>if x.1=s then x.2 else gD s t
def cC (v:Int)(s:ω):Rl:=if v=3\/v=4 then gD (am 97 122 (-32) s) (da v) else Rl.z
def eX (v:Int):Err:=if v=3\/v=4 then .none else .errno 1
def aF (v:Int):List ω:=if v=3\/v=4 then(da v).map (·.1) else[]
theorem IM {c:UInt8}{l:List ω}{k:Nat}(h:k+1<l.length):fC c (l.drop k)=l.getD k []++c::fC c (l.drop (k+1)):=by
 rw[A_ a_,A_ h];simp only[fC]
 rw[f_,y_ a_]
 rfl
theorem IL {c:UInt8}{l:List ω}{k:Nat}(h:k+1=l.length):fC c (l.drop k)=l.getD k []:=by
 rw[A_ a_,List.drop_of_length_le a_];simp only[fC];rw[f_,y_ a_];rfl
end
section
def fE (s:ω)(c:Int):ω×ω×Bool:=if aS s c<0 then(s,[],false) else(s.take (aS s c).toNat,s.drop ((aS s c).toNat+1),true)
def gT (s:ω)(c:Int):Nat->Int
 |0=> -1
 |n+1=>if(aa s n:Int)=c then n else gT s c n
theorem uS (s:ω)(c:Int):∀n,(gT s c n= -1/\∀j,j<n->(aa s j:Int)≠c)\/∃m,m<n/\gT s c n=(m:Int)/\(aa s m:Int)=c/\∀j,m<j->j<n->(aa s j:Int)≠c
 |0=>.inl ⟨rfl,λj h=>absurd h (Uf _)⟩
 |n+1=>by
  by_cases h:(aa s n:Int)=c
  ·exact .inr ⟨n,aak _,by simp only[gT];rw[if_pos h],h,λj h1 h2=>by omega⟩
  ·have e:gT s c (n+1)=gT s c n:=by simp only[gT];rw[if_neg h]
   rw[e];rcases uS s c n with⟨h1,h2⟩|⟨m,h1,h2,h3,h4⟩
   ·exact .inl ⟨h1,λj hj=>by
     rcases aaj j n with g|g
     ·exact h2 j g
     ·rw[show j=n by omega];exact h⟩
   ·exact .inr ⟨m,a_,h2,h3,λj g1 g2=>by
     rcases aaj j n with g|g
     ·exact h4 j g1 g
     ·rw[show j=n by omega];exact h⟩
theorem Qs {c:UInt8}:aS [c] (c.toNat:Int)=0:=C4 (i:=0) (aak 0) rfl (λj h=>absurd h (Uf _))
theorem RK {c:UInt8}:(aa [c] 0:Int)=(c.toNat:Int):=rfl
attribute [local irreducible] bJ au aa ax aR ab ad
theorem rP {G:Glo}(s:ω)(c:UInt8):ai prog G 183 [.str s,.str [c]] (.int .i64 (aS s (c.toNat:Int))):=by
 have hc:=c.toNat_lt;have hb:=RK (c:=c);have k1:=jI (G:=G) s (aa [c] 0:Int) a_ a_;by_cases hs:[c]=s
 ·have e:=Qs (c:=c);rw[hs] at e;rw[e];refine aw func183 call183 λC hC hGL=> ?_;exact bq
 ·rw[<-hb];refine aw func183 call183 λC hC hGL=> ?_;exact bq
theorem HJ {G:Glo}(s:ω)(c:UInt8)(hl:s.length<=1000000):ai prog G 161 [.str s,.str [c]] (.tuple [.str (fE s (c.toNat:Int)).1,.str (fE s (c.toNat:Int)).2.1,.bool (fE s (c.toNat:Int)).2.2]):=by
 have k1:=rP (G:=G) s c;rcases lS s (c.toNat:Int) with⟨h1,h2⟩|⟨m,h1,h2,h3,h4⟩
 ·have e:fE s (c.toNat:Int)=(s,[],false):=by unfold fE;rw[h1,if_pos b_]
  rw[h1] at k1;rw[e];refine aw func161 call161 λC hC hGL=> ?_;exact bq
 ·have e:fE s (c.toNat:Int)=(s.take m,s.drop (m+1),true):=by unfold fE;rw[h2,if_neg a_,B_]
  rw[h2] at k1;rw[e];refine aw func161 call161 λC hC hGL=> ?_;exact bq
theorem on {G:Glo}(s:ω)(c:UInt8)(hl:s.length<=1000000):ai prog G 110 [.str s,.str [c]] (.tuple [.str (fE s (c.toNat:Int)).1,.str (fE s (c.toNat:Int)).2.1,.bool (fE s (c.toNat:Int)).2.2]):=by
 have k1:=HJ (G:=G) s c hl;refine aw func110 call110 λC hC hGL=> ?_;exact bq
theorem lu {G:Glo}(s:ω)(c:Int)(h0:0<=c)(h1:c<=255)(hl:s.length<=1000000):ai prog G 203 [.str s,.int .u8 c] (.int .i64 (gT s c s.length)):=by
 refine aw func203 call203 λC hC hGL=> ?_;refine aH ?_;refine lp hC hGL (λn:Nat=>[(0,.str s),(1,.int .u8 c),(5,.int .i64 ((n:Int)-1))]) (λ_=>[]) (λn=>n<=s.length/\gT s c n=gT s c s.length) (λn=>n) s.length ⟨Nat.le_refl _,rfl⟩ ae rfl ?_;rintro n ⟨h2,h3⟩;cases n with
 |zero=>
  rw[<-h3];exact bq
 |succ n=>
  by_cases h:(aa s n:Int)=c
  ·have e:gT s c (n+1)=n:=by simp only[gT];rw[if_pos h]
   rw[<-h3,e];have e9:((n+1:Nat):Int)-1=(n:Int):=by omega
   rw[e9];exact bq
  ·have e:gT s c (n+1)=gT s c n:=by simp only[gT];rw[if_neg h]
   rw[e] at h3;have e9:((n+1:Nat):Int)-1=(n:Int):=by omega
   rw[e9];refine aH ?_;intros;exact cQ n ⟨a_,h3⟩ a_ ae rfl
theorem ox {G:Glo}(s:ω)(c:Int)(h0:0<=c)(h1:c<=255)(hl:s.length<=1000000):ai prog G 156 [.str s,.int .u8 c] (.int .i64 (gT s c s.length)):=by
 have k1:=lu (G:=G) s c h0 h1 hl;refine aw func156 call156 λC hC hGL=> ?_;exact bq
end
section
theorem GO {s:ω}{j:Nat}{c:UInt8}(hj:j<s.length)(h:c∉s):(aa s j:Int)≠(c.toNat:Int):=by
 intro e;apply h;have e1:aa s j=(s[j]).toNat:=by simp[aa,List.getD,hj]
 have e2:(s[j]).toNat=c.toNat:=by rw[<-e1];omega
 rw[<-UInt8.toNat_inj.1 e2];exact K_ hj
theorem Qx {r t:ω}{c:UInt8}(h:c∉r):aS (r++c::t) (c.toNat:Int)=(r.length:Nat):=by
 refine C4 (by simp) ?_ λj hj=> ?_
 ·simp[aa,List.getD]
 ·have:=GO hj h;rwa [show aa (r++c::t) j=aa r j by simp[aa,List.getD,H_ hj]]
theorem TW {r:ω}{c:UInt8}(h:c∉r):aS r (c.toNat:Int)= -1:=Bh λj hj=>GO hj h
theorem BR {P:Program}{G:Glo}{L:Nat}{avs:List AVal}{H:Heap}{Q Q':Bool->Heap->Prop}(h:ov P G L avs H Q)(hq:∀b H',Q b H'->∃H2,H'.Perm H2/\Q' b H2):ov P G L avs H Q':=by
 intro R w args hG hm ha;obtain⟨fn,tm,ag,bd,hy,hr⟩:=h R w args hG hm ha;exact⟨fn,tm,ag,bd,hy,hr.mono λe w' ⟨b,H',R',q,er,hm'⟩=>let ⟨H2,hp,q'⟩:=hq _ _ q;⟨b,H2,R',q',er,hm'.perm hp⟩⟩
theorem N0 {P:Program}[Tab P]{G:Glo}{L:Nat}{avs:List AVal}{H1 H2:Heap}{Q:Bool->Heap->Prop}(hp:H1.Perm H2)(h:ov P G L avs H1 Q):ov P G L avs H2 Q:=by
 have hb:∀k,k∈eR H2↔k∈eR H1:=λk=>by
  have:=(hp.filterMap HEnt.blk).mem_iff (a:=k);exact this.symm
 intro R w args hG hm ha;obtain⟨fn,tm,ag,bd,hy,hr⟩:=h R w args hG ((hm.perm hp.symm).blks_iff hb) ha;exact⟨fn,tm,ag,bd,hy,hr.mono λe w' ⟨b,H',R',q,er,hm'⟩=>⟨b,H',R',q,er,hm'.blks_iff λk=>(hb k).symm⟩⟩
theorem Xa {P:Program}[Tab P]{G:Glo}{f:FuncId}{avs:List AVal}(H:Heap){X:Type}{N:X->Heap}{v v':X->AVal}(hs:ad P G f avs [] (λr H'=>∃x,r= .ret (v x)/\H'=N x))(hv:∀x R u,bn R (v x) u->bn R (v' x) u):
  ad P G f avs H (λr H'=>∃x,r= .ret (v' x)/\H'=H++N x):=by
 intro R w args hG hm ha;rcases dO H hs R w args hG hm ha with⟨h1,h2⟩|⟨u,w',h1,res,H',R',⟨H1,⟨x,rfl,rfl⟩,rfl⟩,er,hm'⟩
 ·refine .inl ⟨h1,h2.mono ?_⟩;rintro e w' ⟨res,H',R',⟨H1,⟨x,rfl,rfl⟩,rfl⟩,⟨y,e1,hr⟩,hm'⟩;exact⟨.ret (v' x),_,R',⟨x,rfl,rfl⟩,⟨y,e1,hv x R' y hr⟩,hm'.perm Mp⟩
 ·obtain⟨y,e1,hr⟩:=er;exact .inr ⟨u,w',h1,.ret (v' x),_,R',⟨x,rfl,rfl⟩,⟨y,e1,hv x R' y hr⟩,hm'.perm Mp⟩
theorem Jo {P:Program}[Tab P]{G:Glo}{f:FuncId}{avs:List AVal}{H:Heap}{K Kp:AVal->Heap->Prop}{X:Type}{N:X->Heap}{v:X->AVal}(v':X->AVal)(hs:ad P G f avs [] (λr H'=>∃x,r= .ret (v x)/\H'=N x))(hv:∀x R u,bn R (v x) u->bn R (v' x) u)(k:∀x,K (v' x) (H++N x)):Cx P G f avs H K Kp:=by
 refine .mk _ (Xa H hs hv) ?_ ?_
 ·rintro u H' ⟨x,e,rfl⟩;cases e;exact k x
 ·rintro u H' ⟨x,e,rfl⟩;cases e
abbrev dF (b:Nat)(s:ω):HEnt:=.cells b (some 9) [.str s]
abbrev m8 (b:Nat)(m:Int):HEnt:=.cells b (some 3) [.int .i64 m]
abbrev ic (b:Nat):Value:=.pointer (some ⟨b,0,none⟩)
attribute [local irreducible] bJ au aa ax aR ab ad jG ov
theorem ve {G:Glo}(s:ω)(c:UInt8):ai prog G 132 [.str s,.str [c]] (.int .i64 (aS s (c.toNat:Int))):=by
 have k1:=rP (G:=G) s c;refine aw func132 call132 λC hC hGL=> ?_;exact bq
theorem tr {G:Glo}(s:ω)(c:UInt8):ad prog G 160 [.str s,.str [c],.int .i64 0] []
  (λr H=>∃x:Nat×Nat×Nat,r= .ret (.func (.func 207) [] [.own 1 (ic x.2.1),.own 0 (ic x.1),.own 2 (ic x.2.2)])/\H=[dF x.1 s,dF x.2.1 [c],m8 x.2.2 0]):=by
 refine aw func160 call160 λC hC hGL=> ?_;refine Sg ?_;intro b0 b1 b2;intros;exact⟨_,At _,(b0,b1,b2),rfl,rfl⟩
theorem m7 {G:Glo}(s:ω)(c:UInt8):ad prog G 108 [.str s,.str [c]] []
  (λr H=>∃x:Nat×Nat×Nat,r= .ret (.func (.func 207) [] [.own 1 (ic x.2.1),.own 0 (ic x.1),.own 2 (ic x.2.2)])/\H=[dF x.1 s,dF x.2.1 [c],m8 x.2.2 0]):=by
 have h1:=tr (G:=G) s c;refine aw func108 call108 λC hC hGL=> ?_;refine an ?_;refine Jo (λx:Nat×Nat×Nat=>.func (.func 207) [] [.own 1 (ic x.2.1),.own 0 (ic x.1),.own 2 (ic x.2.2)]) h1 (λ_ _ _ h=>h) ?_;rintro⟨b0,b1,b2⟩;refine an ?_;exact⟨_,At _,(b0,b1,b2),rfl,rfl⟩
theorem qD {G:Glo}(L b0 b1 b2:Nat)(c:UInt8)(rows:List ω)(hne:0<rows.length)(hno:∀k,c∉rows.getD k [])(hlen:∀k,(fC c (rows.drop k)).length<=1000000){Y Z:Type}(J:Y->Heap)(E:Z->Heap)(Inv:Nat->Y->Prop)(y0:Y)(h0:Inv 0 y0)
  (hy:∀(k:Nat) (s':ω) (y:Y),k<rows.length->Inv k y->ov prog G L [.str (rows.getD k [])] (dF b0 s'::dF b1 [c]::m8 b2 0::J y) (λb H'=>(b=true/\∃y',Inv (k+1) y'/\H'=dF b0 s'::dF b1 [c]::m8 b2 0::J y')\/(b=false/\∃z,H'=dF b0 s'::dF b1 [c]::m8 b2 0::E z))):
  ad prog G 207 [.func (.yield L) [] [],.own 1 (ic b1),.own 0 (ic b0),.own 2 (ic b2)] (dF b0 (fC c rows)::dF b1 [c]::m8 b2 0::J y0)
   (λr H'=>r= .ret (.tuple [])/\∃s',(∃y,Inv rows.length y/\H'=dF b0 s'::dF b1 [c]::m8 b2 0::J y)\/∃z,H'=dF b0 s'::dF b1 [c]::m8 b2 0::E z):=by
 have k1:=λs=>ve (G:=G) s c;have hGL:ab G []:=al;refine I5 func207 call207 rfl rfl rfl rfl ?_;intro C hC;refine cut hC hGL [(0,.func (.yield L) [] []),(1,.own 1 (ic b1)),(2,.own 0 (ic b0)),(3,.own 2 (ic b2))] (dF b0 (fC c rows)::dF b1 [c]::m8 b2 0::J y0) True eK λ_=> ?_;refine j7 (mf (pC (X:=Nat×Y) (λx=>[(0,.func (.yield L) [] []),(1,.own 1 (ic b1)),(2,.own 0 (ic b0)),(3,.own 2 (ic b2))]) (λx=>dF b0 (fC c (rows.drop x.1))::dF b1 [c]::m8 b2 0::J x.2) (λx=>x.1<rows.length/\Inv x.1 x.2) (λx=>rows.length-x.1) (0,y0) ⟨hne,h0⟩ ae (At _) ?_));rintro⟨k,y⟩ ⟨hk,hI⟩;dsimp only at hk hI ⊢;refine mf ?_;by_cases hl:k+1<rows.length
 ·have e1:=IM (c:=c) hl;have hi:=Qx (r:=rows.getD k []) (t:=fC c (rows.drop (k+1))) (hno k);have hln:=hlen k;rw[<-e1] at hi;have k2:=k1 (fC c (rows.drop k));rw[hi] at k2;have hy1:=hy k (fC c (rows.drop k)) y hk hI;have e3:(fC c (rows.drop k)).take (rows.getD k []).length=rows.getD k []:=by rw[e1,List.take_left]
  have e4:(fC c (rows.drop k)).drop ((rows.getD k []).length+1)=fC c (rows.drop (k+1)):=by
   rw[e1,<-Q_,List.drop_left];rfl
  have e5:(rows.getD k []).length+1<=(fC c (rows.drop k)).length:=by rw[e1];simp
  generalize hsr:fC c (rows.drop k)=s at*
  generalize hr:rows.getD k []=r at*
  refine cut hC hGL [(0,.func (.yield L) [] []),(1,.own 1 (ic b1)),(2,.own 0 (ic b0)),(3,.own 2 (ic b2)),(7,.int .i64 (r.length:Nat))] (dF b0 s::dF b1 [c]::m8 b2 0::J y) True eK λ_=> ?_;refine cut hC hGL [(0,.func (.yield L) [] []),(1,.own 1 (ic b1)),(2,.own 0 (ic b0)),(3,.own 2 (ic b2)),(7,.int .i64 (r.length:Nat))] (dF b0 s::dF b1 [c]::m8 b2 0::J y) True eK λ_=> ?_;refine cut hC hGL [(0,.func (.yield L) [] []),(1,.own 1 (ic b1)),(2,.own 0 (ic b0)),(3,.own 2 (ic b2)),(7,.int .i64 (r.length:Nat)),(8,.str (s.take r.length))] (dF b0 s::dF b1 [c]::m8 b2 0::J y) True eK λ_=> ?_;rw[e3];refine j7 (j7 (GZ 2 hC hGL rfl rfl be ?_));refine an ?_;refine⟨L,_,rfl,rfl,BR hy1 ?_⟩;rintro b H' (⟨rfl,y',hy',rfl⟩|⟨rfl,z,rfl⟩)
  ·refine⟨_,N_ _,?_⟩;refine an ?_;refine ar hC hGL (an ?_);refine ar hC hGL (an ?_);rw[bA];refine⟨(k+1,y'),⟨hl,hy'⟩,by show rows.length-(k+1)<rows.length-k;omega,ae,?_⟩;show List.Sublist (dF b0 (fC c (rows.drop (k+1)))::dF b1 [c]::m8 b2 0::J y') _;rw[<-e4];exact At _
  ·refine⟨_,N_ _,?_⟩;refine an ?_;refine ar hC hGL (an ?_);exact⟨_,At _,rfl,s,.inr ⟨z,rfl⟩⟩
 ·have e1:=IL (c:=c) (l:=rows) (k:=k) a_;have hi:=TW (hno k);rw[<-e1] at hi;have k2:=k1 (fC c (rows.drop k));rw[hi] at k2;have hy1:=hy k (fC c (rows.drop k)) y hk hI;rw[<-e1] at hy1;have hkl:k+1=rows.length:=by omega
  generalize fC c (rows.drop k)=s at*
  refine cut hC hGL [(0,.func (.yield L) [] []),(1,.own 1 (ic b1)),(2,.own 0 (ic b0)),(3,.own 2 (ic b2)),(7,.int .i64 (-1))] (dF b0 s::dF b1 [c]::m8 b2 0::J y) True eK λ_=> ?_;refine ar hC hGL (an ?_);intro _;refine⟨λh=>absurd h b_,λ_=>⟨λ_=> ?_,λh=>absurd rfl h⟩⟩;refine GZ 2 hC hGL rfl rfl be ?_;refine an ?_;refine⟨L,_,rfl,rfl,BR hy1 ?_⟩;rintro b H' (⟨rfl,y',hy',rfl⟩|⟨rfl,z,rfl⟩)
  ·refine⟨_,N_ _,?_⟩;refine an ?_;rw[hkl] at hy';exact⟨_,At _,rfl,s,.inl ⟨y',hy',rfl⟩⟩
  ·refine⟨_,N_ _,?_⟩;refine an ?_;exact⟨_,At _,rfl,s,.inr ⟨z,rfl⟩⟩
end
section
theorem XU {P:Program}{C:Ctx}{n:Nat}{c:Code}{env env':Env}{H H':Heap}{Q:List Deferred->aL->Env->Heap->Prop}(hto:To C n env H env' H')(h:gj P C n c env' H' Q):gj P C n c env H Q:=λR a w hm hf=>by
 obtain⟨R',hle,hm',hf'⟩:=hto R a w hm hf;exact h R' a w hm' hf'
theorem Dh {P:Program}{G:Glo}{f:FuncId}{avs avs':List AVal}{H:Heap}{Qf:co->Heap->Prop}(h:ad P G f avs H Qf)(ha:∀R vs,dy R avs' vs->dy R avs vs):ad P G f avs' H Qf:=
 λR w args hG hm h2=>h R w args hG hm (ha R _ h2)
def AE (x:ω×Rl):Bool:= !(Ht x).contains 124&&decide ((fE (Ht x) 32).1=x.1)&&(Ht x).all (λc=>decide (c.toNat<128))&&decide ((Ht x).length<=60)&&
 decide (Lib.fields (Ht x)=[x.1,[lZ x.2.t],[lZ x.2.a],[lZ x.2.b],[lZ x.2.p]])&&decide (0<=x.2.t/\x.2.t<10/\0<=x.2.a/\x.2.a<10/\0<=x.2.b/\x.2.b<10/\0<=x.2.p/\x.2.p<10)
theorem r8 {v:Int}(hv:v=3\/v=4):(da v).all AE=true/\(da v).length<=36/\0<(da v).length:=by
 rcases hv with rfl|rfl
 ·exact⟨by decide+kernel,by decide+kernel,by decide+kernel⟩
 ·exact⟨by decide+kernel,by decide+kernel,by decide+kernel⟩
theorem HX {v:Int}(hv:v=3\/v=4){k:Nat}(hk:k<(da v).length):AE (da v)[k]=true:=List.all_eq_true.1 (r8 hv).1 _ (K_ hk)
theorem nC {v:Int}{k:Nat}(hk:k<(da v).length):(jl v).getD k []=Ht (da v)[k]:=by
 unfold jl;rw[f_,List.getElem?_map,y_ hk];rfl
theorem Be (c:UInt8){m:Nat}:∀l:List ω,(∀x∈l,x.length<=m)->(fC c l).length<=l.length*(m+1)
 |[],_=>Nat.zero_le _
 |[x],h=>by
  have:=h x (List.mem_singleton.2 rfl);simp only[fC,j_,E_];omega
 |x::y::t,h=>by
  have h1:=h x (z_ ..);have ih:=Be c (m:=m) (y::t) λz hz=>h z (List.mem_cons_of_mem _ hz);simp only[fC,d_,j_] at ih ⊢;rw[U_];generalize (t.length+1)*(m+1)=z at*
  omega
theorem J3 {v:Int}(hv:v=3\/v=4)(k:Nat):(fC 124 ((jl v).drop k)).length<=1000000:=by
 have h1:=Be 124 (m:=60) ((jl v).drop k) λx hx=>by
  obtain⟨y,hy,rfl⟩:=List.mem_map.1 (List.mem_of_mem_drop hx);have:=List.all_eq_true.1 (r8 hv).1 _ hy;simp only[AE,l_,n_] at this;exact this.1.1.2
 have h2:((jl v).drop k).length<=36:=by
  have:=(r8 hv).2.1;unfold jl;rw[k_,C_];omega
 have:=aah (60+1) h2;omega
theorem OI {v:Int}(hv:v=3\/v=4)(k:Nat):(124:UInt8)∉(jl v).getD k []:=by
 by_cases hk:k<(da v).length
 ·rw[nC hk];have:=HX hv hk;simp only[AE,l_,Bool.not_eq_true',List.contains_eq_mem,aaf] at this;exact this.1.1.1.1.1
 ·rw[f_,P_ (by unfold jl;rw[C_];omega)];simp
def Hd (v:Int):List ω:=(da v).map (·.1)
theorem Tw {v:Int}{k:Nat}(hk:k<(da v).length):(Hd v).take (k+1)=(Hd v).take k++[(da v)[k].1]:=by
 unfold Hd;rw[List.take_add_one,List.getElem?_map,y_ hk];rfl
abbrev Tz (b:Nat)(i:Nat)(v:Value):HEnt:=.cells b (some 67) [.own i v]
attribute [local irreducible] bJ au aa ax aR ab ad jG ov gj VO To jl da Hd fE
theorem uI {G:Glo}{v:Int}(hv:v=3\/v=4):ai prog G 109 [.int .i64 v] (.str (L3 v)):=by
 rcases hv with rfl|rfl
 ·refine aw func109 call109 λC hC hGL=> ?_;refine xw ?_;repeat' first|exact .n|apply Lc.mk
  all_goals intros
  all_goals first
   |exact absurd rfl (by assumption)
   |(apply aj;refine congrArg AVal.str ?_;decide+kernel)
 ·refine aw func109 call109 λC hC hGL=> ?_
  refine xw ?_
  repeat' first|exact .n|apply Lc.mk
  all_goals intros
  all_goals first
   |(apply aj;refine congrArg AVal.str ?_;decide+kernel)
theorem Cn {G:Glo}{v:Int}(hv:v=3\/v=4):ad prog G 53 [.int .i64 v] [] (λr H=>∃va,r= .ret (.tuple [.own 4 va,.raw .nilIface])/\H=[.row va none 1 (Hd v).length (bu (Hd v))]):=by
 have hGL:ab G []:=al;have hT:=uI (G:=G) hv;have hS:=m7 (G:=G) (L3 v) 124;have hlen:(Hd v).length=(jl v).length:=by unfold Hd jl;rw[C_,C_]
 have hlr:(jl v).length=(da v).length:=by unfold jl;rw[C_]
 have h36:=(r8 hv).2;refine Y2 (rs:=[.tmp 2,.tmp 3]) func53 call53 rfl rfl rfl rfl ?_;intro C hC hD;refine ci hC hGL (λ_:Unit=>[(0,.int .i64 v)]) (λ_=>[]) (λ_=>True) ?_ λ_ _=> ?_
 ·refine an ?_;exact cy () trivial
 refine ci hC hGL (λ_:Unit=>[(0,.int .i64 v)]) (λ_=>[]) (λ_=>True) ?_ λ_ _=> ?_
 ·refine xn ?_;repeat' first|exact .n|apply Lc.mk
  all_goals intros
  all_goals first
   |exact cy () trivial
   |(exfalso;omega)
 refine ci hC hGL (λbo:Nat=>[(0,.int .i64 v),(4,.own 0 (ic bo))]) (λbo=>[.cells bo (some 67) [.raw (.slice none 0 0)]]) (λ_=>True) ?_ λbo _=> ?_
 ·refine an ?_;intro bo;intros;exact cy bo trivial
 refine fq (ci hC hGL (λx:Nat×Nat×Nat=>[(0,.int .i64 v),(4,.own 0 (ic bo)),(18,.func (.func 207) [] [.own 2 (ic x.2.1),.own 1 (ic x.1),.own 3 (ic x.2.2)])]) (λx=>[.cells bo (some 67) [.raw (.slice none 0 0)],dF x.1 (L3 v),dF x.2.1 [124],m8 x.2.2 0]) (λ_=>True) ?_ ?_)
 ·refine an ?_;refine Jo (λx:Nat×Nat×Nat=>.func (.func 207) [] [.own 2 (ic x.2.1),.own 1 (ic x.1),.own 3 (ic x.2.2)]) hS (λ_ _ _ h=>h) ?_;rintro⟨b0,b1,b2⟩;refine an ?_;exact cy (b0,b1,b2) trivial
 rintro⟨b0,b1,b2⟩-
 dsimp only
 refine BL (XU (ak (ep 1) (iq (i:=0) (p:=0) (a':=.own 4 (.slice none 0 0)) rfl (λR=>.cells rfl λ_=>iy))) ?_);refine BK rfl call207 [(0,.int .i64 v),(4,.own 0 (ic bo))] ae rfl ?_;intro L D r hp ha hb hfs;rw[hC];have hy:∀(k:Nat) (s':ω) (y:List ω×Value),k<(jl v).length->y.1=(Hd v).take k->ov prog G L [.str ((jl v).getD k [])] (dF b0 s'::dF b1 [124]::m8 b2 0::[Tz bo 4 y.2,.row y.2 none 1 y.1.length (bu y.1),jT D,gy L r .ready none])
   (λb H'=>(b=true/\∃y':List ω×Value,y'.1=(Hd v).take (k+1)/\H'=dF b0 s'::dF b1 [124]::m8 b2 0::[Tz bo 4 y'.2,.row y'.2 none 1 y'.1.length (bu y'.1),jT D,gy L r .ready none])\/(b=false/\∃z:Empty,H'=dF b0 s'::dF b1 [124]::m8 b2 0::[])):=by
  rintro k s' ⟨ns,w⟩ hk hI;dsimp only at hI ⊢;have hk':k<(da v).length:=by omega
  have hro:=HX hv hk';simp only[AE,l_,n_] at hro;have hcut:=on (G:=G) ((jl v).getD k []) 32 (by rw[nC hk'];omega);have e1:(fE ((jl v).getD k []) 32).1=(da v)[k].1:=by rw[nC hk'];exact hro.1.1.1.1.2
  have hcut:ai prog G 110 [.str ((jl v).getD k []),.str [32]] (.tuple [.str (da v)[k].1,.str (fE ((jl v).getD k []) 32).2.1,.bool (fE ((jl v).getD k []) 32).2.2]):=by rw[<-e1];exact hcut
  have hns:ns.length<=36:=by rw[hI,i_];omega
  have e2:=Tw hk';refine BR (N0 (H1:=[Tz bo 4 w,dF b0 s',dF b1 [124],m8 b2 0,.row w none 1 ns.length (bu ns),jT D,gy L r .ready none]) (List.perm_middle (l₁:=[dF b0 s',dF b1 [124],m8 b2 0]) (a:=Tz bo 4 w)).symm
   (NZ (i:=6) (p:=19) (Qf:=λb H'=>b=true/\∃w',H'=[Tz bo 4 w',dF b0 s',dF b1 [124],m8 b2 0,.row w' none 1 (ns++[(da v)[k].1]).length (bu (ns++[(da v)[k].1])),jT D,gy L r .ready none]) rfl hp be hfs ?_)) ?_
  ·intro C2 hC2 hD2;rw[ha];refine io hC2 hGL (an ?_);refine⟨rfl,6,rfl,?_⟩;rw[hb];generalize (da v)[k].1=nm at*
   refine io hC2 hGL (an ?_);intro wa wk wc _;refine⟨6,rfl,rfl,.slice wa wk wc,?_⟩;rw[<-cg,d_];rfl
  ·rintro b H' ⟨rfl,w',rfl⟩;refine⟨_,(List.perm_middle (l₁:=[dF b0 s',dF b1 [124],m8 b2 0]) (a:=Tz bo 4 w')).symm,.inl ⟨rfl,(ns++[(da v)[k].1],w'),?_,rfl⟩⟩;rw[e2,hI]
 have run:=qD (G:=G) L b0 b1 b2 124 (jl v) a_ (OI hv) (J3 hv) (Y:=List ω×Value) (Z:=Empty) (λy=>[Tz bo 4 y.2,.row y.2 none 1 y.1.length (bu y.1),jT D,gy L r .ready none]) (λ_=>[]) (λk y=>y.1=(Hd v).take k) ([],.slice none 0 0) rfl hy;refine iE (iD (List.perm_middle (l₁:=[dF b0 (L3 v),dF b1 [124],m8 b2 0]) (a:=Tz bo 4 (.slice none 0 0))) (Dh run λ_ _ h=>h)) ?_;rintro res H' ⟨rfl,s',⟨⟨ns,w⟩,hI,rfl⟩|⟨z,_⟩⟩
 ·refine⟨_,List.perm_middle (l₁:=[dF b0 s',dF b1 [124],m8 b2 0]) (a:=Tz bo 4 w),.tuple [],6,.ready,none,rfl,rfl,(λh=>by cases h),?_⟩;dsimp only at hI ⊢;rw[<-hlen,List.take_length] at hI;subst hI;show gj prog _ _ _ _ _ _;refine dQ (C:=withD C (pw D::C.D)) hC hGL (an ?_);rw[show(withD C (pw D::C.D)).D=[pw D] from(by show pw D::C.D=_;rw[hD])];refine CV (i:=5) rfl (CU ?_);refine an ?_;exact⟨_,.cons _ (.cons _ (.cons _ (.cons _ (.cons_cons _ (Ug _))))),w,rfl,rfl⟩
 ·exact z.elim
theorem EN {G:Glo}(v:Int):ai prog G 53 [.int .i64 v] (.tuple [.list 1 (aF v).length (aB (aF v)),(eX v).A]):=by
 by_cases hv:v=3\/v=4
 ·have e1:aF v=Hd v:=by unfold aF Hd;rw[if_pos hv]
  have e2:eX v= .none:=by unfold eX;rw[if_pos hv]
  rw[e1,e2];exact n7 (λa=>.tuple [a,Err.none.A]) (CS _) (aB (Hd v)) (gt _) (cs:=bu (Hd v)) (eT:=none) ((Cn hv).mono λr H ⟨va,h1,h2⟩=>⟨_,va,h1,h2⟩)
 ·have e1:aF v=[]:=by unfold aF;rw[if_neg hv]
  have e2:eX v= .errno 1:=by unfold eX;rw[if_neg hv]
  rw[e1,e2];refine dB (H:=[]) (Qf:=λr H=>r= .ret (.tuple [.raw (.slice none 0 0),(Err.errno 1).A])/\H=[]) ?_ (λr H h=>by
   obtain⟨rfl,rfl⟩:=h;rintro C R w e hm ⟨x,rfl,hx⟩;exact⟨R,hm,x,rfl,gL (Seal.le_refl R) hx λu hu=>by
    obtain rfl:=aq.1 (show bn R (.raw (.slice none 0 0)) u from hu);exact⟨⟨none,0,rfl,Nat.le_refl _,.inl rfl⟩,rfl⟩⟩)
  refine aw func53 call53 λC hC hGL=> ?_;refine xw ?_;repeat' first|exact .n|apply Lc.mk
  all_goals intros
  all_goals first
   |(exfalso;omega)
   |(apply aj;rfl)
end
section
noncomputable abbrev bQ (m:Int):List (Nat×List AVal):=[(2,[.int .i64 m])]
theorem o7 {G:Glo}{m:Int}(hU:ab G (bQ m)){R:Seal}{w:World}(hG:G.p R)(hs:fh R w):w.cell? ⟨2,0,none⟩=some (.int .i64 m):=by
 obtain⟨v,hc,hr⟩:=dR.cell hs (hU 2 [.int .i64 m] rfl R hG) (i:=0) rfl;have hr:[v]=[Value.int .i64 m]:=hr;rw[(List.cons.inj hr).1] at hc;exact hc
def fF (G:Glo):Prop:=∀R,G.p R->∃e fz,R 10=some (.cells (Lib.pow10Tab.map λz=>Value.int .u64 z).toArray e fz)
end
section
def bW (c:UInt8):ω->List ω
 |[]=>[[]]
 |x::t=>if x=c then[]::bW c t else match bW c t with
  |[]=>[[x]]
  |p::ps=>(x::p)::ps
theorem pO (c:UInt8):∀s:ω,bW c s≠[]
 |[]=>by simp[bW]
 |x::t=>by
  unfold bW;split
  ·simp
  ·split<;>simp
theorem IR (c:UInt8):Lib.index [] [c]= -1:=rfl
theorem IS {x c:UInt8}{t:ω}(h:x=c):Lib.index (x::t) [c]=0:=by
 subst h
 simp[Lib.index,List.isPrefixOf]
theorem FW {x c:UInt8}{t:ω}(h:x≠c):Lib.index (x::t) [c]=if Lib.index t [c]== -1 then-1 else Lib.index t [c]+1:=by
 have:(c==x)=false:=by simpa using Ne.symm h
 simp[Lib.index,List.isPrefixOf,this]
theorem nE {sep s:ω}{k i:Nat}(h:Lib.index s sep=i):Lib.splitK sep 0 (k+1) s=s.take i::Lib.splitK sep 0 k (s.drop (i+sep.length)):=by
 have hm:¬(Lib.index s sep== -1)=true:=λe=>by have:=beq_iff_eq.1 e;omega
 rw[Lib.splitK,if_neg hm,h];simp
theorem nD (c:UInt8):∀s:ω,Lib.splitK [c] 0 (Lib.count s [c]) s=bW c s
 |[]=>by rw[Lib.count_miss (IR c)];rfl
 |x::t=>by
  have ih:=nD c t;by_cases hx:x=c
  ·have h0:Lib.index (x::t) [c]=(0:Nat):=IS hx;rw[Lib.count_hit (by simp) h0,Nat.add_comm,nE h0];simp only[aaa,j_,E_,Nat.zero_add,aab,aa_];rw[ih,bW,if_pos hx]
  ·have h1:=FW (t:=t) hx;rcases Lib.index_spec t [c] with⟨h2,_⟩|⟨i,h2,_⟩
   ·rw[h2] at h1;have h1:Lib.index (x::t) [c]= -1:=by simpa using h1
    rw[Lib.count_miss h2] at ih;rw[Lib.count_miss h1,bW,if_neg hx,<-ih];rfl
   ·have hne:¬((i:Int)== -1)=true:=λe=>by have:=beq_iff_eq.1 e;omega
    rw[h2,if_neg hne] at h1;have h1:Lib.index (x::t) [c]=((i+1:Nat):Int):=by rw[h1];omega
    rw[Lib.count_hit (by simp) h2,Nat.add_comm,nE h2] at ih;rw[Lib.count_hit (by simp) h1,Nat.add_comm,nE h1,bW,if_neg hx,<-ih];rfl
theorem pi {P:Program}{G:Glo}{f:FuncId}{avs:List AVal}{H:Heap}{sz m:Nat}{cs:List AVal}{T:TypeId}(hc:∀args w,(callFunc f args).run P w= .ok (.enter f args) w)
  (hlen:cs.length=m*sz)
  (h:∀C R args,dy R avs args.toList->∀w,G.p R->MS C R H w->Calls P f args w λe w'=>∃(w1:World) (Cs:Array Value),Below w.heap.size w w1/\e= .returned (.slice (some ⟨w1.heap.size,0,none⟩) m m)/\w'=w1.alloc (.cells Cs T)/\Cs.size=m*sz/\∀R,cb R cs Cs.toList):
  ad P G f avs H (λr H'=>∃b,r= .ret (.own H.length (.slice (some ⟨b,0,none⟩) m m))/\H'=H++[.row (.slice (some ⟨b,0,none⟩) m m) (some T) sz m cs]):=by
 intro R w args hG hm ha;refine .inl ⟨hc args w,(h _ R args ha w hG hm).mono ?_⟩;rintro e w' ⟨w1,Cs,hb,rfl,rfl,hsz,hr⟩;have hm1:=hm.below hb;have hm2:=hm1.alloc (.cells Cs T) (.row (.slice (some ⟨w1.heap.size,0,none⟩) m m) (some T) sz m cs) rfl ?_
 ·exact⟨_,_,R,⟨w1.heap.size,rfl,rfl⟩,⟨_,rfl,aE.2 ⟨rfl,rfl⟩⟩,hm2.perm (List.perm_append_singleton _ _).symm⟩
 ·refine⟨hlen,.inr ⟨w1.heap.size,m,Cs,T,(0,0),rfl,gn _ _,hsz,Nat.le_refl _,?_,.inl (Nat.le_refl _),λt ht=>Option.some.inj ht⟩⟩;have:=hr R;have hl:=aJ this;rwa [u_ a_]
theorem tH (R:Seal):∀l:List ω,cb R (bu l) (l.map λs=>Value.string ⟨s.toArray⟩)
 |[]=>rfl
 |_::l=>⟨_,_,rfl,rfl,tH R l⟩
theorem L6 {G:Glo}{m:Int}(hU:ab G (bQ m))(H:Heap)(s:ω)(c:UInt8)(hl:s.length<100000):
  ad prog G 142 [.str s,.str [c]] H (λr H'=>∃b,r= .ret (.own H.length (.slice (some ⟨b,0,none⟩) (bW c s).length (bW c s).length))/\H'=H++[.row (.slice (some ⟨b,0,none⟩) (bW c s).length (bW c s).length) (some 9) 1 (bW c s).length (bu (bW c s))]):=by
 refine pi call142 (by rw[Az,Nat.mul_one]) ?_
 rintro C R args ⟨x,t,e,hx,y,t',e',hy,rfl⟩ w hG hm;obtain rfl:=aD.1 hx;obtain rfl:=aD.1 hy;subst e';obtain rfl:=fR e;refine(strings_Split ⟨s.toArray⟩ ⟨#[c]⟩ m w (by rw[bM];omega) (o7 hU hG hm.sealed) (Nat.le_refl 1)).mono ?_;rintro e w' ⟨rfl,rfl⟩;have hd:=Lib.splitB_data ⟨#[c]⟩ 0 (Lib.countB ⟨s.toArray⟩ ⟨#[c]⟩) ⟨s.toArray⟩;have hd:(Lib.splitB ⟨#[c]⟩ 0 (Lib.countB ⟨s.toArray⟩ ⟨#[c]⟩) ⟨s.toArray⟩).map (·.data.toList)=bW c s:=hd.trans (nD c s);have hn:(bW c s).length=Lib.countB ⟨s.toArray⟩ ⟨#[c]⟩+1:=by
  have h1:=Lib.splitB_all ⟨#[c]⟩ (Nat.le_refl 1) 0 _ ⟨s.toArray⟩ rfl
  rw[<-hd,C_,h1]
 rw[hn]
 have hm2:(Lib.splitB ⟨#[c]⟩ 0 (Lib.countB ⟨s.toArray⟩ ⟨#[c]⟩) ⟨s.toArray⟩).map Value.string=(bW c s).map λs=>Value.string ⟨s.toArray⟩:=by
  rw[<-hd,List.map_map]
  refine List.map_congr_left λx _=> ?_
  simp
 refine⟨w,_,Below.refl _ _,rfl,rfl,?_,λR=> ?_⟩
 ·rw[hm2];simp[hn]
 ·rw[hm2]
  exact tH R _
theorem wV {G:Glo}{m:Int}(hU:ab G (bQ m))(s:ω)(c:UInt8)(hl:s.length<100000):
  ai prog G 142 [.str s,.str [c]] (.list 1 (bW c s).length (aB (bW c s))):=
 n7 (λa=>a) PX (aB (bW c s)) (gt _) ((L6 hU [] s c hl).mono λ_ _ ⟨_,h1,h2⟩=>⟨_,_,h1,h2⟩)
end
section
def qw (G:Glo):Prop:=∀R,G.p R->∃e fz,R 3=some (.cells (Lib.asciiSpaceTab.map λz=>Value.int .u8 z).toArray e fz)
theorem V6 {G:Glo}(hS:qw G){R:Seal}{w:World}(hG:G.p R)(hs:fh R w):Lib.TabIs prog w "strings.asciiSpace" .u8 Lib.asciiSpaceTab:=by
 obtain⟨e,fz,h⟩:=hS R hG
 have hb:=hs _ _ h
 unfold Lib.TabIs World.var?
 rw[show prog.globalNamed "strings.asciiSpace" =some 3 by kernel_rfl]
 simp[hb]
theorem RV:∀d:Fin 10,Lib.atoiAll [UInt8.ofNat (48+d.val)]= .ok (d.val:Int):=by decide
attribute [local irreducible] bJ au aa ax aR ab ad
theorem s5 {G:Glo}(d:Int)(h0:0<=d)(h1:d<10):ai prog G 118 [.str [lZ d]] (.tuple [.int .i64 d,.raw .nilIface]):=by
 have ha:=RV ⟨d.toNat,a_⟩
 have ed:((d.toNat:Nat):Int)=d:=by omega
 simp only[ed] at ha;refine iC (.tuple #[.int .i64 d,.nilIface]) (λR=>nc (ap.2 rfl) (aq.2 rfl)) call118 ?_;intro R args hr w _ _;obtain⟨x,t,e',hx,rfl⟩:=hr;obtain rfl:=aD.1 hx;obtain rfl:=fR e';refine(strconv_Atoi_ok ⟨[lZ d].toArray⟩ (by rw[bM];show 1<=9223372036854775806;omega) _ (by unfold lZ;simpa using ha) w).mono ?_;rintro e w' ⟨rfl,hw⟩;refine⟨rfl,?_⟩;rcases hw with rfl|⟨t,rfl⟩
 ·exact Below.refl _ _
 ·exact⟨rfl,rfl,rfl,by rw[Lib.bytesWorld_size];omega,λk hk=>Lib.bytesWorld_at_old _ _ _ _ hk⟩
theorem Ja {G:Glo}(hS:qw G)(H:Heap)(s:ω)(hl:s.length<100000)(ha:∀(j:Nat) (b:UInt8),s[j]? =some b->b.toNat<128):
  ad prog G 117 [.str s] H (λr H'=>∃b,r= .ret (.own H.length (.slice (some ⟨b,0,none⟩) (Lib.fields s).length (Lib.fields s).length))/\H'=H++[.row (.slice (some ⟨b,0,none⟩) (Lib.fields s).length (Lib.fields s).length) (some 9) 1 (Lib.fields s).length (bu (Lib.fields s))]):=by
 refine pi call117 (by rw[Az,Nat.mul_one]) ?_;rintro C R args ⟨x,t,e,hx,rfl⟩ w hG hm;obtain rfl:=aD.1 hx;obtain rfl:=fR e;refine(strings_Fields ⟨s.toArray⟩ w (by rw[bM];omega) (λj b hb=>ha j b (by simpa using hb)) (V6 hS hG hm.sealed)).mono ?_;rintro e w' ⟨rfl,rfl⟩;refine⟨w,_,Below.refl _ _,rfl,rfl,?_,λR=> ?_⟩
 ·simp
 ·have:=tH R (Lib.fields s);simpa using this
theorem Gl {G:Glo}(hS:qw G)(s:ω)(hl:s.length<100000)(ha:∀(j:Nat) (b:UInt8),s[j]? =some b->b.toNat<128):ai prog G 117 [.str s] (.list 1 (Lib.fields s).length (aB (Lib.fields s))):=
 n7 (λa=>a) PX (aB (Lib.fields s)) (gt _) ((Ja hS [] s hl ha).mono λ_ _ ⟨_,h1,h2⟩=>⟨_,_,h1,h2⟩)
end
section
abbrev AF (b:Nat)(r:Rl):HEnt:=.cells b (some 110) [.int .i64 r.t,.int .i64 r.a,.int .i64 r.b,.int .i64 r.p]
abbrev ZX (b:Nat)(t a u p:Int):HEnt:=.cells b (some 197) [.int .i64 t,.int .i64 a,.int .i64 u,.int .i64 p]
abbrev Bv (b:Nat):HEnt:=.cells b (some 29) [.raw .nilIface]
theorem Mj {s:ω}(h:(s.all λc=>decide (c.toNat<128))=true):∀(j:Nat) (b:UInt8),s[j]? =some b->b.toNat<128:=λj b hb=>by
 have:=List.all_eq_true.1 h b (q_ hb);simpa using this
theorem Br {s:ω}:∀{l:List (ω×Rl)} {k:Nat} (hk:k<l.length),(∀j (hj:j<l.length),j<k->l[j].1≠s)->l[k].1=s->gD s l=l[k].2
 |x::t,0,hk,_,h=>by
  have h:x.1=s:=h;simp only[gD,if_pos h];rfl
 |x::t,k+1,hk,h0,h=>by
  have h1:=h0 0 (by simp) (Nat.succ_pos k);have h1:x.1≠s:=h1;have ih:=Br (s:=s) (l:=t) (k:=k) (by simpa using hk) (λj hj hjk=>by
   have:=h0 (j+1) (by simpa using hj) a_;simpa using this) (by simpa using h)
  simp only[gD,if_neg h1,ih];rfl
theorem Gh {s:ω}:∀{l:List (ω×Rl)},(∀j (hj:j<l.length),l[j].1≠s)->gD s l=⟨8,0,0,0⟩
 |[],_=>rfl
 |x::t,h0=>by
  have h1:x.1≠s:=h0 0 (by simp);have ih:=Gh (s:=s) (l:=t) (λj hj=>by
   have:=h0 (j+1) (by simpa using hj);simpa using this)
  simp only[gD,if_neg h1,ih]
attribute [local irreducible] bJ au aa ax aR ab ad jG ov gj VO To jl da Hd am
theorem Mi {G:Glo}(hS:qw G){v:Int}(hv:v=3\/v=4)(s:ω)(hl:s.length<=2000000):ai prog G 55 [.str s,.int .i64 v] (.tuple [(gD (am 97 122 (-32) s) (da v)).A,.raw .nilIface]):=by
 have hGL:ab G []:=al;have hT:=uI (G:=G) hv;have hSq:=m7 (G:=G) (L3 v) 124;have hU:=jV (G:=G) s a_;have hcu:=call28;have hlr:(jl v).length=(da v).length:=by unfold jl;rw[C_]
 have h36:=(r8 hv).2;generalize hup:am 97 122 (-32) s=up at*
 refine Y2 (rs:=[.cell 4 110,.cell 5 29]) func55 call55 rfl rfl rfl rfl ?_;intro C hC hD;refine ci hC hGL (λx:Nat×Nat×Nat=>[(1,.int .i64 v),(2,.own 0 (ic x.1)),(4,.own 1 (ic x.2.1)),(5,.own 2 (ic x.2.2))]) (λx=>[dF x.1 s,AF x.2.1 Rl.z,Bv x.2.2]) (λ_=>True) ?_ ?_
 ·refine Sg ?_;intro b2 b4 b5;intros;exact cy (b2,b4,b5) trivial
 rintro⟨b2,b4,b5⟩-
 dsimp only
 refine ci hC hGL (λ_:Unit=>[(1,.int .i64 v),(2,.own 0 (ic b2)),(4,.own 1 (ic b4)),(5,.own 2 (ic b5))]) (λ_=>[dF b2 s,AF b4 Rl.z,Bv b5]) (λ_=>True) ?_ λ_ _=> ?_
 ·refine xn ?_;repeat' first|exact .n|apply Lc.mk
  all_goals intros
  all_goals first
   |exact cy () trivial
   |(exfalso;omega)
 refine fq (ci hC hGL (λx:Nat×Nat×Nat=>[(1,.int .i64 v),(2,.own 0 (ic b2)),(4,.own 1 (ic b4)),(5,.own 2 (ic b5)),(20,.func (.func 207) [] [.own 4 (ic x.2.1),.own 3 (ic x.1),.own 5 (ic x.2.2)])]) (λx=>[dF b2 s,AF b4 Rl.z,Bv b5,dF x.1 (L3 v),dF x.2.1 [124],m8 x.2.2 0]) (λ_=>True) ?_ ?_)
 ·refine an ?_;refine Jo (λx:Nat×Nat×Nat=>.func (.func 207) [] [.own 4 (ic x.2.1),.own 3 (ic x.1),.own 5 (ic x.2.2)]) hSq (λ_ _ _ h=>h) ?_;rintro⟨b0,b1,b3⟩;refine an ?_;exact cy (b0,b1,b3) trivial
 rintro⟨b0,b1,b3⟩-
 dsimp only
 refine BL ?_;refine BK rfl call207 [(1,.int .i64 v),(2,.own 0 (ic b2)),(4,.own 1 (ic b4)),(5,.own 2 (ic b5))] ae rfl ?_;intro L D r hp ha hb hfs;rw[hC];have hy:∀(k:Nat) (s':ω) (y:Unit),k<(jl v).length->(∀j (hj:j<(da v).length),j<k->(da v)[j].1≠up)->ov prog G L [.str ((jl v).getD k [])] (dF b0 s'::dF b1 [124]::m8 b3 0::[dF b2 s,AF b4 Rl.z,Bv b5,jT D,gy L r .ready none])
   (λb H'=>(b=true/\∃_:Unit,(∀j (hj:j<(da v).length),j<k+1->(da v)[j].1≠up)/\H'=dF b0 s'::dF b1 [124]::m8 b3 0::[dF b2 s,AF b4 Rl.z,Bv b5,jT D,gy L r .ready none])\/
    (b=false/\∃T:Heap,H'=dF b0 s'::dF b1 [124]::m8 b3 0::(dF b2 s::AF b4 (gD up (da v))::Bv b5::jT D::gy L r .done (some .ret)::T))):=by
  intro k s' y hk hI;have hk':k<(da v).length:=by omega
  have hro:=HX hv hk';simp only[AE,l_,n_] at hro;have hF:=Gl hS ((jl v).getD k []) (by rw[nC hk'];omega) (by rw[nC hk'];exact Mj hro.1.1.1.2);rw[nC hk',hro.1.2] at hF;have hdg:=hro.2;have a1:=s5 (G:=G) (da v)[k].2.t hdg.1 hdg.2.1;have a2:=s5 (G:=G) (da v)[k].2.a hdg.2.2.1 hdg.2.2.2.1;have a3:=s5 (G:=G) (da v)[k].2.b hdg.2.2.2.2.1 hdg.2.2.2.2.2.1;have a4:=s5 (G:=G) (da v)[k].2.p hdg.2.2.2.2.2.2.1 hdg.2.2.2.2.2.2.2;have hfind:(da v)[k].1=up->gD up (da v)=(da v)[k].2:=λh=>Br hk' hI h;have hnext:(da v)[k].1≠up->∀j (hj:j<(da v).length),j<k+1->(da v)[j].1≠up:=λh j hj hjk=>by
   by_cases e:j=k
   ·subst e;exact h
   ·exact hI j hj a_
  rw[nC hk'];generalize (da v)[k]=row at*
  obtain⟨nm,t,a,b,p⟩:=row;dsimp only at*
  have hperm:∀(x:HEnt) (rr:Rl) (T:Heap),(dF b2 s::AF b4 rr::Bv b5::dF b0 s'::dF b1 [124]::m8 b3 0::T).Perm (dF b0 s'::dF b1 [124]::m8 b3 0::dF b2 s::AF b4 rr::Bv b5::T):=λ_ rr T=>
   (Mp (l₁:=[dF b2 s,AF b4 rr,Bv b5]) (l₂:=[dF b0 s',dF b1 [124],m8 b3 0])).append_right T
  refine BR (N0 (H1:=[dF b2 s,AF b4 Rl.z,Bv b5,dF b0 s',dF b1 [124],m8 b3 0,jT D,gy L r .ready none]) (hperm (jT D) _ _)
   (NZ (i:=7) (p:=21) (Qf:=λbb H'=>(bb=true/\nm≠up/\H'=[dF b2 s,AF b4 Rl.z,Bv b5,dF b0 s',dF b1 [124],m8 b3 0,jT D,gy L r .ready none])\/(bb=false/\nm=up/\∃T,H'=[dF b2 s,AF b4 ⟨t,a,b,p⟩,Bv b5,dF b0 s',dF b1 [124],m8 b3 0,jT D,gy L r .done (some .ret)]++T)) rfl hp be hfs ?_)) ?_
  ·intro C2 hC2 hD2;rw[ha];refine io hC2 hGL (an ?_);refine⟨rfl,7,rfl,?_⟩;rw[hb];refine ux (DB hC2 hGL (λ_:Unit=>[(1,.int .i64 v),(2,.own 0 (ic b2)),(4,.own 1 (ic b4)),(5,.own 2 (ic b5)),(7,.list 1 5 (aB [nm,[lZ t],[lZ a],[lZ b],[lZ p]]))]) (λ_=>[dF b2 s,AF b4 Rl.z,Bv b5,dF b0 s',dF b1 [124],m8 b3 0,jT D,gy L r .busy none]) (λ_=>True) ?_ λ_ _=> ?_)
   ·refine an ?_;intros;exact cy () trivial
   refine wg (UJ mixed hC2 hGL be ?_);refine an ?_;refine cq hcu hU rfl ?_;refine an ?_;refine GX rfl (λh=> ?_) (λh=> ?_)
   ·have hnu:nm=up:=ce.1 h;refine DB hC2 hGL (λb8:Nat=>[(4,.own 1 (ic b4)),(5,.own 2 (ic b5)),(7,.list 1 5 (aB [nm,[lZ t],[lZ a],[lZ b],[lZ p]])),(8,.own 8 (ic b8))]) (λb8=>[dF b2 s,AF b4 Rl.z,Bv b5,dF b0 s',dF b1 [124],m8 b3 0,jT D,gy L r .busy none,ZX b8 0 0 0 0]) (λ_=>True) ?_ λb8 _=> ?_
    ·refine an ?_;intro b8;intros;exact cy b8 trivial
    refine wg (DB hC2 hGL (λ_:Unit=>[(4,.own 1 (ic b4)),(5,.own 2 (ic b5)),(7,.list 1 5 (aB [nm,[lZ t],[lZ a],[lZ b],[lZ p]])),(8,.own 8 (ic b8)),(30,.int .i64 0)]) (λ_=>[dF b2 s,AF b4 Rl.z,Bv b5,dF b0 s',dF b1 [124],m8 b3 0,jT D,gy L r .busy none,ZX b8 0 0 0 0]) (λ_=>True) ?_ λ_ _=> ?_)
    ·refine an ?_;exact cy () trivial
    refine ux (JI 5 (ZK (io hC2 hGL (an ?_))));intro _;refine io hC2 hGL (an ?_);intro _;refine io hC2 hGL (an ?_);intro _;refine io hC2 hGL (an ?_);intro _;refine io hC2 hGL (an ?_);intro _;refine⟨λ_=> ?_,λh=>absurd rfl h⟩;refine io hC2 hGL (an ?_);exact⟨7,rfl,.inr ⟨rfl,hnu,[ZX b8 t a b p],rfl⟩⟩
   ·refine io hC2 hGL (an ?_);refine⟨7,rfl,.inl ⟨rfl,λe=> ?_,rfl⟩⟩;have h:aW nm up=false:=h;rw[ce.2 e] at h;cases h
  ·rintro b' H' (⟨rfl,hne,rfl⟩|⟨rfl,hnu,T,rfl⟩)
   ·exact⟨_,hperm (jT D) _ _,.inl ⟨rfl,(),hnext hne,rfl⟩⟩
   ·rw[hfind hnu];exact⟨_,hperm (jT D) _ _,.inr ⟨rfl,T,rfl⟩⟩
 have run:=qD (G:=G) L b0 b1 b3 124 (jl v) a_ (OI hv) (J3 hv) (Y:=Unit) (Z:=Heap) (λ_=>[dF b2 s,AF b4 Rl.z,Bv b5,jT D,gy L r .ready none]) (λT=>dF b2 s::AF b4 (gD up (da v))::Bv b5::jT D::gy L r .done (some .ret)::T) (λk _=>∀j (hj:j<(da v).length),j<k->(da v)[j].1≠up) () (λj hj h=>absurd h (Uf _)) hy;have hperm:∀(s':ω) (rr:Rl) (T:Heap),(dF b0 s'::dF b1 [124]::m8 b3 0::dF b2 s::AF b4 rr::Bv b5::T).Perm (dF b2 s::AF b4 rr::Bv b5::dF b0 s'::dF b1 [124]::m8 b3 0::T):=λs' rr T=>
  (Mp (l₁:=[dF b0 s',dF b1 [124],m8 b3 0]) (l₂:=[dF b2 s,AF b4 rr,Bv b5])).append_right T
 refine iE (iD (hperm _ _ _) (Dh run λ_ _ h=>h)) ?_;rintro res H' ⟨rfl,s',⟨y,hI,rfl⟩|⟨T,rfl⟩⟩
 ·refine⟨_,hperm _ _ _,.tuple [],7,.ready,none,rfl,rfl,(λh=>by cases h),?_⟩;rw[Gh λj hj=>hI j hj a_];show gj prog _ _ _ _ _ _;refine dQ (C:=withD C (pw D::C.D)) hC hGL (an ?_);rw[show(withD C (pw D::C.D)).D=[pw D] from(by show pw D::C.D=_;rw[hD])];refine CV (i:=6) rfl (CU ?_);exact eK
 ·refine⟨_,hperm _ _ _,.tuple [],7,.done,some .ret,rfl,rfl,(λh=>by cases h),?_⟩;show VO _ _ _ _ _ (pw D::C.D) _ _ _;rw[hD];refine CV (i:=6) rfl (CU ?_);exact eK
theorem rZ {G:Glo}(hS:qw G)(v:Int)(s:ω)(hl:s.length<=2000000):ai prog G 55 [.str s,.int .i64 v] (.tuple [(cC v s).A,(eX v).A]):=by
 by_cases hv:v=3\/v=4
 ·have e1:cC v s=gD (am 97 122 (-32) s) (da v):=by unfold cC;rw[if_pos hv]
  have e2:eX v= .none:=by unfold eX;rw[if_pos hv]
  rw[e1,e2];exact Mi hS hv s hl
 ·have e1:cC v s=Rl.z:=by unfold cC;rw[if_neg hv]
  have e2:eX v= .errno 1:=by unfold eX;rw[if_neg hv]
  rw[e1,e2];refine aw func55 call55 λC hC hGL=> ?_;refine xb ?_;repeat' first|exact .n|apply Lc.mk
  all_goals intros
  all_goals intros
  all_goals first
   |(exfalso;omega)
   |(apply aj;rfl)
end
section
theorem XV {P:Program}{C:Ctx}{n:Nat}{c:Code}{env env':Env}{H H':Heap}{Q:aL->Env->Heap->Prop}(hto:To C n env H env' H')(h:bJ P C n c env' H' Q):bJ P C n c env H Q:=λR a w hm hf=>by
 obtain⟨R',hle,hm',hf'⟩:=hto R a w hm hf;exact h R' a w hm' hf'
def rlL (r:Rl):AVal:=.list 1 4 (dH [(0,.int .i64 r.t),(1,.int .i64 r.a),(2,.int .i64 r.b),(3,.int .i64 r.p)])
def MH:Option Rl->AVal
 |none=>.raw (.slice none 0 0)
 |some r=>rlL r
def lQ (i:Nat):Kn:=Sm.getD i ⟨[],none,none⟩
def II (i:Nat):AVal:=.agg [.str (lQ i).n,MH (lQ i).o,MH (lQ i).w]
def WY:List (Nat×AVal):=(List.range 36).map λi=>(i,II i)
theorem WZ {i:Nat}(h:i<36):dH WY i=II i:=by
 unfold dH WY;rw[List.getElem?_map,List.getElem?_range h]
 rfl
theorem FG {R:Seal}{sz n:Nat}{f g:Nat->AVal}{u:Value}(h:∀i,i<n->f i=g i):bn R (.list sz n f) u->bn R (.list sz n g) u:=by
 rintro⟨⟨a,cap,e,hle,y⟩,h2⟩;refine⟨⟨a,cap,e,hle,?_⟩,h2⟩;rcases y with y|⟨b,o,C,el,fz,ha,hR,hi⟩
 ·exact .inl y
 ·exact .inr ⟨b,o,C,el,fz,ha,hR,λi hn=>by rw[<-h i hn];exact hi i hn⟩
def Yu (c:UInt8):Bool:=decide ((65<=c.toNat/\c.toNat<=90)\/c.toNat=45)
theorem WX:(Sm.all λk=>k.n.all Yu)=true:=by decide+kernel
theorem M2 {c d:UInt8}(hc:Yu c=true):UInt8.ofNat (eo 65 90 32 c.toNat).toNat=UInt8.ofNat (eo 65 90 32 d.toNat).toNat↔c=UInt8.ofNat (eo 97 122 (-32) d.toNat).toNat:=by
 have hc:(65<=c.toNat/\c.toNat<=90)\/c.toNat=45:=by simpa[Yu] using hc
 have h1:=c.toNat_lt;have h2:=d.toNat_lt;rw[<-UInt8.toNat_inj,<-UInt8.toNat_inj,UInt8.toNat_ofNat',UInt8.toNat_ofNat',UInt8.toNat_ofNat'];unfold eo
 (repeat' split)<;>omega
theorem Bn:∀{n s:ω},n.all Yu=true->(am 65 90 32 n=am 65 90 32 s↔n=am 97 122 (-32) s)
 |[],[],_=>by simp[am]
 |[],d::s,_=>by simp[am]
 |c::n,[],_=>by simp[am]
 |c::n,d::s,h=>by
  rw[List.all_cons,l_] at h;have ih:=Bn (n:=n) (s:=s) h.2;have hb:=M2 (d:=d) h.1;unfold am at ih ⊢;simp only[S_,o_];rw[ih,hb]
theorem TR (i:Nat):(lQ i).n.all Yu=true:=by
 unfold lQ;by_cases h:i<Sm.length
 ·rw[f_,y_ h];exact List.all_eq_true.1 WX _ (K_ h)
 ·rw[f_,P_ a_];rfl
theorem Bt {v:Int}{up:ω}{r:Rl}:∀{l:List Kn} {k:Nat} (hk:k<l.length),(∀j (hj:j<l.length),j<k->(l[j].of v=none\/l[j].n≠up))->l[k].of v=some r->l[k].n=up->gD up (l.filterMap λk=>(k.of v).map λr=>(k.n,r))=r
 |x::t,0,hk,_,h1,h2=>by
  have h1:x.of v=some r:=h1;have h2:x.n=up:=h2;simp only[List.filterMap_cons,h1,aal,gD,if_pos h2]
 |x::t,k+1,hk,h0,h1,h2=>by
  have ih:=Bt (l:=t) (k:=k) (by simpa using hk) (λj hj hjk=>by
   have:=h0 (j+1) (by simpa using hj) a_;simpa using this) (by simpa using h1) (by simpa using h2)
  have h3:x.of v=none\/x.n≠up:=h0 0 (by simp) (Nat.succ_pos k);cases hx:x.of v with
  |none=>simp only[List.filterMap_cons,hx,Option.map_none,ih]
  |some r'=>
   rw[hx] at h3;have h3:x.n≠up:=by rcases h3 with h|h;cases h;exact h
   simp only[List.filterMap_cons,hx,aal,gD,if_neg h3,ih]
theorem Gj {v:Int}{up:ω}:∀{l:List Kn},(∀j (hj:j<l.length),(l[j].of v=none\/l[j].n≠up))->gD up (l.filterMap λk=>(k.of v).map λr=>(k.n,r))=⟨8,0,0,0⟩
 |[],_=>rfl
 |x::t,h0=>by
  have ih:=Gj (v:=v) (up:=up) (l:=t) (λj hj=>by
   have:=h0 (j+1) (by simpa using hj);simpa using this)
  have h3:x.of v=none\/x.n≠up:=h0 0 (by simp);cases hx:x.of v with
  |none=>simp only[List.filterMap_cons,hx,Option.map_none,ih]
  |some r'=>
   rw[hx] at h3;have h3:x.n≠up:=by rcases h3 with h|h;cases h;exact h
   simp only[List.filterMap_cons,hx,aal,gD,if_neg h3,ih]
theorem sr {i:Nat}(h:i<Sm.length):lQ i=Sm[i]:=by
 unfold lQ;rw[f_,y_ h];rfl
theorem my:Sm.length=36:=rfl
attribute [local irreducible] bJ au aa ax aR ab ad
theorem H7 {G:Glo}:ai prog G 83 [] (.list 3 36 (dH WY)):=by
 refine aw func83 call83 λC hC hGL=> ?_;exact bq
theorem AH {G:Glo}:ai prog G 83 [] (.list 3 36 II):=
 dB H7 λr H h=>by
  obtain⟨rfl,rfl⟩:=h;rintro C R w e hm ⟨x,rfl,hx⟩;exact⟨R,hm,x,rfl,FG (λi h=>WZ h) hx⟩
theorem gw {G:Glo}(s t:ω)(hl:s.length<=9223372036854775807)(hm:t.length<=9223372036854775807):ai prog G 11 [.str s,.str t] (.bool (aW (am 65 90 32 s) (am 65 90 32 t))):=by
 have h1:=pX (G:=G) s hl;have h2:=pX (G:=G) t hm;refine aw func11 call11 λC hC hGL=> ?_;exact bq
end
section
abbrev Vn (b:Nat)(r:Rl):HEnt:=.cells b (some 110) [.int .i64 r.t,.int .i64 r.a,.int .i64 r.b,.int .i64 r.p]
abbrev Vo (b:Nat):Value:=.pointer (some ⟨b,0,none⟩)
attribute [local irreducible] bJ au aa ax aR ab ad am lQ Sm da To
theorem Ms {G:Glo}{v:Int}(hv:v=3\/v=4)(s:ω)(hl:s.length<=2000000):ai prog G 41 [.str s,.int .i64 v] (.tuple [(gD (am 97 122 (-32) s) (da v)).A,.int .i64 0]):=by
 have hGL:ab G []:=al;have hK:=AH (G:=G);generalize hup:am 97 122 (-32) s=up at*
 have hsame:∀k,k<36->ai prog G 11 [.str (lQ k).n,.str s] (.bool (aW (lQ k).n up)):=λk hk=>by
  have h:=gw (G:=G) (lQ k).n s (by
   have:∀j,j<36->(lQ j).n.length<=100:=by decide+kernel
   have:=this k hk;omega) a_
  have e:aW (am 65 90 32 (lQ k).n) (am 65 90 32 s)=aW (lQ k).n up:=by
   rw[w_,ce,ce,Bn (TR k),hup]
  rwa [e] at h
 refine I5 func41 call41 rfl rfl rfl rfl ?_;intro C hC;refine gr hC hGL (λb4:Nat=>[(0,.str s),(1,.int .i64 v),(4,.own 0 (Vo b4))]) (λb4=>[Vn b4 Rl.z]) (λ_=>True) ?_ λb4 _=> ?_
 ·refine Sg ?_;intro b4;intros;exact cy b4 trivial
 refine cut hC hGL [(0,.str s),(1,.int .i64 v),(4,.own 0 (Vo b4))] [Vn b4 Rl.z] True ?_ λ_=> ?_
 ·refine xn ?_;repeat' first|exact .n|apply Lc.mk
  all_goals intros
  all_goals first
   |exact Ct.w
   |(exfalso;omega)
 refine j7 (cut hC hGL [(0,.str s),(1,.int .i64 v),(4,.own 0 (Vo b4)),(16,.list 3 36 II),(17,.int .i64 (36:Nat)),(18,.int .i64 (0:Nat))] [Vn b4 Rl.z] True eK λ_=> ?_);refine mf (pC (X:=Nat) (λk=>[(0,.str s),(1,.int .i64 v),(4,.own 0 (Vo b4)),(16,.list 3 36 II),(17,.int .i64 (36:Nat)),(18,.int .i64 (k:Nat))]) (λ_=>[Vn b4 Rl.z]) (λk=>k<=36/\∀j,j<k->((lQ j).of v=none\/(lQ j).n≠up)) (λk=>36-k) 0 ⟨Nat.zero_le _,λj h=>absurd h (Uf _)⟩ ae (At _) ?_);rintro k ⟨hk,hI⟩;have hk:k<=36:=hk;by_cases hlt:k<36
 ·have hs1:=hsame k hlt;refine cut hC hGL [(0,.str s),(1,.int .i64 v),(4,.own 0 (Vo b4)),(16,.list 3 36 II),(17,.int .i64 (36:Nat)),(18,.int .i64 (k:Nat)),(19,.bool (nT (k:Int) (36:Nat)))] [Vn b4 Rl.z] True eK λ_=> ?_;refine cut hC hGL [(0,.str s),(1,.int .i64 v),(4,.own 0 (Vo b4)),(16,.list 3 36 II),(17,.int .i64 (36:Nat)),(18,.int .i64 (k:Nat))] [Vn b4 Rl.z] True ?_ λ_=> ?_
  ·refine xn ?_;repeat' first|exact .n|apply Lc.mk
   all_goals intros
   all_goals first
    |(intros;exact Ct.w)
    |(intros;exfalso;omega)
  rcases hkn:lQ k with⟨n,o,w⟩
  have hkF:II k= .agg [.str n,MH o,MH w]:=by unfold II;rw[hkn]
  rw[hkn] at hs1;dsimp only at hs1;have hnx:((lQ k).of v=none\/n≠up)->∀j,j<k+1->((lQ j).of v=none\/(lQ j).n≠up):=λh j hj=>by
   by_cases e:j=k
   ·subst e;rw[hkn] at h ⊢;exact h
   ·exact hI j a_
  rw[hkn] at hnx;have hfound:∀r,(⟨n,o,w⟩:Kn).of v=some r->n=up->gD up (da v)=r:=λr h1 h2=>by
   have e:=sr (i:=k) (by rw[my];exact hlt);rw[hkn] at e;unfold da;exact Bt (k:=k) (by rw[my];exact hlt) (λj hj hjk=>by have:=hI j hjk;rwa [sr hj] at this) (by rw[<-e];exact h1) (by rw[<-e];exact h2)
  rcases hv with rfl|rfl
  ·rcases o with _|o<;>rcases w with _|w
   all_goals
    refine ar hC hGL ?_
    (conv=>whnf)
    refine Ix.w ?_;rw[hkF];refine xn ?_;repeat' first|exact .n|apply Lc.mk
    all_goals intros
    all_goals intros
    all_goals try exact⟨k+1,⟨by show k+1<=36;omega,hnx (.inl rfl)⟩,by show 36-(k+1)<36-k;omega,ae,aA⟩
    all_goals try exact⟨k+1,⟨by show k+1<=36;omega,hnx (.inr (by assumption))⟩,by show 36-(k+1)<36-k;omega,ae,aA⟩
   all_goals
    have hfd:=hfound o rfl (by assumption);refine aY hC hGL (jR (m:=3) rfl rfl rfl) rfl rfl ?_;refine an ?_;refine a7 mixed hC hGL false (λ(_:HEnt)=>[(4,.own 0 (Vo b4)),(5,.int .i64 0)]) (λy=>[Vn b4 o,y]) .p15 be xu ?_;intro y;refine an ?_;rw[hfd];exact aj rfl
  ·rcases o with _|o<;>rcases w with _|w
   all_goals
    refine ar hC hGL ?_
    (conv=>whnf)
    refine Ix.w ?_;rw[hkF];refine xn ?_;repeat' first|exact .n|apply Lc.mk
    all_goals intros
    all_goals intros
    all_goals try exact⟨k+1,⟨by show k+1<=36;omega,hnx (.inl rfl)⟩,by show 36-(k+1)<36-k;omega,ae,aA⟩
    all_goals try exact⟨k+1,⟨by show k+1<=36;omega,hnx (.inr (by assumption))⟩,by show 36-(k+1)<36-k;omega,ae,aA⟩
   all_goals
    have hfd:=hfound w rfl (by assumption);refine aY hC hGL (jR (m:=3) rfl rfl rfl) rfl rfl ?_;refine an ?_;refine a7 mixed hC hGL false (λ(_:HEnt)=>[(4,.own 0 (Vo b4)),(5,.int .i64 0)]) (λy=>[Vn b4 w,y]) .p15 be xu ?_;intro y;refine an ?_;rw[hfd];exact aj rfl
 ·obtain rfl:k=36:=by omega
  have hno:gD up (da v)=⟨8,0,0,0⟩:=by
   unfold da;exact Gj λj hj=>by have:=hI j (by rw[my] at hj;exact hj);rwa [sr hj] at this
  refine ar hC hGL (an ?_);intro _;refine⟨λ_=> ?_,λh=>absurd rfl h⟩;refine ar hC hGL (an ?_);rw[hno];exact aj rfl
theorem sf {G:Glo}(v:Int)(s:ω)(hl:s.length<=2000000):ai prog G 41 [.str s,.int .i64 v] (.tuple [(cC v s).A,.int .i64 (eX v).e]):=by
 by_cases hv:v=3\/v=4
 ·have e1:cC v s=gD (am 97 122 (-32) s) (da v):=by unfold cC;rw[if_pos hv]
  have e2:eX v= .none:=by unfold eX;rw[if_pos hv]
  rw[e1,e2];exact Ms hv s hl
 ·have e1:cC v s=Rl.z:=by unfold cC;rw[if_neg hv]
  have e2:eX v= .errno 1:=by unfold eX;rw[if_neg hv]
  rw[e1,e2];refine aw func41 call41 λC hC hGL=> ?_;refine xb ?_;repeat' first|exact .n|apply Lc.mk
  all_goals intros
  all_goals intros
  all_goals first
   |(exfalso;omega)
   |(apply aj;rfl)
def vr (v:Int)(k:Nat):List ω:=(Sm.take k).filterMap λk=>(k.of v).map λ_=>k.n
theorem PN {v:Int}{k:Nat}(h:k<36):vr v (k+1)=vr v k++(((lQ k).of v).map λ_=>(lQ k).n).toList:=by
 unfold vr;rw[List.take_add_one,List.filterMap_append,sr (by rw[my];exact h),y_ (by rw[my];exact h)];refine congrArg _ ?_;simp only[Option.toList_some,List.filterMap_cons,List.filterMap_nil];cases hx:(Sm[k]'(by rw[my];exact h)).of v<;>simp
theorem Tx (v:Int)(k:Nat):(vr v k).length<=36:=by
 unfold vr;refine aai (List.length_filterMap_le _ _) ?_;rw[i_,my];omega
theorem Ty {v:Int}(hv:v=3\/v=4):vr v 36=aF v:=by
 have e:∀l:List Kn,(l.filterMap λk=>(k.of v).map λ_=>k.n)=(l.filterMap λk=>(k.of v).map λr=>(k.n,r)).map (·.1):=λl=>by
  induction l with
  |nil=>rfl
  |cons x t ih=>cases hx:x.of v<;>simp[List.filterMap_cons,hx,ih]
 unfold vr aF da;rw[if_pos hv,u_ (by rw[my];omega),e]
attribute [local irreducible] vr
theorem H9 {G:Glo}{v:Int}(hv:v=3\/v=4):ad prog G 38 [.int .i64 v] [] (λr H=>∃va,r= .ret (.tuple [.own 0 va,.int .i64 0])/\H=[.row va none 1 (aF v).length (bu (aF v))]):=by
  have hGL:ab G []:=al;have hK:=AH (G:=G);refine I5 func38 call38 rfl rfl rfl rfl ?_;intro C hC;refine cut hC hGL [(0,.int .i64 v)] [] True eK λ_=> ?_;refine cut hC hGL [(0,.int .i64 v)] [] True ?_ λ_=> ?_
  · refine xn ?_;repeat' first|exact .n|apply Lc.mk
    all_goals intros
    all_goals first
      |exact Ct.w
      |(exfalso;omega)
  refine cut hC hGL [(0,.int .i64 v),(4,.raw (.slice none 0 0))] [] True eK λ_=> ?_;refine j7 (cut hC hGL [(0,.int .i64 v),(4,.raw (.slice none 0 0)),(13,.list 3 36 II),(14,.int .i64 (36:Nat)),(15,.int .i64 (0:Nat))] [] True eK λ_=> ?_);refine XV (ak (ep 1) (Hz (k:=4) (i:=0) rfl rfl)) ?_;have e0:vr v 0=[]:=by unfold vr;rfl
  refine mf (pC (X:=Nat×Value) (λx=>[(0,.int .i64 v),(4,.own 0 x.2),(13,.list 3 36 II),(14,.int .i64 (36:Nat)),(15,.int .i64 (x.1:Nat))]) (λx=>[.row x.2 none 1 (vr v x.1).length (bu (vr v x.1))]) (λx=>x.1<=36) (λx=>36-x.1) (0,.slice none 0 0) (Nat.zero_le _) ae (by rw[e0];exact At _) ?_);rintro⟨k,y⟩ hk;have hk:k<=36:=hk;dsimp only
  by_cases hlt:k<36
  · have hln:=Tx v k;have hsc:=PN (v:=v) hlt;rcases hkn:lQ k with⟨n,o,w⟩
    have hkF:II k= .agg [.str n,MH o,MH w]:=by unfold II;rw[hkn]
    rw[hkn] at hsc;refine cut hC hGL [(0,.int .i64 v),(4,.own 0 y),(13,.list 3 36 II),(14,.int .i64 (36:Nat)),(15,.int .i64 (k:Nat)),(16,.bool (nT (k:Int) (36:Nat)))] [.row y none 1 (vr v k).length (bu (vr v k))] True eK λ_=> ?_;refine cut hC hGL [(0,.int .i64 v),(4,.own 0 y),(13,.list 3 36 II),(14,.int .i64 (36:Nat)),(15,.int .i64 (k:Nat))] [.row y none 1 (vr v k).length (bu (vr v k))] True ?_ λ_=> ?_
    · refine xn ?_;repeat' first|exact .n|apply Lc.mk
      all_goals intros
      all_goals first
        |(intros;exact Ct.w)
        |(intros;exfalso;omega)
    generalize hnm:vr v k=nm at*
    rcases hv with rfl|rfl
    · rcases o with _|o<;>rcases w with _|w
      all_goals
        simp only[Kn.of,aap,aaq,Int.reduceEq,Option.map_none,aal,Option.toList_none,Option.toList_some,Dc,reduceIte] at hsc;refine ar hC hGL ?_
        (conv=>whnf)
        refine Ix.w ?_;rw[hkF];refine an ?_;intros;first
          |exact⟨(k+1,y),by show k+1<=36;omega,by show 36-(k+1)<36-k;omega,ae,by show List.Sublist [HEnt.row y none 1 (vr 3 (k+1)).length (bu (vr 3 (k+1)))] _;rw[hsc];exact aA⟩
          | (refine aY hC hGL (jR (m:=3) rfl rfl rfl) rfl rfl ?_
             refine an ?_
             intro wa wk wc _
             exact⟨(k+1,.slice wa wk wc),by show k+1<=36;omega,by show 36-(k+1)<36-k;omega,ae,by show List.Sublist [HEnt.row (.slice wa wk wc) none 1 (vr 3 (k+1)).length (bu (vr 3 (k+1)))] _;rw[hsc,<-cg,d_];exact aA⟩)
    · rcases o with _|o<;>rcases w with _|w
      all_goals
        simp only[Kn.of,aap,aaq,Int.reduceEq,Option.map_none,aal,Option.toList_none,Option.toList_some,Dc,reduceIte] at hsc;refine ar hC hGL ?_
        (conv=>whnf)
        refine Ix.w ?_;rw[hkF];refine an ?_;intros;first
          |exact⟨(k+1,y),by show k+1<=36;omega,by show 36-(k+1)<36-k;omega,ae,by show List.Sublist [HEnt.row y none 1 (vr 4 (k+1)).length (bu (vr 4 (k+1)))] _;rw[hsc];exact aA⟩
          | (refine aY hC hGL (jR (m:=3) rfl rfl rfl) rfl rfl ?_
             refine an ?_
             intro wa wk wc _
             exact⟨(k+1,.slice wa wk wc),by show k+1<=36;omega,by show 36-(k+1)<36-k;omega,ae,by show List.Sublist [HEnt.row (.slice wa wk wc) none 1 (vr 4 (k+1)).length (bu (vr 4 (k+1)))] _;rw[hsc,<-cg,d_];exact aA⟩)
  · obtain rfl:k=36:=by omega
    refine ar hC hGL (an ?_);intro _;refine⟨λ_=> ?_,λh=>absurd rfl h⟩;refine ar hC hGL (an ?_);rw[Ty hv];exact⟨_,At _,y,rfl,rfl⟩
theorem zI {G:Glo}(v:Int):ai prog G 38 [.int .i64 v] (.tuple [.list 1 (aF v).length (aB (aF v)),.int .i64 (eX v).e]):=by
 by_cases hv:v=3\/v=4
 ·have e2:eX v= .none:=by unfold eX;rw[if_pos hv]
  rw[e2];exact n7 (λa=>.tuple [a,.int .i64 0]) (CS _) (aB (aF v)) (gt _) (cs:=bu (aF v)) (eT:=none) ((H9 hv).mono λr H ⟨va,h1,h2⟩=>⟨_,va,h1,h2⟩)
 ·have e1:aF v=[]:=by unfold aF;rw[if_neg hv]
  have e2:eX v= .errno 1:=by unfold eX;rw[if_neg hv]
  rw[e1,e2];refine dB (H:=[]) (Qf:=λr H=>r= .ret (.tuple [.raw (.slice none 0 0),.int .i64 1])/\H=[]) ?_ (λr H h=>by
   obtain⟨rfl,rfl⟩:=h;rintro C R w e hm ⟨x,rfl,hx⟩;exact⟨R,hm,x,rfl,gL (Seal.le_refl R) hx λu hu=>by
    obtain rfl:=aq.1 (show bn R (.raw (.slice none 0 0)) u from hu);exact⟨⟨none,0,rfl,Nat.le_refl _,.inl rfl⟩,rfl⟩⟩)
  refine aw func38 call38 λC hC hGL=> ?_;refine xw ?_;repeat' first|exact .n|apply Lc.mk
  all_goals intros
  all_goals first
   |(exfalso;omega)
   |(apply aj;rfl)
end
section
def u6:ω:=[86,65,76,85,69]
def eb (s:ω):List Pr->Nat->Int
 |[],_=> -1
 |q::l,i=>if am 97 122 (-32) q.n=am 97 122 (-32) s then(i:Int) else eb s l (i+1)
def Yw (t:Int)(x:ω):Int:=if x=[116,101,120,116] then(if t=2\/t=3 then t else 1)
 else if x=[117,114,105] then 4
 else if x=[100,97,116,101,45,97,110,100,45,111,114,45,116,105,109,101] then 5
 else if x=[100,97,116,101] then 5
 else if x=[100,97,116,101,45,116,105,109,101] then 5
 else if x=[116,105,109,101,115,116,97,109,112] then 5
 else if x=[117,116,99,45,111,102,102,115,101,116] then 6
 else if x=[108,97,110,103,117,97,103,101,45,116,97,103] then 7
 else 8
def rH (t:Int)(l:List Pr):Int:=if eb u6 l 0<0\/(l.getD (eb u6 l 0).toNat Pr.z).vs.length=0 then t else Yw t (am 65 90 32 ((l.getD (eb u6 l 0).toNat Pr.z).vs.getD 0 []))
def jH (v:Int)(s:ω)(l:List Pr):Int:=if v=3\/v=4 then rH (cC v s).t l else 0
theorem pm {s:ω}:∀{l:List Pr} {k:Nat} (i:Nat),k<l.length->(∀j,j<k->am 97 122 (-32) (l.getD j Pr.z).n≠am 97 122 (-32) s)->am 97 122 (-32) (l.getD k Pr.z).n=am 97 122 (-32) s->eb s l i=((i+k:Nat):Int)
 |[],k,i,h,_,_=>absurd h (Uf _)
 |q::l,0,i,_,_,h=>by
  have h:am 97 122 (-32) q.n=am 97 122 (-32) s:=h;simp only[eb,if_pos h,Nat.add_zero]
 |q::l,k+1,i,hk,h0,h=>by
  have h1:am 97 122 (-32) q.n≠am 97 122 (-32) s:=h0 0 (Nat.succ_pos k);have ih:=pm (s:=s) (l:=l) (k:=k) (i+1) (by simpa using hk) (λj hj=>by simpa using h0 (j+1) a_) (by simpa using h);simp only[eb,if_neg h1,ih];omega
theorem yM {s:ω}:∀{l:List Pr} (i:Nat),(∀j,j<l.length->am 97 122 (-32) (l.getD j Pr.z).n≠am 97 122 (-32) s)->eb s l i= -1
 |[],_,_=>rfl
 |q::l,i,h0=>by
  have h1:am 97 122 (-32) q.n≠am 97 122 (-32) s:=h0 0 (by simp);have ih:=yM (s:=s) (l:=l) (i+1) (λj hj=>by simpa using h0 (j+1) (by simpa using hj));simp only[eb,if_neg h1,ih]
theorem pk (s:ω):∀(l:List Pr) (i:Nat),eb s l i= -1\/∃k,k<l.length/\eb s l i=((i+k:Nat):Int)
 |[],_=>.inl rfl
 |q::l,i=>by
  by_cases h:am 97 122 (-32) q.n=am 97 122 (-32) s
  ·exact .inr ⟨0,by simp,by simp only[eb,if_pos h,Nat.add_zero]⟩
  ·rcases pk s l (i+1) with h1|⟨k,h1,h2⟩
   ·exact .inl (by simp only[eb,if_neg h,h1])
   ·exact .inr ⟨k+1,by simpa using h1,by simp only[eb,if_neg h,h2];omega⟩
theorem QL {c d:UInt8}:UInt8.ofNat (eo 65 90 32 c.toNat).toNat=UInt8.ofNat (eo 65 90 32 d.toNat).toNat↔UInt8.ofNat (eo 97 122 (-32) c.toNat).toNat=UInt8.ofNat (eo 97 122 (-32) d.toNat).toNat:=by
 have h1:=c.toNat_lt
 have h2:=d.toNat_lt;rw[<-UInt8.toNat_inj,<-UInt8.toNat_inj,UInt8.toNat_ofNat',UInt8.toNat_ofNat',UInt8.toNat_ofNat',UInt8.toNat_ofNat'];unfold eo
 (repeat' split)<;>omega
theorem Gc:∀{n s:ω},(am 65 90 32 n=am 65 90 32 s↔am 97 122 (-32) n=am 97 122 (-32) s)
 |[],[]=>by simp[am]
 |[],d::s=>by simp[am]
 |c::n,[]=>by simp[am]
 |c::n,d::s=>by
  have ih:=Gc (n:=n) (s:=s);have hb:=QL (c:=c) (d:=d);unfold am at ih ⊢;simp only[S_,o_];rw[ih,hb]
theorem gC (n s:ω):aW (am 65 90 32 n) (am 65 90 32 s)=aW (am 97 122 (-32) n) (am 97 122 (-32) s):=by
 rw[w_,ce,ce];exact Gc
attribute [local irreducible] bJ au aa ax aR ab ad am eb Yw
theorem xp {G:Glo}(l:List Pr)(s:ω)(hl:l.length<=9223372036854775807)(hn:∀k,(l.getD k Pr.z).n.length<=9223372036854775807)(hs:s.length<=2000000):ai prog G 98 [.list 2 l.length (gg l),.str s] (.int .i64 (eb s l 0)):=by
 have h1:=λk=>jW (G:=G) (l.getD k Pr.z).n s (by have:=hn k;omega) a_;refine aw func98 call98 λC hC hGL=> ?_;refine aH ?_;intros;refine lp hC hGL (λ(k:Nat)=>[(1,.str s),(7,.list 2 l.length (gg l)),(8,.int .i64 (l.length:Nat)),(9,.int .i64 (k:Nat))]) (λ_=>[]) (λk=>k<=l.length/\∀j,j<k->am 97 122 (-32) (l.getD j Pr.z).n≠am 97 122 (-32) s) (λk=>l.length-k) 0 ⟨Nat.zero_le _,λj h=>absurd h (Uf _)⟩ ae rfl ?_;rintro k ⟨hk,hI⟩;have h2:=h1 k;refine xw ?_;repeat' first|exact .n|apply Lc.mk
 all_goals intros
 all_goals intros
 ·apply aj;rw[pm 0 a_ hI (by assumption),Nat.zero_add]
 ·exact fG (k+1) ⟨a_,bL hI (by assumption)⟩ a_ ae aA
 ·apply aj;rw[yM 0 λj hj=>hI j a_];rfl
theorem Pk {G:Glo}(l:List Pr)(s:ω)(hl:l.length<=9223372036854775807)(hn:∀k,(l.getD k Pr.z).n.length<=9223372036854775807)(hs:s.length<=2000000):ai prog G 73 [.list 2 l.length (gg l),.str s] (.int .i64 (eb s l 0)):=by
 have h1:=λk=>gw (G:=G) (l.getD k Pr.z).n s (by have:=hn k;omega) a_;refine aw func73 call73 λC hC hGL=> ?_;refine aH ?_;intros;refine lp hC hGL (λ(k:Nat)=>[(0,.list 2 l.length (gg l)),(1,.str s),(7,.int .i64 (l.length:Nat)),(8,.int .i64 (k:Nat))]) (λ_=>[]) (λk=>k<=l.length/\∀j,j<k->am 97 122 (-32) (l.getD j Pr.z).n≠am 97 122 (-32) s) (λk=>l.length-k) 0 ⟨Nat.zero_le _,λj h=>absurd h (Uf _)⟩ ae rfl ?_;rintro k ⟨hk,hI⟩;have h2:=h1 k;rw[gC] at h2;refine xw ?_;repeat' first|exact .n|apply Lc.mk
 all_goals intros
 all_goals intros
 ·apply aj;rw[pm 0 a_ hI (by assumption),Nat.zero_add]
 ·exact fG (k+1) ⟨a_,bL hI (by assumption)⟩ a_ ae aA
 ·apply aj;rw[yM 0 λj hj=>hI j a_];rfl
end
end Go.Proofs.YtgpjhbhdbjdlgaaGreatDoor
