/- Parts of the proof of jcardTells_card: Abs, Mem, Ops, Call, Tab, PlUtf, Str. -/
import Derived.WalkKit
import Derived.Below
import Derived.Deep.LoopGhost
import Derived.LoopN
import Derived.Test.YtdpbejofgemloaaGreatDoorProg
import GoSem.Core.Utf8
import Derived.Laws.Strings
set_option linter.unusedVariables false
set_option linter.unusedSimpArgs false
set_option linter.unusedSectionVars false
namespace Go.Proofs.YtdpbejofgemloaaGreatDoor
set_option maxRecDepth 20000
set_option maxHeartbeats 4000000
section
open Go
/-! ## Abstract values -/
inductive AVal where
 |bool (b:Bool)
 |int (k:IntKind) (n:Int)
 |str (s:List UInt8)
 |raw (v:Value)
 |list (sz n:Nat) (f:Nat→AVal)
 |rop (cs:List AVal) (off:Nat)
 |agg (cs:List AVal)
 |tuple (cs:List AVal)
 |iface (t:TypeId) (v:AVal)
 |func (fn:Fn) (first captured:List AVal)
 |own (i:Nat) (v:Value)
def AVal.isAgg:AVal→Bool
 |.agg _=>true
 |.raw (.agg _)=>true
 |_=>false
def vAgg:Value→Bool
 |.agg _=>true
 |_=>false
def AVal.cells:AVal→List AVal
 |.agg cs=>cs
 |v=>[v]
abbrev Seal:=Nat→Option Obj
mutual
def RelC (R:Seal):AVal→List Value→Prop
 |.bool b,vs=>vs=[.bool b]
 |.int k n,vs=>vs=[.int k n]
 |.str s,vs=>vs=[.string ⟨s.toArray⟩]
 |.raw x,vs=>vs=x.cells.toList
 | .list sz n f,vs=>∃a cap,vs=[.slice a n cap]∧n≤cap∧(n=0∨∃b o C e fz,a=some ⟨b,o,none⟩∧R b=some (.cells C e fz)∧
   ∀i,i<n→RelC R (f i) ((C.toList.drop (o+i*sz)).take sz))
 | .rop cs off,vs=>∃b o C e fz,vs=[.pointer (some ⟨b,o,none⟩)]∧off≤o∧R b=some (.cells C e fz)∧
   RelL R cs ((C.toList.drop (o-off)).take cs.length)
 |.agg cs,vs=>RelL R cs vs
 |.tuple cs,vs=>∃ws,vs=[.tuple ws]∧RelV R cs ws.toList
 |.iface t v,vs=>∃w,vs=[.iface t w]∧RelC R v w.cells.toList∧v.isAgg=vAgg w
 |.func fn l1 l2,vs=>∃a b,vs=[.func fn a b]∧RelV R l1 a.toList∧RelV R l2 b.toList
 |.own _ x,vs=>vs=[x]∧vAgg x=false
def RelL (R:Seal):List AVal→List Value→Prop
 |[],vs=>vs=[]
 |c::cs,vs=>∃v t,vs=v::t∧RelC R c [v]∧RelL R cs t
def RelV (R:Seal):List AVal→List Value→Prop
 |[],vs=>vs=[]
 |c::cs,vs=>∃v t,vs=v::t∧(RelC R c v.cells.toList∧c.isAgg=vAgg v)∧RelV R cs t
end
def Rel (R:Seal)(a:AVal)(v:Value):Prop:=RelC R a v.cells.toList∧a.isAgg=vAgg v
def Seal.le (R R':Seal):Prop:=∀b o,R b=some o→R' b=some o
theorem Seal.le_refl (R:Seal):R.le R:=fun _ _ h=>h
theorem Seal.le_trans {R R' R'':Seal}(h:R.le R')(k:R'.le R''):R.le R'':=fun b o x=>k b o (h b o x)
mutual
theorem f8 {R R':Seal}(h:R.le R'):∀(a:AVal) (vs:List Value),RelC R a vs→RelC R' a vs
 |.bool _,_,x=>x
 |.int _ _,_,x=>x
 |.str _,_,x=>x
 |.raw _,_,x=>x
 |.list sz n f,vs,x=>by
  obtain⟨a,cap,e,hle,y⟩:=x
  refine⟨a,cap,e,hle,?_⟩
  rcases y with y|⟨b,o,C,el,fz,ha,hR,hi⟩
  ·exact .inl y
  ·exact .inr ⟨b,o,C,el,fz,ha,h _ _ hR,fun i hn=>f8 h (f i) _ (hi i hn)⟩
 |.rop cs off,vs,x=>by
  obtain⟨b,o,C,e,fz,hv,ho,hR,hl⟩:=x
  exact⟨b,o,C,e,fz,hv,ho,h _ _ hR,bT h cs _ hl⟩
 |.agg cs,vs,x=>bT h cs vs x
 |.tuple cs,vs,x=>by
  obtain⟨ws,e,y⟩:=x
  exact⟨ws,e,iX h cs _ y⟩
 |.iface t v,vs,x=>by
  obtain⟨w,e,y,z⟩:=x
  exact⟨w,e,f8 h v _ y,z⟩
 |.func fn l1 l2,vs,x=>by
  obtain⟨a,b,e,y,z⟩:=x
  exact⟨a,b,e,iX h l1 _ y,iX h l2 _ z⟩
 |.own _ _,_,x=>x
theorem bT {R R':Seal}(h:R.le R'):∀(a:List AVal) (vs:List Value),RelL R a vs→RelL R' a vs
 |[],_,x=>x
 |c::cs,_,x=>by
  obtain⟨v,t,e,y,z⟩:=x
  exact⟨v,t,e,f8 h c _ y,bT h cs _ z⟩
theorem iX {R R':Seal}(h:R.le R'):∀(a:List AVal) (vs:List Value),RelV R a vs→RelV R' a vs
 |[],_,x=>x
 |c::cs,_,x=>by
  obtain⟨v,t,e,y,z⟩:=x
  exact⟨v,t,e,⟨f8 h c _ y.1,y.2⟩,iX h cs _ z⟩
end
theorem eb {R R':Seal}(h:R.le R'){a:AVal}{v:Value}(x:Rel R a v):Rel R' a v:=⟨f8 h a _ x.1,x.2⟩
theorem aP {R:Seal}{a:AVal}{v:Value}(x:Rel R a v)(ha:a.isAgg=false):RelC R a [v]:=by
 obtain⟨x,y⟩:=x
 rw[ha] at y
 cases v<;>first|exact x|(simp[vAgg] at y)
theorem nM {R:Seal}{a:AVal}{v:Value}(x:RelC R a [v])(ha:a.isAgg=false)(hv:vAgg v=false):Rel R a v:=by
 refine⟨?_,by rw[ha,hv]⟩
 cases v<;>first|exact x|(simp[vAgg] at hv)
/-! What a related value is. -/
theorem aH {R:Seal}{b:Bool}{v:Value}:Rel R (.bool b) v↔v= .bool b:=by
 constructor
 ·intro x;have:=aP x rfl;simpa[RelC] using this
 ·rintro rfl;exact⟨rfl,rfl⟩
theorem am {R:Seal}{k:IntKind}{n:Int}{v:Value}:Rel R (.int k n) v↔v= .int k n:=by
 constructor
 ·intro x;have:=aP x rfl;simpa[RelC] using this
 ·rintro rfl;exact⟨rfl,rfl⟩
theorem aE {R:Seal}{s:List UInt8}{v:Value}:Rel R (.str s) v↔v= .string ⟨s.toArray⟩:=by
 constructor
 ·intro x;have:=aP x rfl;simpa[RelC] using this
 ·rintro rfl;exact⟨rfl,rfl⟩
theorem an {R:Seal}{x v:Value}:Rel R (.raw x) v↔v=x:=by
 constructor
 ·rintro⟨h,k⟩
  cases v<;>cases x<;>simp_all [RelC,AVal.isAgg,vAgg,Value.cells]
 ·rintro rfl;exact⟨rfl,by cases v<;>rfl⟩
theorem aL {R:Seal}{i:Nat}{x v:Value}:Rel R (.own i x) v↔v=x∧vAgg x=false:=by
 constructor
 ·intro h
  have:=aP h rfl
  simp only[RelC,List.cons.injEq,and_true] at this
  exact this
 ·rintro⟨rfl,h⟩
  refine⟨?_,h.symm⟩
  cases v<;>first|exact⟨rfl,rfl⟩|(simp[vAgg] at h)
def byteA (c:UInt8):AVal:=.int .u8 (c.toNat:Int)
def ownB (s:List UInt8)(cap:Nat):List AVal:=s.map byteA++List.replicate (cap-s.length) (.int .u8 0)
/-! ## Memory -/
def cJ (R:Seal)(w:World):Prop:=∀b o,R b=some o→w.heap[b]? =some o
def ik (fz:Nat×Nat)(n:Nat):Prop:=fz.2≤fz.1∨n≤fz.1
def fS (R:Seal):List (AVal×AVal)→List MapEntry→Prop
 |[],es=>es=[]
 |a::l,es=>∃e t,es=e::t∧(Rel R a.1 e.key∧Rel R a.2 e.val)∧fS R l t
theorem mB {R R':Seal}(h:R.le R'):∀(l:List (AVal×AVal)) (es:List MapEntry),fS R l es→fS R' l es
 |[],_,x=>x
 |a::l,_,x=>by
  obtain⟨e,t,q,y,z⟩:=x
  exact⟨e,t,q,⟨eb h y.1,eb h y.2⟩,mB h l _ z⟩
inductive HEnt where
 |cells (b:Nat) (e:Option TypeId) (cs:List AVal)
 |row (v:Value) (e:Option TypeId) (sz n:Nat) (cs:List AVal)
 |iter (b:Nat) (s:List UInt8) (pos:Nat)
 |buf (b:Nat) (s:List UInt8) (cap:Nat)
 |mp (b:Nat) (es:List (AVal×AVal))
 |obj (b:Nat) (o:Obj)
def HEnt.blk:HEnt→Option Nat
 |.cells b _ _=>some b
 |.row (.slice (some a) _ _) _ _ _ _=>some a.block
 |.row _ _ _ _ _=>none
 |.iter b _ _=>some b
 |.buf b _ _=>some b
 |.mp b _=>some b
 |.obj b _=>some b
def HEnt.holds (R:Seal)(w:World):HEnt→Prop
 |.cells b eT cs=>∃C e fz,w.heap[b]? =some (.cells C e fz)∧RelL R cs C.toList∧ik fz C.size∧∀t,eT=some t→e=t
 | .row v eT sz n cs=>cs.length=n*sz∧((v= .slice none 0 0∧n=0)∨
   ∃b cap C e fz,v= .slice (some ⟨b,0,none⟩) n cap∧w.heap[b]? =some (.cells C e fz)∧C.size=cap*sz∧n≤cap∧
    RelL R cs (C.toList.take (n*sz))∧ik fz C.size∧∀t,eT=some t→e=t)
 |.iter b s pos=>w.heap[b]? =some (.stringIter ⟨s.toArray⟩ pos)
 |.buf b s cap=>s.length≤cap∧∃C e fz,w.heap[b]? =some (.cells C e fz)∧RelL R (ownB s cap) C.toList∧ik fz C.size
 |.mp b es=>∃E cl,w.heap[b]? =some (.map E cl)∧fS R es E.toList
 |.obj b o=>w.heap[b]? =some o
abbrev Heap:=List HEnt
structure HeapRel (R:Seal) (w:World) (H:Heap):Prop where
 holds:∀h∈H,h.holds R w
 nodup:(H.filterMap HEnt.blk).Nodup
 apart:∀h∈H,∀b,h.blk=some b→R b=none
theorem HEnt.holds_mono {R R':Seal}{w w':World}{h:HEnt}(x:h.holds R w)(hR:R.le R')
  (hw:∀b,h.blk=some b→w'.heap[b]? =w.heap[b]?):h.holds R' w':=by
 cases h with
 |cells b eT cs=>
  obtain⟨C,e,fz,hb,hl,hf⟩:=x
  exact⟨C,e,fz,by rw[hw b rfl];exact hb,bT hR _ _ hl,hf⟩
 |row v eT sz n cs=>
  obtain⟨hlen,y⟩:=x
  refine⟨hlen,?_⟩
  rcases y with y|⟨b,cap,C,e,fz,rfl,hb,hs,hn,hl,hf⟩
  ·exact .inl y
  ·exact .inr ⟨b,cap,C,e,fz,rfl,by rw[hw b rfl];exact hb,hs,hn,bT hR _ _ hl,hf⟩
 |iter b s pos=>simp only[HEnt.holds] at*;rw[hw b rfl];exact x
 |buf b s cap=>
  obtain⟨hc,C,e,fz,hb,hl,hf⟩:=x
  exact⟨hc,C,e,fz,by rw[hw b rfl];exact hb,bT hR _ _ hl,hf⟩
 |mp b es=>
  obtain⟨E,cl,hb,hl⟩:=x
  exact⟨E,cl,by rw[hw b rfl];exact hb,mB hR _ _ hl⟩
 |obj b o=>simp only[HEnt.holds] at*;rw[hw b rfl];exact x
theorem HEnt.blk_lt {R:Seal}{w:World}{h:HEnt}(x:h.holds R w){b:Nat}(hb:h.blk=some b):b<w.heap.size:=by
 have key:∀(o:Obj),w.heap[b]? =some o→b<w.heap.size:=by
  intro o ho
  rcases Nat.lt_or_ge b w.heap.size with h|h
  ·exact h
  ·simp[Array.getElem?_eq_none h] at ho
 cases h with
 |cells b' eT cs=>
  obtain⟨C,e,fz,hb',_⟩:=x
  simp only[HEnt.blk,Option.some.injEq] at hb;subst hb
  exact key _ hb'
 |row v eT sz n cs=>
  obtain⟨_,y⟩:=x
  rcases y with⟨rfl,_⟩|⟨b',cap,C,e,fz,rfl,hb',_⟩
  ·simp[HEnt.blk] at hb
  ·simp only[HEnt.blk,Option.some.injEq] at hb;subst hb
   exact key _ hb'
 |iter b' s pos=>
  simp only[HEnt.blk,Option.some.injEq] at hb;subst hb
  exact key _ x
 |buf b' s cap=>
  obtain⟨_,C,e,fz,hb',_⟩:=x
  simp only[HEnt.blk,Option.some.injEq] at hb;subst hb
  exact key _ hb'
 |mp b' es=>
  obtain⟨E,cl,hb',_⟩:=x
  simp only[HEnt.blk,Option.some.injEq] at hb;subst hb
  exact key _ hb'
 |obj b' o=>
  simp only[HEnt.blk,Option.some.injEq] at hb;subst hb
  exact key _ x
/-! ## The state -/
structure Glo where
 p:Seal→Prop
 mono:∀R R':Seal,R.le R'→p R→p R'
structure Ctx where
 w0:World
 R0:Seal
 B0:List Nat
 G:Glo
 hG:G.p R0
 D:List Deferred
structure Ext (w0:World) (B0:List Nat) (w:World):Prop where
 os:w.os=w0.os
 tape:w.tape=w0.tape
 output:w.output=w0.output
 size:w0.heap.size≤w.heap.size
 block:∀b,b<w0.heap.size→b∉B0→w.heap[b]? =w0.heap[b]?
theorem Ext.refl (w:World)(B:List Nat):Ext w B w:=⟨rfl,rfl,rfl,Nat.le_refl _,fun _ _ _=>rfl⟩
structure MS (C:Ctx) (R:Seal) (H:Heap) (w:World):Prop where
 sealed:cJ R w
 ge:C.R0.le R
 fresh:∀b,R b≠none→C.R0 b≠none∨C.w0.heap.size≤b∨b∈C.B0
 heap:HeapRel R w H
 own:∀h∈H,∀b,h.blk=some b→C.w0.heap.size≤b∨b∈C.B0
 ext:Ext C.w0 C.B0 w
abbrev Env:=List (Nat×AVal)
def Env.get:Env→Nat→Option AVal
 |[],_=>none
 |(k,v)::t,n=>match Nat.beq k n with
  |true=>some v
  |false=>Env.get t n
structure FS (D:List Deferred) (n:Nat) (R:Seal) (env:Env) (a:Act):Prop where
 fr:∀k v,Env.get env k=some v→∃x,a.tmps[k]? =some x∧Rel R v x
 size:a.tmps.size=n
 defers:a.defers=D
theorem FS.mono {D:List Deferred}{n:Nat}{R R':Seal}{env:Env}{a:Act}(h:FS D n R env a)(hR:R.le R'):FS D n R' env a:=
 ⟨fun k v x=>let ⟨y,hy,hr⟩:=h.fr k v x;⟨y,hy,eb hR hr⟩,h.size,h.defers⟩
theorem FS.put {D:List Deferred}{n:Nat}{R:Seal}{env:Env}{a:Act}(h:FS D n R env a){d:Nat}(hd:Nat.ble (d+1) n=true){av:AVal}{v:Value}(hv:Rel R av v):
  FS D n R ((d,av)::env) (a.put (some d) v):=by
 have hd:d<n:=by have:=Nat.le_of_ble_eq_true hd;omega
 refine⟨fun k x hk=> ?_,by simp[Act.put,h.size],h.defers⟩
 simp only[Env.get] at hk
 by_cases e:d=k
 ·subst e
  rw[Nat.beq_refl] at hk
  simp only[Option.some.injEq] at hk
  subst hk
  exact⟨v,by simp[Act.put,h.size,hd],hv⟩
 ·have hb:Nat.beq d k=false:=by
   cases hb:Nat.beq d k with
   |false=>rfl
   |true=>exact absurd (Nat.eq_of_beq_eq_true hb) e
  rw[hb] at hk
  obtain⟨y,hy,hr⟩:=h.fr k x hk
  refine⟨y,?_,hr⟩
  simp only[Act.put]
  rw[Array.getElem?_setIfInBounds_ne e]
  exact hy
def ofV:Value→AVal
 |.bool b=>.bool b
 |.int k n=>.int k n
 |.string s=>.str s.data.toList
 |v=>.raw v
def wN {β:Type}:List UInt8→(List UInt8→β)→β
 |[],k=>k []
 |c::cs,k=>wN cs (fun r=>k (c::r))
theorem ma {β:Type}:∀(l:List UInt8) (k:List UInt8→β),wN l k=k l
 |[],_=>rfl
 |_::cs,k=>ma cs _
def ai (env:Env):Operand→Option AVal
 |.tmp t=>Env.get env t
 |.const (.string s)=>wN s.data.toList fun l=>some (.str l)
 |.const v=>some (ofV v)
 |.global g=>some (.raw (.pointer (some ⟨g,0,none⟩)))
 |.func f=>some (.func (.func f) [] [])
theorem m8 (R:Seal)(v:Value):Rel R (ofV v) v:=by
 cases v<;>first|exact an.2 rfl|exact aH.2 rfl|exact am.2 rfl|skip
 exact aE.2 rfl
theorem cH (env:Env)(v:Value):ai env (.const v)=some (ofV v):=by cases v<;>first|rfl|(simp only[ai,ma];rfl)
theorem FS.eval {D:List Deferred}{n:Nat}{R:Seal}{env:Env}{a:Act}(h:FS D n R env a){x:Operand}{av:AVal}(hx:ai env x=some av):Rel R av (a.eval x):=by
 cases x with
 |tmp t=>
  obtain⟨y,hy,hr⟩:=h.fr t av hx
  simp only[Act.eval,Array.getD_eq_getD_getElem?,hy]
  exact hr
 |const v=>
  rw[cH] at hx
  simp only[Option.some.injEq] at hx;subst hx;exact m8 R v
 |global g=>simp only[ai,Option.some.injEq] at hx;subst hx;exact an.2 rfl
 |func f=>
  simp only[ai,Option.some.injEq] at hx;subst hx
  exact⟨⟨#[],#[],rfl,rfl,rfl⟩,rfl⟩
inductive AExit where
 |normal
 |exit (id:Nat)
 |goto (l:Nat)
 |ret
 |panic (v:AVal)
def aD (R:Seal):AExit→Exit→Prop
 |.normal,e=>e= .normal
 |.exit i,e=>e= .exit i
 |.goto i,e=>e= .goto i
 |.ret,e=>e= .ret
 |.panic v,e=>∃x,e= .panic [{v:=x,recovered:=false}]∧Rel R v x
def Post (C:Ctx)(n:Nat)(Q:AExit→Env→Heap→Prop)(e:Exit)(a:Act)(w:World):Prop:=
 ∃x env H R,Q x env H∧aD R x e∧MS C R H w∧FS C.D n R env a
def AWp (P:Program)(C:Ctx)(n:Nat)(c:Code)(env:Env)(H:Heap)(Q:AExit→Env→Heap→Prop):Prop:=
 ∀R a w,MS C R H w→FS C.D n R env a→c.wp P (Post C n Q) a w
def AOps (P:Program)(C:Ctx)(n:Nat)(ops:Array Oper)(l:List Oper)(env:Env)(H:Heap)(Q:AExit→Env→Heap→Prop):Prop:=
 ∀R a w,MS C R H w→FS C.D n R env a→wpList P ops (Post C n Q) l a w
section
variable {P:Program} {C:Ctx} {n:Nat} {env:Env} {H:Heap} {Q:AExit→Env→Heap→Prop}
theorem AWp.mono {c:Code}{Q':AExit→Env→Heap→Prop}(h:AWp P C n c env H Q)(hq:∀x e h,Q x e h→Q' x e h):AWp P C n c env H Q':=
 fun R a w hm hf=>wp_mono (h R a w hm hf) fun _ _ _ ⟨x,en,H',R',q,r⟩=>⟨x,en,H',R',hq _ _ _ q,r⟩
theorem EG (h:Q .normal env H):AWp P C n .skip env H Q:=
 fun R _ _ hm hf=>wp_skip ⟨.normal,env,H,R,h,rfl,hm,hf⟩
theorem EH {id:Nat}(h:Q (.exit id) env H):AWp P C n (.exit id) env H Q:=
 fun R _ _ hm hf=>wp_exit ⟨.exit id,env,H,R,h,rfl,hm,hf⟩
theorem Gz (h:Q .ret env H):AWp P C n .ret env H Q:=
 fun R _ _ hm hf=>wp_ret ⟨.ret,env,H,R,h,rfl,hm,hf⟩
def cR (K:Env→Heap→Prop)(Q:AExit→Env→Heap→Prop):AExit→Env→Heap→Prop
 |.normal,e,h=>K e h
 |x,e,h=>Q x e h
theorem bq {x y:Code}(h:AWp P C n x env H (cR (fun e h=>AWp P C n y e h Q) Q)):AWp P C n (.seq x y) env H Q:=by
 intro R a w hm hf
 refine wp_seq (wp_mono (h R a w hm hf) ?_)
 rintro e a' w' ⟨x',en,H',R',q,er,hm',hf'⟩
 cases x' with
 |normal=>simp only[aD] at er;subst er;exact q R' a' w' hm' hf'
 |exit i=>simp only[aD] at er;subst er;exact⟨.exit i,en,H',R',q,rfl,hm',hf'⟩
 |goto i=>simp only[aD] at er;subst er;exact⟨.goto i,en,H',R',q,rfl,hm',hf'⟩
 |ret=>simp only[aD] at er;subst er;exact⟨.ret,en,H',R',q,rfl,hm',hf'⟩
 |panic v=>obtain⟨y,rfl,hr⟩:=er;exact⟨.panic v,en,H',R',q,⟨y,rfl,hr⟩,hm',hf'⟩
theorem su {c:Operand}{x y:Code}{b:Bool}(hc:ai env c=some (.bool b))(ht:b=true→AWp P C n x env H Q)(hf:b=false→AWp P C n y env H Q):
  AWp P C n (.cond c x y) env H Q:=by
 intro R a w hm hfr
 exact wp_cond_split (aH.1 (hfr.eval hc)) (fun e=>ht e R a w hm hfr) (fun e=>hf e R a w hm hfr)
theorem gU {c:Operand}{x y:Code}(hc:ai env c=some (.bool true))(h:AWp P C n x env H Q):AWp P C n (.cond c x y) env H Q:=
 su hc (fun _=>h) (fun e=>by cases e)
theorem cW {c:Operand}{x y:Code}(hc:ai env c=some (.bool false))(h:AWp P C n y env H Q):AWp P C n (.cond c x y) env H Q:=
 su hc (fun e=>by cases e) (fun _=>h)
def so (id:Nat)(Q:AExit→Env→Heap→Prop):AExit→Env→Heap→Prop
 |.exit i,e,h=>(i=id→Q .normal e h)∧(i≠id→Q (.exit i) e h)
 |x,e,h=>Q x e h
theorem cX {id:Nat}{c:Code}(h:AWp P C n c env H (so id Q)):AWp P C n (.block id c) env H Q:=by
 intro R a w hm hf
 refine wp_block (wp_mono (h R a w hm hf) ?_)
 rintro e a' w' ⟨x',en,H',R',q,er,hm',hf'⟩
 cases x' with
 |normal=>simp only[aD] at er;subst er;exact⟨.normal,en,H',R',q,rfl,hm',hf'⟩
 |exit i=>
  simp only[aD] at er;subst er
  simp only[Exit.inBlock]
  by_cases e:i=id
  ·rw[if_pos e];exact⟨.normal,en,H',R',q.1 e,rfl,hm',hf'⟩
  ·rw[if_neg e];exact⟨.exit i,en,H',R',q.2 e,rfl,hm',hf'⟩
 |goto i=>simp only[aD] at er;subst er;exact⟨.goto i,en,H',R',q,rfl,hm',hf'⟩
 |ret=>simp only[aD] at er;subst er;exact⟨.ret,en,H',R',q,rfl,hm',hf'⟩
 |panic v=>obtain⟨y,rfl,hr⟩:=er;exact⟨.panic v,en,H',R',q,⟨y,rfl,hr⟩,hm',hf'⟩
def Env.sub (env:Env):Env→Prop
 |[]=>True
 |(k,v)::t=>Env.get env k=some v∧Env.sub env t
theorem Env.sub_get {env:Env}:∀{t:Env},Env.sub env t→∀k v,Env.get t k=some v→Env.get env k=some v
 |[],_,k,v,h=>by simp[Env.get] at h
 |(j,x)::t,hs,k,v,h=>by
  simp only[Env.get] at h
  cases hb:Nat.beq j k with
  |true=>
   rw[hb] at h
   simp only[Option.some.injEq] at h
   subst h
   have:=Nat.eq_of_beq_eq_true hb
   subst this
   exact hs.1
  |false=>rw[hb] at h;exact Env.sub_get hs.2 k v h
theorem FS.sub {D:List Deferred}{R:Seal}{a:Act}{t:Env}(h:FS D n R env a)(hs:Env.sub env t):FS D n R t a:=
 ⟨fun k v x=>h.fr k v (Env.sub_get hs k v x),h.size,h.defers⟩
theorem C8 {c:Code}{env':Env}(hs:Env.sub env env')(h:AWp P C n c env' H Q):AWp P C n c env H Q:=
 fun R a w hm hf=>h R a w hm (hf.sub hs)
def nq (P:Program)(C:Ctx)(n:Nat)(c:Code)(Q:AExit→Env→Heap→Prop):Nat→Env→Heap→Prop
 |0,_,_=>False
 |k+1,e,h=>AWp P C n c e h (cR (nq P C n c Q k) Q)
theorem Ay {c:Code}(k:Nat)(h:nq P C n c Q k env H):AWp P C n (.loop c) env H Q:=by
 intro R a w hm hf
 refine wp_loop_rounds k ?_
 induction k generalizing env H R a w with
 |zero=>exact h.elim
 |succ k ih=>
  rw[rounds_succ]
  refine wp_mono (h R a w hm hf) ?_
  rintro e a' w' ⟨x',en,H',R',q,er,hm',hf'⟩
  cases x' with
  |normal=>simp only[aD] at er;subst er;exact ih q R' a' w' hm' hf'
  |exit i=>simp only[aD] at er;subst er;exact⟨.exit i,en,H',R',q,rfl,hm',hf'⟩
  |goto i=>simp only[aD] at er;subst er;exact⟨.goto i,en,H',R',q,rfl,hm',hf'⟩
  |ret=>simp only[aD] at er;subst er;exact⟨.ret,en,H',R',q,rfl,hm',hf'⟩
  |panic v=>obtain⟨y,rfl,hr⟩:=er;exact⟨.panic v,en,H',R',q,⟨y,rfl,hr⟩,hm',hf'⟩
theorem EL {c:Code}{k:Nat}(h:AWp P C n c env H (cR (nq P C n c Q k) Q)):nq P C n c Q (k+1) env H:=h
end
end
section
open Go
theorem jf {w:World}{b:Nat}{o:Obj}(h:w.heap[b]? =some o):b<w.heap.size:=by
 rcases Nat.lt_or_ge b w.heap.size with k|k
 ·exact k
 ·simp[Array.getElem?_eq_none k] at h
def grow (w:World)(o:Obj):World:={w with heap:=w.heap.push o}
theorem cN (w:World)(o:Obj):(grow w o).heap[w.heap.size]? =some o:=by
 show(w.heap.push o)[w.heap.size]? =some o
 simp
theorem ne {w:World}{o:Obj}{b:Nat}(h:b<w.heap.size):(grow w o).heap[b]? =w.heap[b]? :=by
 simp only[grow,Array.getElem?_push];rw[if_neg (by omega)]
theorem Ext.grow {w0 w:World}{B:List Nat}(h:Ext w0 B w)(o:Obj):Ext w0 B (grow w o):=
  ⟨h.os,h.tape,h.output,by have:=h.size;simp only[Go.Proofs.YtdpbejofgemloaaGreatDoor.grow,Array.size_push];omega,
   fun b hb hB=>by rw[ne (by have:=h.size;omega)];exact h.block b hb hB⟩
theorem cJ.grow {R:Seal}{w:World}(h:cJ R w)(o:Obj):cJ R (grow w o):=fun b o' hb=>by
 have:=h b o' hb
 rw[ne (jf this)];exact this
theorem HeapRel.blk_lt {R:Seal}{w:World}{H:Heap}(h:HeapRel R w H){b:Nat}(hb:b∈H.filterMap HEnt.blk):b<w.heap.size:=by
 obtain⟨e,he,hb⟩:=List.mem_filterMap.1 hb
 exact HEnt.blk_lt (h.holds e he) hb
theorem MS.alloc {C:Ctx}{R:Seal}{H:Heap}{w:World}(h:MS C R H w)(o:Obj)(x:HEnt)(hb:x.blk=some w.heap.size)
  (hx:x.holds R (grow w o)):MS C R (x::H) (grow w o) where
 sealed:=h.sealed.grow o
 ge:=h.ge
 fresh:=h.fresh
 heap:=by
  refine⟨fun y hy=> ?_,?_,fun y hy b hyb=> ?_⟩
  ·rcases List.mem_cons.1 hy with rfl|hy
   ·exact hx
   ·refine HEnt.holds_mono (h.heap.holds y hy) (Seal.le_refl R) fun b hyb=> ?_
    exact ne (HEnt.blk_lt (h.heap.holds y hy) hyb)
  ·simp only[List.filterMap_cons,hb]
   refine List.nodup_cons.2 ⟨fun hm=> ?_,h.heap.nodup⟩
   exact absurd (h.heap.blk_lt hm) (Nat.lt_irrefl _)
  ·rcases List.mem_cons.1 hy with rfl|hy
   ·rw[hb] at hyb
    simp only[Option.some.injEq] at hyb
    subst hyb
    cases hR:R w.heap.size with
    |none=>rfl
    |some o'=>exact absurd (jf (h.sealed _ _ hR)) (Nat.lt_irrefl _)
   ·exact h.heap.apart y hy b hyb
 own:=fun y hy b hyb=>by
  rcases List.mem_cons.1 hy with rfl|hy
  ·rw[hb] at hyb
   simp only[Option.some.injEq] at hyb
   subst hyb
   exact .inl h.ext.size
  ·exact h.own y hy b hyb
 ext:=h.ext.grow o
def Seal.put (R:Seal)(b:Nat)(o:Obj):Seal:=fun k=>if k=b then some o else R k
theorem Seal.put_le {R:Seal}{b:Nat}{o:Obj}(h:R b=none):R.le (R.put b o):=fun k o' hk=>by
 simp only[Seal.put]
 by_cases e:k=b
 ·subst e;rw[h] at hk;cases hk
 ·rw[if_neg e];exact hk
theorem Seal.put_at (R:Seal)(b:Nat)(o:Obj):R.put b o b=some o:=by simp[Seal.put]
theorem MS.seal_free {C:Ctx}{R:Seal}{H:Heap}{w:World}(h:MS C R H w):R w.heap.size=none:=by
 cases hR:R w.heap.size with
 |none=>rfl
 |some o'=>exact absurd (jf (h.sealed _ _ hR)) (Nat.lt_irrefl _)
theorem MS.alloc_sealed {C:Ctx}{R:Seal}{H:Heap}{w:World}(h:MS C R H w)(o:Obj):MS C (R.put w.heap.size o) H (grow w o) where
 sealed:=fun b o' hb=>by
  simp only[Seal.put] at hb
  by_cases e:b=w.heap.size
  ·subst e;rw[if_pos rfl] at hb;rw[cN];exact hb
  ·rw[if_neg e] at hb;exact h.sealed.grow o b o' hb
 ge:=Seal.le_trans h.ge (Seal.put_le h.seal_free)
 fresh:=fun b hb=>by
  simp only[Seal.put] at hb
  by_cases e:b=w.heap.size
  ·subst e;exact .inr (.inl h.ext.size)
  ·rw[if_neg e] at hb;exact h.fresh b hb
 heap:=by
  refine⟨fun y hy=> ?_,h.heap.nodup,fun y hy b hyb=> ?_⟩
  ·refine HEnt.holds_mono (h.heap.holds y hy) (Seal.put_le h.seal_free) fun b hyb=> ?_
   exact ne (HEnt.blk_lt (h.heap.holds y hy) hyb)
  ·have:=HEnt.blk_lt (h.heap.holds y hy) hyb
   simp only[Seal.put]
   rw[if_neg (by omega)]
   exact h.heap.apart y hy b hyb
 own:=h.own
 ext:=h.ext.grow o
structure OneBlk (w:World) (b:Nat) (o:Obj) (w':World):Prop where
 os:w'.os=w.os
 tape:w'.tape=w.tape
 output:w'.output=w.output
 size:w'.heap.size=w.heap.size
 at_:w'.heap[b]? =some o
 other:∀k,k≠b→w'.heap[k]? =w.heap[k]?
theorem iW {α:Type}{l:List α}{i:Nat}{x y:α}(h:l[i]? =some x):∃a c,l=a++x::c∧l.set i y=a++y::c:=by
 induction l generalizing i with
 |nil=>simp at h
 |cons z t ih=>
  cases i with
  |zero=>simp only[List.getElem?_cons_zero,Option.some.injEq] at h;subst h;exact⟨[],t,rfl,rfl⟩
  |succ i=>
   simp only[List.getElem?_cons_succ] at h
   obtain⟨a,c,h1,h2⟩:=ih h
   exact⟨z::a,c,by rw[h1];rfl,by simp[h2]⟩
theorem MS.write {C:Ctx}{R:Seal}{H:Heap}{w w':World}{i b:Nat}{x y:HEnt}{o:Obj}(h:MS C R H w)(hi:H[i]? =some x)(hb:x.blk=some b)
  (hw:OneBlk w b o w') (hyb:y.blk=some b) (hy:y.holds R w'):MS C R (H.set i y) w':=by
 obtain⟨a,c,rfl,hset⟩:=iW (y:=y) hi
 rw[hset]
 have hx:x∈a++x::c:=by simp
 have hlt:=HEnt.blk_lt (h.heap.holds x hx) hb
 have hRb:=h.heap.apart x hx b hb
 have hnd:=h.heap.nodup
 rw[List.filterMap_append,List.filterMap_cons,hb] at hnd
 have hother:∀z,z∈a∨z∈c→∀k,z.blk=some k→k≠b:=by
  rintro z hz k hk rfl
  have hd:=List.nodup_append.1 hnd
  rcases hz with hz|hz
  ·exact hd.2.2 k (List.mem_filterMap.2 ⟨z,hz,hk⟩) k (by simp) rfl
  ·exact(List.nodup_cons.1 hd.2.1).1 (List.mem_filterMap.2 ⟨z,hz,hk⟩)
 have hmem:∀z,z∈a++y::c→z=y∨((z∈a∨z∈c)∧z∈a++x::c):=by
  intro z hz
  simp only[List.mem_append,List.mem_cons] at hz ⊢
  rcases hz with hz|hz|hz
  ·exact .inr ⟨.inl hz,.inl hz⟩
  ·exact .inl hz
  ·exact .inr ⟨.inr hz,.inr (.inr hz)⟩
 refine⟨?_,h.ge,h.fresh,⟨?_,?_,?_⟩,?_,?_⟩
 ·intro k o' hk
  rw[hw.other k (by rintro rfl;rw[hRb] at hk;cases hk)]
  exact h.sealed k o' hk
 ·intro z hz
  rcases hmem z hz with rfl|⟨hz',hz''⟩
  ·exact hy
  ·exact HEnt.holds_mono (h.heap.holds z hz'') (Seal.le_refl R) fun k hk=>hw.other k (hother z hz' k hk)
 ·rw[List.filterMap_append,List.filterMap_cons,hyb];exact hnd
 ·intro z hz k hk
  rcases hmem z hz with rfl|⟨_,hz''⟩
  ·rw[hyb] at hk;simp only[Option.some.injEq] at hk;subst hk;exact hRb
  ·exact h.heap.apart z hz'' k hk
 ·intro z hz k hk
  rcases hmem z hz with rfl|⟨_,hz''⟩
  ·rw[hyb] at hk;simp only[Option.some.injEq] at hk;subst hk;exact h.own x hx b hb
  ·exact h.own z hz'' k hk
 ·have hob:=h.own x hx b hb
  refine⟨hw.os.trans h.ext.os,hw.tape.trans h.ext.tape,hw.output.trans h.ext.output,by rw[hw.size];exact h.ext.size,fun k hk hB=> ?_⟩
  rw[hw.other k (by rintro rfl;rcases hob with h1|h1;omega;exact hB h1)]
  exact h.ext.block k hk hB
theorem MS.drop {C:Ctx}{R:Seal}{H H':Heap}{w:World}(h:MS C R H w)(hs:H'.Sublist H):MS C R H' w:=
  ⟨h.sealed,h.ge,h.fresh,⟨fun y hy=>h.heap.holds y (hs.subset hy),h.heap.nodup.sublist (hs.filterMap _),fun y hy=>h.heap.apart y (hs.subset hy)⟩,
   fun y hy=>h.own y (hs.subset hy),h.ext⟩
theorem MS.perm {C:Ctx}{R:Seal}{H H':Heap}{w:World}(h:MS C R H w)(hs:H.Perm H'):MS C R H' w:=
  ⟨h.sealed,h.ge,h.fresh,⟨fun y hy=>h.heap.holds y (hs.mem_iff.2 hy),(hs.filterMap _).nodup_iff.1 h.heap.nodup,fun y hy=>h.heap.apart y (hs.mem_iff.2 hy)⟩,
   fun y hy=>h.own y (hs.mem_iff.2 hy),h.ext⟩
theorem MS.fixed {C:Ctx}{R:Seal}{H:Heap}{w:World}{x:HEnt}{b:Nat}{o:Obj}(h:MS C R (x::H) w)(hb:x.blk=some b)(ho:w.heap[b]? =some o):
  MS C (R.put b o) H w∧R.le (R.put b o):=by
 have hx:x∈x::H:=by simp
 have hRb:=h.heap.apart x hx b hb
 have hle:=Seal.put_le (o:=o) hRb
 have hnd:=h.heap.nodup
 rw[List.filterMap_cons,hb] at hnd
 refine⟨⟨?_,Seal.le_trans h.ge hle,?_,⟨fun y hy=> ?_,(List.nodup_cons.1 hnd).2,fun y hy k hk=> ?_⟩,fun y hy=>h.own y (by simp[hy]),h.ext⟩,hle⟩
 ·intro k o' hk
  simp only[Seal.put] at hk
  by_cases e:k=b
  ·subst e;rw[if_pos rfl] at hk;rw[ho];exact hk
  ·rw[if_neg e] at hk;exact h.sealed k o' hk
 ·intro k hk
  simp only[Seal.put] at hk
  by_cases e:k=b
  ·subst e;exact .inr (h.own x hx k hb)
  ·rw[if_neg e] at hk;exact h.fresh k hk
 ·exact HEnt.holds_mono (h.heap.holds y (by simp[hy])) hle fun _ _=>rfl
 ·have:k≠b:=by
   rintro rfl
   exact(List.nodup_cons.1 hnd).1 (List.mem_filterMap.2 ⟨y,hy,hk⟩)
  simp only[Seal.put]
  rw[if_neg this]
  exact h.heap.apart y (by simp[hy]) k hk
def blks (H:Heap):List Nat:=H.filterMap HEnt.blk
theorem MS.glo {C:Ctx}{R:Seal}{H:Heap}{w:World}(h:MS C R H w):C.G.p R:=C.G.mono _ _ h.ge C.hG
theorem MS.call {C:Ctx}{R R':Seal}{H1 H1' H2:Heap}{w w':World}{G:Glo}{hG:G.p R}(h:MS C R (H1++H2) w)(h':MS ⟨w,R,blks H1,G,hG,[]⟩ R' H1' w'):MS C R' (H1'++H2) w':=by
 have hnd:=h.heap.nodup
 rw[List.filterMap_append] at hnd
 have hd:=List.nodup_append.1 hnd
 have hB1:∀b,b∈blks H1→C.w0.heap.size≤b∨b∈C.B0:=by
  intro b hb
  obtain⟨e,he,hb⟩:=List.mem_filterMap.1 hb
  exact h.own e (by simp[he]) b hb
 have h2:∀z∈H2,∀b,z.blk=some b→b<w.heap.size∧b∉blks H1:=by
  intro z hz b hb
  refine⟨HEnt.blk_lt (h.heap.holds z (by simp[hz])) hb,fun hm=> ?_⟩
  exact hd.2.2 b hm b (List.mem_filterMap.2 ⟨z,hz,hb⟩) rfl
 refine⟨h'.sealed,Seal.le_trans h.ge h'.ge,?_,⟨?_,?_,?_⟩,?_,?_⟩
 ·intro b hb
  rcases h'.fresh b hb with h1|h1|h1
  ·exact h.fresh b h1
  ·exact .inr (.inl (Nat.le_trans h.ext.size h1))
  ·exact .inr (hB1 b h1)
 ·intro z hz
  rcases List.mem_append.1 hz with hz|hz
  ·exact h'.heap.holds z hz
  ·exact HEnt.holds_mono (h.heap.holds z (by simp[hz])) h'.ge fun b hb=>h'.ext.block b (h2 z hz b hb).1 (h2 z hz b hb).2
 ·rw[List.filterMap_append]
  refine List.nodup_append.2 ⟨h'.heap.nodup,hd.2.1,?_⟩
  rintro b hb k hk rfl
  obtain⟨e,he,hb⟩:=List.mem_filterMap.1 hb
  obtain⟨z,hz,hk⟩:=List.mem_filterMap.1 hk
  have:=h2 z hz b hk
  rcases h'.own e he b hb with h1|h1
  ·exact absurd (show w.heap.size≤b from h1) (by have:=this.1;omega)
  ·exact this.2 h1
 ·intro z hz b hb
  rcases List.mem_append.1 hz with hz|hz
  ·exact h'.heap.apart z hz b hb
  ·cases hR:R' b with
   |none=>rfl
   |some o=>
    have:=h2 z hz b hb
    rcases h'.fresh b (by simp[hR]) with h1|h1|h1
    ·exact absurd (h.heap.apart z (by simp[hz]) b hb) h1
    ·exact absurd h1 (by have:=this.1;show ¬w.heap.size≤b;omega)
    ·exact absurd h1 this.2
 ·intro z hz b hb
  rcases List.mem_append.1 hz with hz|hz
  ·rcases h'.own z hz b hb with h1|h1
   ·exact .inl (Nat.le_trans h.ext.size h1)
   ·exact hB1 b h1
  ·exact h.own z (by simp[hz]) b hb
 ·refine⟨h'.ext.os.trans h.ext.os,h'.ext.tape.trans h.ext.tape,h'.ext.output.trans h.ext.output,Nat.le_trans h.ext.size h'.ext.size,fun b hb hB=> ?_⟩
  rw[h'.ext.block b (Nat.lt_of_lt_of_le hb h.ext.size) (fun hm=>by rcases hB1 b hm with h1|h1;omega;exact hB h1)]
  exact h.ext.block b hb hB
theorem MS.enter {C:Ctx}{R:Seal}{H1 H2:Heap}{w:World}{G:Glo}{hG:G.p R}(h:MS C R (H1++H2) w):MS ⟨w,R,blks H1,G,hG,[]⟩ R H1 w:=
 have hd:=h.drop (H':=H1) (by simp)
 ⟨h.sealed,Seal.le_refl R,fun _ hb=>.inl hb,hd.heap,fun z hz b hb=>.inr (List.mem_filterMap.2 ⟨z,hz,hb⟩),Ext.refl w _⟩
end
section
open Go
section
variable {P:Program} {C:Ctx} {n:Nat} {env:Env} {H:Heap} {Q:AExit→Env→Heap→Prop} {ops:Array Oper} {rest:List Oper}
/-! ## Regions -/
theorem Az {id:Nat}{l:List Oper}(h:AOps P C n l.toArray l env H Q):AWp P C n (.region id l.toArray false) env H Q:=
 fun R a w hm hf=>wp_region_lit (h R a w hm hf)
theorem GE (h:Q .normal env H):AOps P C n ops [] env H Q:=
 fun R _ _ hm hf=>wpList_nil ⟨.normal,env,H,R,h,rfl,hm,hf⟩
/-! ## Guards -/
def aI (ops:Array Oper)(env:Env):Option (Nat×Bool)→Option (Bool×Bool)
 |none=>some (true,true)
 |some (j,want)=>
  match ops[j]? with
  |some o=>match o.dst with
   |some d=>match Env.get env d with
    |some (.bool b)=>some (b,want)
    |_=>none
   |none=>none
  |none=>none
theorem bg {D:List Deferred}{R:Seal}{a:Act}{o:Oper}{b want:Bool}(hf:FS D n R env a)(hg:aI ops env o.guard=some (b,want)):
  Region.wanted o (yielded ops a.tmps)=(b==want):=by
 unfold aI at hg
 unfold Region.wanted
 split at hg
 ·rename_i h;rw[h];simp only[Option.some.injEq,Prod.mk.injEq] at hg;simp[hg.1.symm,hg.2.symm]
 ·rename_i j wt h
  rw[h]
  split at hg
  ·rename_i o' ho
   split at hg
   ·rename_i d hd
    split at hg
    ·rename_i b' hb
     simp only[Option.some.injEq,Prod.mk.injEq] at hg
     obtain⟨rfl,rfl⟩:=hg
     obtain⟨x,hx,hr⟩:=hf.fr d _ hb
     rw[aH.1 hr] at hx
     simp[yielded,ho,hd,hx]
    ·simp at hg
   ·simp at hg
  ·simp at hg
def bi (ops:Array Oper):Option (Nat×Bool)→Option Nat
 |some (j,_)=>match ops[j]? with
  |some o=>o.dst
  |none=>none
 |none=>none
theorem EN {o:Oper}{d:Nat}(hg:aI ops env o.guard=some (true,false))(hd:o.dst=some d)(hdn:Nat.ble (d+1) n=true)
  (h:AOps P C n ops rest ((d,.raw undef)::env) H Q):AOps P C n ops (o::rest) env H Q:=by
 intro R a w hm hf
 refine wpList_step fun K hK=> ?_
 rw[bg hf hg,if_neg (by simp),hd]
 exact hK _ _ (h R _ w hm (hf.put hdn (an.2 rfl)))
theorem Dg {o:Oper}{d:Nat}(hg:aI ops env o.guard=some (false,true))(hd:o.dst=some d)(hdn:Nat.ble (d+1) n=true)
  (h:AOps P C n ops rest ((d,.raw undef)::env) H Q):AOps P C n ops (o::rest) env H Q:=by
 intro R a w hm hf
 refine wpList_step fun K hK=> ?_
 rw[bg hf hg,if_neg (by simp),hd]
 exact hK _ _ (h R _ w hm (hf.put hdn (an.2 rfl)))
theorem lw {o:Oper}{b want:Bool}(hg:aI ops env o.guard=some (b,want))(hb:(b==want)=false)(hd:o.dst=none)
  (h:AOps P C n ops rest env H Q):AOps P C n ops (o::rest) env H Q:=by
 intro R a w hm hf
 refine wpList_step fun K hK=> ?_
 rw[bg hf hg,hb,if_neg (by simp),hd]
 exact hK _ _ (h R _ w hm hf)
theorem pF {o:Oper}{d e:Nat}(hs:bi ops o.guard=some e)(hv:Env.get env e=some (.raw undef))(hd:o.dst=some d)(hdn:Nat.ble (d+1) n=true)
  (h:AOps P C n ops rest ((d,.raw undef)::env) H Q):AOps P C n ops (o::rest) env H Q:=by
 intro R a w hm hf
 refine wpList_step fun K hK=> ?_
 have hw:Region.wanted o (yielded ops a.tmps)=false:=by
  unfold bi at hs
  unfold Region.wanted
  split at hs
  ·rename_i j want h
   rw[h]
   split at hs
   ·rename_i o' ho
    obtain⟨x,hx,hr⟩:=hf.fr e _ hv
    rw[an.1 hr] at hx
    simp[yielded,ho,hs,hx,undef]
   ·cases hs
  ·cases hs
 rw[hw,if_neg (by simp),hd]
 exact hK _ _ (h R _ w hm (hf.put hdn (an.2 rfl)))
theorem vm {o:Oper}{b want:Bool}{d:Nat}(_hg:aI ops env o.guard=some (b,want))(_hs:bi ops o.guard=some d)(hv:Env.get env d=some (.bool b))
  (ht:b=true→AOps P C n ops (o::rest) ((d,.bool true)::env) H Q) (hf:b=false→AOps P C n ops (o::rest) ((d,.bool false)::env) H Q):
  AOps P C n ops (o::rest) env H Q:=by
 have key:∀x,b=x→∀{D:List Deferred} R a,FS D n R env a→FS D n R ((d,.bool x)::env) a:=by
  rintro x rfl D R a hfr
  refine⟨fun k v hk=> ?_,hfr.size,hfr.defers⟩
  simp only[Env.get] at hk
  cases hb:Nat.beq d k with
  |true=>
   rw[hb] at hk
   have:=Nat.eq_of_beq_eq_true hb
   subst this
   simp only[Option.some.injEq] at hk
   subst hk
   exact hfr.fr d _ hv
  |false=>rw[hb] at hk;exact hfr.fr k v hk
 intro R a w hm hfr
 cases hb:b with
 |true=>exact ht hb R a w hm (key true hb R a hfr)
 |false=>exact hf hb R a w hm (key false hb R a hfr)
/-! ## An operation that hands back a value -/
def jP (R:Seal)(env:Env)(ρ:Operand→Value):Prop:=∀x av,ai env x=some av→Rel R av (ρ x)
theorem mj {o:Oper}{d:Nat}{av:AVal}{H':Heap}{b:Bool}(hg:aI ops env o.guard=some (b,b))(hd:o.dst=some d)(hdn:Nat.ble (d+1) n=true)
  (hx:∀R ρ w,MS C R H w→jP R env ρ→∃v w' R',(execOp ρ o).run P w= .ok (.value v) w'∧R.le R'∧Rel R' av v∧MS C R' H' w')
  (h:AOps P C n ops rest ((d,av)::env) H' Q):AOps P C n ops (o::rest) env H Q:=by
 intro R a w hm hf
 refine wpList_step fun K hK=> ?_
 rw[bg hf hg,if_pos (by simp)]
 obtain⟨v,w',R',hr,hR,hv,hm'⟩:=hx R a.eval w hm (fun x av h=>hf.eval h)
 rw[Oper.wp,hr,Oper.upon_value,hd]
 exact hK _ _ (h R' _ w' hm' ((hf.mono hR).put hdn hv))
theorem db {X:Type}{o:Oper}{d:Nat}{av:X→AVal}{H':X→Heap}{b:Bool}(hg:aI ops env o.guard=some (b,b))(hd:o.dst=some d)(hdn:Nat.ble (d+1) n=true)
  (hx:∀R ρ w,MS C R H w→jP R env ρ→∃x v w' R',(execOp ρ o).run P w= .ok (.value v) w'∧R.le R'∧Rel R' (av x) v∧MS C R' (H' x) w')
  (h:∀x,AOps P C n ops rest ((d,av x)::env) (H' x) Q):AOps P C n ops (o::rest) env H Q:=by
 intro R a w hm hf
 refine wpList_step fun K hK=> ?_
 rw[bg hf hg,if_pos (by simp)]
 obtain⟨x,v,w',R',hr,hR,hv,hm'⟩:=hx R a.eval w hm (fun x av h=>hf.eval h)
 rw[Oper.wp,hr,Oper.upon_value,hd]
 exact hK _ _ (h x R' _ w' hm' ((hf.mono hR).put hdn hv))
theorem yY {o:Oper}{d:Nat}{av:AVal}{b:Bool}(hg:aI ops env o.guard=some (b,b))(hd:o.dst=some d)(hdn:Nat.ble (d+1) n=true)
  (hx:∀R ρ w,MS C R H w→jP R env ρ→∃v,(execOp ρ o).run P w= .ok (.value v) w∧Rel R av v)
  (h:AOps P C n ops rest ((d,av)::env) H Q):AOps P C n ops (o::rest) env H Q:=
 mj hg hd hdn (fun R ρ w hm hf=>let ⟨v,hr,hv⟩:=hx R ρ w hm hf;⟨v,w,R,hr,Seal.le_refl R,hv,hm⟩) h
variable {d:Nat} {t:TypeId} {p:String} {af:Array Edge} {g:Option (Nat×Bool)} {b:Bool} {av:AVal}
/-! ### Integers -/
def ltB (x y:Int):Bool:=decide (x<y)
def eqB (x y:Int):Bool:=decide (x=y)
theorem jJ {x y:Int}:ltB x y=true↔x<y:=by simp[ltB]
theorem g8 {x y:Int}:ltB x y=false↔y≤x:=by simp[ltB]
theorem dp {x y:Int}:eqB x y=true↔x=y:=by simp[eqB]
theorem ic {x y:Int}:eqB x y=false↔x≠y:=by simp[eqB]
theorem DX {x y:Int}:ltB x y=decide (x<y):=rfl
theorem Ep {x y:Int}:eqB x y=decide (x=y):=rfl
theorem FZ {x y:Int}:decide (x≤y)= !ltB y x:=by rw[Bool.eq_iff_iff];simp[ltB]
theorem F9 {x y:Int}:decide (x≥y)= !ltB x y:=by rw[Bool.eq_iff_iff];simp[ltB]
attribute [irreducible] ltB eqB
def fd (op:BinOp)(k:IntKind)(x y:Int):Option AVal:=
 match op with
 |.add=>some (.int k (k.wrap (x+y)))
 |.sub=>some (.int k (k.wrap (x-y)))
 |.mul=>some (.int k (k.wrap (x*y)))
 |.and=>some (.int k (k.wrap (BitVec.ofInt k.bits x&&& BitVec.ofInt k.bits y).toNat))
 |.or=>some (.int k (k.wrap (BitVec.ofInt k.bits x|||BitVec.ofInt k.bits y).toNat))
 |.xor=>some (.int k (k.wrap (BitVec.ofInt k.bits x^^^BitVec.ofInt k.bits y).toNat))
 |.andNot=>some (.int k (k.wrap (BitVec.ofInt k.bits x&&& ~~~ BitVec.ofInt k.bits y).toNat))
 |.eql=>some (.bool (eqB x y))
 |.neq=>some (.bool (!eqB x y))
 |.lss=>some (.bool (ltB x y))
 |.leq=>some (.bool (!ltB y x))
 |.gtr=>some (.bool (ltB y x))
 |.geq=>some (.bool (!ltB x y))
 |_=>none
theorem vR {op:BinOp}{k:IntKind}{m q:Int}{tx:TypeId}{x y:Operand}{w:World}(ho:fd op k m q=some av):
  ∃v,Sem.run P (do eqGuard op tx x y (.int k m) (.int k q);Go.binOp op tx (.int k m) (.int k q)) w= .ok v w∧∀R,Rel R av v:=by
 cases op<;>simp only[fd,Option.some.injEq] at ho<;>
  first
   |(cases ho;done)
   |(subst ho;refine⟨.int k _,?_,fun _=>am.2 rfl⟩;simp only[Go.binOp,eqGuard,ne_eq,not_true_eq_false,if_false,Op.intArith,Op.intBits,Op.intCmp];rfl)
   |(subst ho;refine⟨.bool _,?_,fun _=>aH.2 rfl⟩;simp only[Go.binOp,eqGuard,ne_eq,not_true_eq_false,if_false,Op.intArith,Op.intBits,Op.intCmp,DX,Ep];rfl)
   |(subst ho;refine⟨.bool _,?_,fun _=>aH.2 rfl⟩;simp only[Go.binOp,eqGuard,ne_eq,not_true_eq_false,if_false,Op.intArith,Op.intBits,Op.intCmp,FZ,F9];rfl)
end
end
section
open Go
/-! ## What the model's tables say of the types -/
structure TI where
 desc:TypeDesc
 size:Nat
 bytes:Nat
 zero:Option Value
 cmp:Bool
def qO (P:Program):List TI→Nat→Prop
 |[],_=>True
 |x::r,t=>(P.underlying t=some x.desc∧∃i,P.info? t=some i∧i.size=x.size∧i.bytes=x.bytes∧i.zero=x.zero∧i.comparable=x.cmp)∧qO P r (t+1)
class Tab (P:Program) where
 list:List TI
 ok:qO P list 0
def nth {α:Type}:List α→Nat→Option α
 |[],_=>none
 |x::_,0=>some x
 |_::r,n+1=>nth r n
def tab (P:Program)[T:Tab P](t:Nat):Option TI:=nth T.list t
theorem lD {P:Program}:∀{l:List TI} {t k:Nat} {x:TI},qO P l t→nth l k=some x→
  P.underlying (t+k)=some x.desc∧∃i,P.info? (t+k)=some i∧i.size=x.size∧i.bytes=x.bytes∧i.zero=x.zero∧i.comparable=x.cmp
 |[],_,_,_,_,h=>by simp[nth] at h
 |y::r,t,0,x,ho,h=>by simp only[nth,Option.some.injEq] at h;subst h;exact ho.1
 |y::r,t,k+1,x,ho,h=>by
  have:=lD (l:=r) (t:=t+1) (k:=k) ho.2 h
  rw[show t+(k+1)=t+1+k by omega]
  exact this
section
variable {P:Program} [T:Tab P] {t:TypeId} {x:TI} (h:tab P t=some x)
include h
theorem a6:P.underlying t=some x.desc:=by have:=(lD T.ok h).1;rwa [Nat.zero_add] at this
theorem du:∃i,P.info? t=some i∧i.size=x.size∧i.bytes=x.bytes∧i.zero=x.zero∧i.comparable=x.cmp:=by
 have:=(lD T.ok h).2;rwa [Nat.zero_add] at this
theorem al (w:World):(underlying t).run P w= .ok x.desc w:=run_underlying (a6 h) w
theorem ku (w:World):∃i,(typeInfo t).run P w= .ok i w∧i.size=x.size∧i.bytes=x.bytes∧i.zero=x.zero∧i.comparable=x.cmp:=by
 obtain⟨i,hi,r⟩:=du h
 refine⟨i,?_,r⟩
 simp only[typeInfo,Sem.run_bind,run_program,Result.andThen_ok,hi,Sem.run_pure]
theorem aC (w:World):(sizeOf t).run P w= .ok x.size w:=by
 obtain⟨i,hi,hs,_⟩:=ku h w
 simp only[sizeOf,Sem.run_bind,hi,Result.andThen_ok,Sem.run_pure,hs]
theorem bJ {v:Value}(hz:x.zero=some v)(w:World):(zeroValue t).run P w= .ok v w:=by
 obtain⟨i,hi,_,_,h0,_⟩:=ku h w
 simp only[zeroValue,Sem.run_bind,hi,Result.andThen_ok,h0,hz,Sem.run_pure]
def a8:TypeDesc→Bool
 |.struct _=>true
 |.array _ _=>true
 |_=>false
theorem bL (w:World):(isAgg t).run P w= .ok (a8 x.desc) w:=by
 simp only[isAgg,Sem.run_bind,al h w,Result.andThen_ok]
 cases x.desc<;>rfl
end
/-! ## A function's contract -/
inductive ARes where
 |ret (v:AVal)
 |panic (v:AVal)
def fT (R:Seal):ARes→Ending→Prop
 |.ret v,e=>∃x,e= .returned x∧Rel R v x
 |.panic v,e=>∃x,e= .panicked [{v:=x,recovered:=false}]∧Rel R v x
def GK (P:Program)(f:FuncId)(args:Array Value)(w:World)(R:Ending→World→Prop):Prop:=
 ((callFunc f args).run P w= .ok (.enter f args) w∧Calls P f args w R)∨∃v w',(callFunc f args).run P w= .ok (.value v) w'∧R (.returned v) w'
def ah (P:Program)(G:Glo)(f:FuncId)(avs:List AVal)(H:Heap)(Qf:ARes→Heap→Prop):Prop:=
 ∀R w args (hG:G.p R),MS ⟨w,R,blks H,G,hG,[]⟩ R H w→RelV R avs args.toList→
  GK P f args w fun e w'=>∃res H' R',Qf res H'∧fT R' res e∧MS ⟨w,R,blks H,G,hG,[]⟩ R' H' w'
theorem ah.mono {P:Program}{G:Glo}{f:FuncId}{avs:List AVal}{H:Heap}{Qf Qf':ARes→Heap→Prop}(h:ah P G f avs H Qf)(hq:∀r H',Qf r H'→Qf' r H'):
  ah P G f avs H Qf':=by
 intro R w args hG hm ha
 rcases h R w args hG hm ha with⟨h1,h2⟩|⟨v,w',h1,res,H',R',q,r⟩
 ·exact .inl ⟨h1,h2.mono fun e w' ⟨res,H',R',q,r⟩=>⟨res,H',R',hq _ _ q,r⟩⟩
 ·exact .inr ⟨v,w',h1,res,H',R',hq _ _ q,r⟩
theorem dx {P:Program}{w:World}{b:Nat}{C:Array Value}{e:TypeId}{fz:Nat×Nat}(hb:w.heap[b]? =some (.cells C e fz))(o:Nat):
  ∀(n i:Nat) (acc:Array Value),o+i+n≤C.size→(loadCellsFrom ⟨b,o,none⟩ i n acc).run P w= .ok (acc.toList++(C.toList.drop (o+i)).take n).toArray w
 |0,i,acc,_=>by simp[loadCellsFrom]
 |n+1,i,acc,h=>by
  have hc:w.cell? ((⟨b,o,none⟩:Addr).add i)=some C[o+i]:=by
   simp only[World.cell?,Addr.add]
   by_cases hi:i=0
   ·subst hi;simp[hb]
   ·simp[hi,hb]
  simp only[loadCellsFrom,Sem.run_bind,run_load,hc,Result.andThen_ok]
  rw[dx hb o n (i+1) _ (by omega)]
  have:(C.toList.drop (o+i)).take (n+1)=C[o+i]::(C.toList.drop (o+(i+1))).take n:=by
   rw[List.drop_eq_getElem_cons (by simp;omega),List.take_succ_cons]
   simp[Nat.add_assoc]
  rw[this]
  simp
theorem ay {R:Seal}:∀{cs:List AVal} {vs:List Value},RelL R cs vs→vs.length=cs.length
 |[],_,h=>by simp only[RelL] at h;subst h;rfl
 |c::cs,_,h=>by
  obtain⟨v,t,rfl,_,h⟩:=h
  simp[ay h]
theorem bV {R:Seal}:∀{cs:List AVal} {vs:List Value} {i:Nat} {c:AVal},RelL R cs vs→cs[i]? =some c→∃v,vs[i]? =some v∧RelC R c [v]
 |[],_,_,_,_,h=>by simp at h
 |c::cs,_,0,x,h,hi=>by
  obtain⟨v,t,rfl,hv,h⟩:=h
  simp only[List.getElem?_cons_zero,Option.some.injEq] at hi
  subst hi
  exact⟨v,rfl,hv⟩
 |c::cs,_,i+1,x,h,hi=>by
  obtain⟨v,t,rfl,_,h⟩:=h
  exact bV (cs:=cs) (vs:=t) (i:=i) h (by simpa using hi)
theorem aZ {R:Seal}:∀{a b:List AVal} {vs ws:List Value},RelL R a vs→RelL R b ws→RelL R (a++b) (vs++ws)
 |[],_,_,_,h,k=>by simp only[RelL] at h;subst h;exact k
 |c::cs,_,_,_,h,k=>by
  obtain⟨v,t,rfl,hv,h⟩:=h
  exact⟨v,_,rfl,hv,aZ h k⟩
theorem bD {R:Seal}:∀{a:List AVal} {vs:List Value} (n:Nat),RelL R a vs→RelL R (a.take n) (vs.take n)
 |[],_,n,h=>by simp only[RelL] at h;subst h;simp[RelL]
 |c::cs,_,0,h=>by simp[RelL]
 |c::cs,_,n+1,h=>by
  obtain⟨v,t,rfl,hv,h⟩:=h
  exact⟨v,_,rfl,hv,bD n h⟩
theorem bN {R:Seal}:∀{a:List AVal} {vs:List Value} (n:Nat),RelL R a vs→RelL R (a.drop n) (vs.drop n)
 |[],_,n,h=>by simp only[RelL] at h;subst h;simp[RelL]
 |c::cs,_,0,h=>h
 |c::cs,_,n+1,h=>by
  obtain⟨v,t,rfl,hv,h⟩:=h
  exact bN n h
theorem tC {R:Seal}{a:AVal}{v:Value}(h:RelC R a [v])(ha:a.isAgg=false):vAgg v=false:=by
 cases a<;>simp only[RelC] at h
 case bool=>simp only[List.cons.injEq] at h;rw[h.1];rfl
 case int=>simp only[List.cons.injEq] at h;rw[h.1];rfl
 case str=>simp only[List.cons.injEq] at h;rw[h.1];rfl
 case raw x=>cases x<;>simp_all [Value.cells,vAgg,AVal.isAgg]
 case list=>obtain⟨_,_,h,_⟩:=h;simp only[List.cons.injEq] at h;rw[h.1];rfl
 case rop=>obtain⟨_,_,_,_,_,h,_⟩:=h;simp only[List.cons.injEq] at h;rw[h.1];rfl
 case agg=>simp[AVal.isAgg] at ha
 case tuple=>obtain⟨_,h,_⟩:=h;simp only[List.cons.injEq] at h;rw[h.1];rfl
 case iface=>obtain⟨_,h,_⟩:=h;simp only[List.cons.injEq] at h;rw[h.1];rfl
 case func=>obtain⟨_,_,h,_⟩:=h;simp only[List.cons.injEq] at h;rw[h.1];rfl
 case own=>obtain⟨h,h2⟩:=h;simp only[List.cons.injEq] at h;rw[h.1];exact h2
theorem bH {R:Seal}{a:AVal}{v:Value}(h:RelC R a [v])(ha:a.isAgg=false):Rel R a v:=nM h ha (tC h ha)
def di:Nat→List AVal→Env
 |_,[]=>[]
 |i,a::t=>(i,a)::di (i+1) t
theorem ke {R:Seal}:∀{avs:List AVal} {vs:List Value} {i k:Nat} {v:AVal},RelV R avs vs→Env.get (di i avs) k=some v→i≤k∧∃x,vs[k-i]? =some x∧Rel R v x
 |[],_,_,_,_,_,h=>by simp[di,Env.get] at h
 |a::t,_,i,k,v,hr,h=>by
  obtain⟨x,s,rfl,hx,hr⟩:=hr
  simp only[di,Env.get] at h
  cases hb:Nat.beq i k with
  |true=>
   rw[hb] at h
   have:=Nat.eq_of_beq_eq_true hb
   subst this
   simp only[Option.some.injEq] at h
   subst h
   exact⟨Nat.le_refl _,x,by simp,hx⟩
  |false=>
   rw[hb] at h
   obtain⟨h1,y,hy,hr⟩:=ke hr h
   refine⟨by omega,y,?_,hr⟩
   rw[show k-i=(k-(i+1))+1 by omega]
   exact hy
theorem fw {R:Seal}:∀{cs:List AVal} {vs:List Value},RelV R cs vs→vs.length=cs.length
 |[],_,h=>by simp only[RelV] at h;subst h;rfl
 |c::cs,_,h=>by
  obtain⟨v,t,rfl,_,h⟩:=h
  simp[fw h]
/-! What comes back. -/
def Bm (P:Program)[Tab P](env:Env)(H:Heap):ResultVar→AVal→Prop
 |.tmp t,v=>Env.get env t=some v
 | .cell a ty,v=>∃(b i:Nat) (eT:Option TypeId) (cs:List AVal) (x:TI),(Env.get env a=some (.raw (.pointer (some ⟨b,0,none⟩)))∨∃j,Env.get env a=some (.own j (.pointer (some ⟨b,0,none⟩))))∧H[i]? =some (HEnt.cells b eT cs)∧tab P ty=some x∧x.size=cs.length∧
   ((a8 x.desc=true∧v= .agg cs)∨(a8 x.desc=false∧cs=[v]∧v.isAgg=false))
def lN (P:Program)[Tab P](env:Env)(H:Heap):List ResultVar→List AVal→Prop
 |[],vs=>vs=[]
 |r::rs,vs=>∃v t,vs=v::t∧Bm P env H r v∧lN P env H rs t
def rp:List AVal→AVal
 |[v]=>v
 |vs=>.tuple vs
def RetQ (P:Program)[Tab P](rs:List ResultVar)(Qf:ARes→Heap→Prop):AExit→Env→Heap→Prop
 |.ret,env,H|.normal,env,H=>∃vs H',lN P env H rs vs∧H'.Sublist H∧Qf (.ret (rp vs)) H'
 |.panic v,_,H=>∃H',H'.Sublist H∧Qf (.panic v) H'
 |_,_,_=>False
def nZ (tmps:Array Value):ResultVar→Sem Value
 |.tmp t=>pure (tmps.getD t undef)
 |.cell a t=>do loadVar t (←asAddr (tmps.getD a undef))
theorem vY (fn:Func)(tmps:Array Value):results fn tmps=(do
  let vs ←fn.results.mapM (nZ tmps)
  pure (if h:vs.size=1 then vs[0] else .tuple vs)):=rfl
theorem vZ {P:Program}{D:List Deferred}[Tab P]{C:Ctx}{n:Nat}{env:Env}{H:Heap}{R:Seal}{w:World}{a:Act}{r:ResultVar}{v:AVal}(hm:MS C R H w)(hf:FS D n R env a)
  (h:Bm P env H r v):∃x,(nZ a.tmps r).run P w= .ok x w∧Rel R v x:=by
 cases r with
 |tmp t=>
  obtain⟨x,hx,hr⟩:=hf.fr t v h
  exact⟨x,by simp[nZ,hx],hr⟩
 |cell c ty=>
  obtain⟨b,i,eT,cs,x,hc,hi,ht,hs,hk⟩:=h
  have hc':∃y,a.tmps[c]? =some y∧y= .pointer (some ⟨b,0,none⟩):=by
   rcases hc with hc|⟨j,hc⟩
   ·obtain⟨y,hy,hr⟩:=hf.fr c _ hc;exact⟨y,hy,an.1 hr⟩
   ·obtain⟨y,hy,hr⟩:=hf.fr c _ hc;exact⟨y,hy,(aL.1 hr).1⟩
  obtain⟨y,hy,hr⟩:=hc'
  subst hr
  obtain⟨Cs,e,fz,hb,hl,_⟩:=hm.heap.holds _ (List.mem_of_getElem? hi)
  have hlen:=ay hl
  simp only[nZ,Array.getD_eq_getD_getElem?,hy,Option.getD_some,Sem.run_bind,asAddr,Sem.run_pure,Result.andThen_ok,loadVar,bL ht]
  rcases hk with⟨ha,rfl⟩|⟨ha,rfl,hv⟩
  ·rw[ha]
   simp only[if_true,Sem.run_bind,aC ht,Result.andThen_ok,loadCells]
   rw[dx hb 0 x.size 0 _ (by simp at hlen;omega)]
   refine⟨_,rfl,?_,rfl⟩
   simp at hlen
   simp only[Value.cells,RelC]
   rw[List.take_of_length_le (by simp;omega)]
   simpa using hl
  ·rw[ha]
   simp only[Bool.false_eq_true,if_false,run_load]
   obtain⟨z,hz,hrz⟩:=bV hl (i:=0) (c:=v) rfl
   have:w.cell? ⟨b,0,none⟩=some z:=by simp only[World.cell?,hb];simpa using hz
   simp only[this]
   exact⟨z,rfl,bH hrz hv⟩
theorem nL {P:Program}{D:List Deferred}[Tab P]{C:Ctx}{n:Nat}{env:Env}{H:Heap}{R:Seal}{w:World}{a:Act}(hm:MS C R H w)(hf:FS D n R env a):
  ∀{rs:List ResultVar} {vs:List AVal},lN P env H rs vs→∃xs:List Value,(rs.mapM (nZ a.tmps)).run P w= .ok xs w∧RelV R vs xs
 |[],vs,h=>by simp only[lN] at h;subst h;exact⟨[],rfl,rfl⟩
 |r::rs,vs,h=>by
  obtain⟨v,t,rfl,h1,h2⟩:=h
  obtain⟨x,hx,hr⟩:=vZ (P:=P) hm hf h1
  obtain⟨xs,hxs,hrs⟩:=nL hm hf h2
  refine⟨x::xs,?_,x,xs,rfl,hr,hrs⟩
  simp only[List.mapM_cons,Sem.run_bind,hx,Result.andThen_ok,hxs,Sem.run_pure]
theorem dl {P:Program}{D:List Deferred}[Tab P]{C:Ctx}{n:Nat}{env:Env}{H:Heap}{R:Seal}{w:World}{a:Act}{fn:Func}{vs:List AVal}(hm:MS C R H w)(hf:FS D n R env a)
  (h:lN P env H fn.results.toList vs):∃x,(results fn a.tmps).run P w= .ok x w∧Rel R (rp vs) x:=by
 obtain⟨xs,hxs,hr⟩:=nL hm hf h
 have hlen:=fw hr
 refine⟨_,by rw[vY];simp only[Sem.run_bind,Array.mapM_eq_mapM_toList,Sem.run_map,hxs,Result.andThen_ok,Sem.run_pure];rfl,?_⟩
 match vs,xs,hlen,hr with
 |[],[],_,_=>exact⟨⟨#[],rfl,rfl⟩,rfl⟩
 |[v],[x],_,hr=>
  obtain⟨y,t,e,hy,_⟩:=hr
  simp only[List.cons.injEq] at e
  obtain⟨rfl,rfl⟩:=e
  exact hy
 |v::v'::t,x::x'::s,_,hr=>exact⟨⟨_,by simp[Value.cells],hr⟩,rfl⟩
theorem k8 {P:Program}[Tab P]{G:Glo}{f:FuncId}{fn:Func}{c:Code}{avs:List AVal}{H:Heap}{Qf:ARes→Heap→Prop}{n:Nat}{rs:List ResultVar}(hf:P.funcs[f]? =some fn)
  (hb:fn.body=some c) (hc:∀args w,(callFunc f args).run P w= .ok (.enter f args) w) (hn:fn.ntmps=n) (hrs:fn.results=rs.toArray) (hlen:Nat.ble avs.length n=true)
  (h:∀w0 R0 hG,AWp P ⟨w0,R0,blks H,G,hG,[]⟩ n c (di 0 avs) H (RetQ P rs Qf)):ah P G f avs H Qf:=by
 intro R w args hG hm ha
 refine .inl ⟨hc args w,calls_of_wp hf hb ?_⟩
 have hl:=fw ha
 have hlen:=Nat.le_of_ble_eq_true hlen
 simp only[Array.length_toList] at hl
 refine wp_mono (h w R hG R _ w hm ⟨fun k v hk=> ?_,?_,rfl⟩) ?_
 ·obtain⟨_,x,hx,hr⟩:=ke ha hk
  refine⟨x,?_,hr⟩
  simp only[Nat.sub_zero,Array.getElem?_toList] at hx
  have:=Array.getElem?_eq_some_iff.1 hx
  rw[Array.getElem?_append_left this.1]
  exact hx
 ·simp only[Array.size_append,Array.size_replicate];omega
 ·rintro e a' w' ⟨x,env',H',R',q,er,hm',hf'⟩
  have hrs':fn.results.toList=rs:=by rw[hrs]
  cases x with
  |normal=>
   simp only[aD] at er;subst er
   obtain⟨vs,H'',hv,hs,q⟩:=q
   obtain⟨y,hy,hr⟩:=dl (fn:=fn) hm' hf' (by rw[hrs'];exact hv)
   exact⟨hf'.defers,y,hy,_,H'',R',q,⟨y,rfl,hr⟩,hm'.drop hs⟩
  |ret=>
   simp only[aD] at er;subst er
   obtain⟨vs,H'',hv,hs,q⟩:=q
   obtain⟨y,hy,hr⟩:=dl (fn:=fn) hm' hf' (by rw[hrs'];exact hv)
   exact⟨hf'.defers,y,hy,_,H'',R',q,⟨y,rfl,hr⟩,hm'.drop hs⟩
  |panic v=>
   obtain⟨y,rfl,hr⟩:=er
   obtain⟨H'',hs,q⟩:=q
   exact⟨hf'.defers,_,H'',R',q,⟨y,rfl,hr⟩,hm'.drop hs⟩
  |exit i=>exact q.elim
  |goto i=>exact q.elim
/-! ## At a call -/
def eq (env:Env):List Operand→Option (List AVal)
 |[]=>some []
 |x::t=>match ai env x,eq env t with
  |some v,some r=>some (v::r)
  |_,_=>none
theorem dq {R:Seal}{env:Env}{ρ:Operand→Value}(hf:∀x av,ai env x=some av→Rel R av (ρ x)):
  ∀{l:List Operand} {avs:List AVal},eq env l=some avs→RelV R avs (l.map ρ)
 |[],avs,h=>by simp only[eq,Option.some.injEq] at h;subst h;rfl
 |x::t,avs,h=>by
  simp only[eq] at h
  split at h
  ·rename_i v r hv hr
   simp only[Option.some.injEq] at h
   subst h
   exact⟨_,_,rfl,hf x v hv,dq hf hr⟩
  ·cases h
theorem ef {R:Seal}:∀{a b:List AVal} {vs ws:List Value},RelV R a vs→RelV R b ws→RelV R (a++b) (vs++ws)
 |[],_,_,_,h,k=>by simp only[RelV] at h;subst h;exact k
 |c::cs,_,_,_,h,k=>by
  obtain⟨v,t,rfl,hv,h⟩:=h
  exact⟨v,_,rfl,hv,ef h k⟩
section
variable {P:Program} {C:Ctx} {n:Nat} {env:Env} {H:Heap} {Q:AExit→Env→Heap→Prop} {ops:Array Oper} {rest:List Oper}
variable {d:Nat} {t:TypeId} {p:String} {af:Array Edge} {g:Option (Nat×Bool)} {b:Bool}
theorem EP {fv:Operand}{args:List Operand}{ts:Array TypeId}{f:FuncId}{l1 l2 avs:List AVal}{H1 H2:Heap}{Qf:ARes→Heap→Prop}
  (hg:aI ops env g=some (b,b)) (hdn:Nat.ble (d+1) n=true) (hfv:ai env fv=some (.func (.func f) l1 l2)) (ha:eq env args=some avs)
  (hs:ah P C.G f (l1++(avs++l2)) H1 Qf) (hH:H=H1++H2)
  (hret:∀v H',Qf (.ret v) H'→AOps P C n ops rest ((d,v)::env) (H'++H2) Q)
  (hpan:∀v H',Qf (.panic v) H'→Q (.panic v) env (H'++H2)):
  AOps P C n ops ({dst:=some d,op:=.call {callee:=.value fv,args:=args.toArray,argTypes:=ts},type:=t,pos:=p,after:=af,guard:=g}::rest) env H Q:=by
 subst hH
 intro R a w hm hf
 refine wpList_step fun K hK=> ?_
 rw[bg hf hg,if_pos (by simp)]
 obtain⟨⟨x1,x2,e,r1,r2⟩,_⟩:=aP (hf.eval hfv) rfl,trivial
 simp only[List.cons.injEq,and_true] at e
 have hrel:RelV R (l1++(avs++l2)) (x1++args.toArray.map a.eval++x2).toList:=by
  have:=ef r1 (ef (dq (fun x av h=>hf.eval h) ha) r2)
  simpa using this
 have hrun:(execOp a.eval {dst:=some d,op:=.call {callee:=.value fv,args:=args.toArray,argTypes:=ts},type:=t,pos:=p,after:=af,guard:=g:Oper}).run P w=
   (callFunc f (x1++args.toArray.map a.eval++x2)).run P w:=by
  simp only[execOp,resolve,e,Deferred.ofValue,Sem.run_bind,Sem.run_pure,Result.andThen_ok,invoke]
 rcases hs R w _ hm.glo hm.enter hrel with⟨h1,h2⟩|⟨v,w',h1,res,H',R',q,er,hm'⟩
 ·rw[Oper.wp,hrun,h1,Oper.upon_enter]
  refine h2.mono ?_
  rintro en w' ⟨res,H',R',q,er,hm'⟩
  have hm'':=hm.call hm'
  have hf':=hf.mono hm'.ge
  cases res with
  |ret v=>
   obtain⟨y,rfl,hr⟩:=er
   exact hK _ _ (hret v H' q R' _ w' hm'' (hf'.put hdn hr))
  |panic v=>
   obtain⟨y,rfl,hr⟩:=er
   exact⟨.panic v,env,_,R',hpan v H' q,⟨y,rfl,hr⟩,hm'',hf'⟩
 ·rw[Oper.wp,hrun,h1,Oper.upon_value]
  have hm'':=hm.call hm'
  have hf':=hf.mono hm'.ge
  cases res with
  |ret v'=>
   obtain⟨y,e,hr⟩:=er
   simp only[Ending.returned.injEq] at e
   subst e
   exact hK _ _ (hret v' H' q R' _ w' hm'' (hf'.put hdn hr))
  |panic v'=>obtain⟨y,e,_⟩:=er;cases e
end
end
section
open Go
set_option maxRecDepth 100000
def tyI (d i:TypeInfo):TI:=⟨d.desc,i.size,i.bytes,i.zero,i.comparable⟩
theorem tabI {P:Program}{l:List TI}{t:Nat}{d i:TypeInfo}(h:P.underlying t=some d.desc)(k:P.info? t=some i)(r:qO P l (t+1)):qO P (tyI d i::l) t:=⟨⟨h,i,k,rfl,rfl,rfl,rfl⟩,r⟩
noncomputable def xW:List TI:=[tyI Tryz.t0 Tryz.t0,tyI Tryz.t1 Tryz.t1,tyI Tryz.t2 Tryz.t2,tyI Tryz.t3 Tryz.t3,tyI Tryz.t4 Tryz.t4,tyI Tryz.t5 Tryz.t5,tyI Tryz.t5 Tryz.t6,tyI Tryz.t7 Tryz.t7,tyI Tryz.t7 Tryz.t8,tyI Tryz.t9 Tryz.t9,tyI Tryz.t9 Tryz.t10,tyI Tryz.t9 Tryz.t11,tyI Tryz.t12 Tryz.t12,tyI Tryz.t13 Tryz.t13,tyI Tryz.t13 Tryz.t14,tyI Tryz.t15 Tryz.t15,tyI Tryz.t16 Tryz.t16,tyI Tryz.t17 Tryz.t17,tyI Tryz.t18 Tryz.t18,tyI Tryz.t18 Tryz.t19,tyI Tryz.t20 Tryz.t20,tyI Tryz.t21 Tryz.t21,tyI Tryz.t22 Tryz.t22,tyI Tryz.t23 Tryz.t23,tyI Tryz.t23 Tryz.t24,tyI Tryz.t25 Tryz.t25,tyI Tryz.t26 Tryz.t26,tyI Tryz.t27 Tryz.t27,tyI Tryz.t28 Tryz.t28,tyI Tryz.t28 Tryz.t29,tyI Tryz.t3 Tryz.t30,tyI Tryz.t31 Tryz.t31,tyI Tryz.t31 Tryz.t32,tyI Tryz.t33 Tryz.t33,tyI Tryz.t34 Tryz.t34,tyI Tryz.t35 Tryz.t35,tyI Tryz.t35 Tryz.t36,tyI Tryz.t37 Tryz.t37,tyI Tryz.t38 Tryz.t38,tyI Tryz.t39 Tryz.t39,tyI Tryz.t40 Tryz.t40,tyI Tryz.t41 Tryz.t41,tyI Tryz.t42 Tryz.t42,tyI Tryz.t43 Tryz.t43,tyI Tryz.t43 Tryz.t44,tyI Tryz.t45 Tryz.t45,tyI Tryz.t45 Tryz.t46,tyI Tryz.t47 Tryz.t47,tyI Tryz.t47 Tryz.t48,tyI Tryz.t49 Tryz.t49,tyI Tryz.t50 Tryz.t50,tyI Tryz.t50 Tryz.t51,tyI Tryz.t52 Tryz.t52,tyI Tryz.t53 Tryz.t53,tyI Tryz.t54 Tryz.t54,tyI Tryz.t55 Tryz.t55,tyI Tryz.t56 Tryz.t56,tyI Tryz.t57 Tryz.t57,tyI Tryz.t58 Tryz.t58,tyI Tryz.t59 Tryz.t59,tyI Tryz.t59 Tryz.t60,tyI Tryz.t61 Tryz.t61,tyI Tryz.t62 Tryz.t62,tyI Tryz.t63 Tryz.t63,tyI Tryz.t64 Tryz.t64,tyI Tryz.t65 Tryz.t65,tyI Tryz.t66 Tryz.t66,tyI Tryz.t67 Tryz.t67,tyI Tryz.t68 Tryz.t68,tyI Tryz.t69 Tryz.t69,tyI Tryz.t70 Tryz.t70,tyI Tryz.t70 Tryz.t71,tyI Tryz.t72 Tryz.t72,tyI Tryz.t73 Tryz.t73,tyI Tryz.t74 Tryz.t74,tyI Tryz.t75 Tryz.t75,tyI Tryz.t76 Tryz.t76,tyI Tryz.t77 Tryz.t77,tyI Tryz.t78 Tryz.t78,tyI Tryz.t79 Tryz.t79,tyI Tryz.t80 Tryz.t80,tyI Tryz.t81 Tryz.t81,tyI Tryz.t81 Tryz.t82,tyI Tryz.t83 Tryz.t83,tyI Tryz.t84 Tryz.t84,tyI Tryz.t85 Tryz.t85,tyI Tryz.t86 Tryz.t86,tyI Tryz.t87 Tryz.t87,tyI Tryz.t88 Tryz.t88,tyI Tryz.t89 Tryz.t89,tyI Tryz.t90 Tryz.t90,tyI Tryz.t91 Tryz.t91,tyI Tryz.t92 Tryz.t92,tyI Tryz.t93 Tryz.t93,tyI Tryz.t94 Tryz.t94,tyI Tryz.t95 Tryz.t95,tyI Tryz.t96 Tryz.t96,tyI Tryz.t97 Tryz.t97,tyI Tryz.t98 Tryz.t98,tyI Tryz.t99 Tryz.t99,tyI Tryz.t100 Tryz.t100,tyI Tryz.t101 Tryz.t101,tyI Tryz.t102 Tryz.t102,tyI Tryz.t103 Tryz.t103,tyI Tryz.t104 Tryz.t104,tyI Tryz.t105 Tryz.t105,tyI Tryz.t106 Tryz.t106,tyI Tryz.t107 Tryz.t107,tyI Tryz.t108 Tryz.t108,tyI Tryz.t109 Tryz.t109,tyI Tryz.t110 Tryz.t110,tyI Tryz.t111 Tryz.t111,tyI Tryz.t112 Tryz.t112,tyI Tryz.t113 Tryz.t113,tyI Tryz.t114 Tryz.t114,tyI Tryz.t114 Tryz.t115,tyI Tryz.t116 Tryz.t116,tyI Tryz.t117 Tryz.t117,tyI Tryz.t118 Tryz.t118,tyI Tryz.t119 Tryz.t119,tyI Tryz.t120 Tryz.t120,tyI Tryz.t121 Tryz.t121,tyI Tryz.t122 Tryz.t122,tyI Tryz.t122 Tryz.t123,tyI Tryz.t124 Tryz.t124,tyI Tryz.t125 Tryz.t125,tyI Tryz.t126 Tryz.t126,tyI Tryz.t127 Tryz.t127,tyI Tryz.t128 Tryz.t128,tyI Tryz.t129 Tryz.t129,tyI Tryz.t130 Tryz.t130,tyI Tryz.t131 Tryz.t131,tyI Tryz.t132 Tryz.t132,tyI Tryz.t133 Tryz.t133,tyI Tryz.t134 Tryz.t134,tyI Tryz.t135 Tryz.t135,tyI Tryz.t136 Tryz.t136,tyI Tryz.t137 Tryz.t137,tyI Tryz.t138 Tryz.t138,tyI Tryz.t139 Tryz.t139,tyI Tryz.t140 Tryz.t140,tyI Tryz.t141 Tryz.t141,tyI Tryz.t142 Tryz.t142,tyI Tryz.t142 Tryz.t143,tyI Tryz.t144 Tryz.t144,tyI Tryz.t145 Tryz.t145,tyI Tryz.t146 Tryz.t146,tyI Tryz.t147 Tryz.t147,tyI Tryz.t148 Tryz.t148,tyI Tryz.t149 Tryz.t149,tyI Tryz.t150 Tryz.t150,tyI Tryz.t151 Tryz.t151,tyI Tryz.t152 Tryz.t152,tyI Tryz.t153 Tryz.t153,tyI Tryz.t154 Tryz.t154,tyI Tryz.t155 Tryz.t155,tyI Tryz.t156 Tryz.t156,tyI Tryz.t157 Tryz.t157,tyI Tryz.t158 Tryz.t158,tyI Tryz.t159 Tryz.t159,tyI Tryz.t160 Tryz.t160,tyI Tryz.t161 Tryz.t161,tyI Tryz.t162 Tryz.t162,tyI Tryz.t163 Tryz.t163,tyI Tryz.t164 Tryz.t164,tyI Tryz.t165 Tryz.t165,tyI Tryz.t166 Tryz.t166,tyI Tryz.t167 Tryz.t167,tyI Tryz.t168 Tryz.t168,tyI Tryz.t169 Tryz.t169,tyI Tryz.t170 Tryz.t170,tyI Tryz.t171 Tryz.t171,tyI Tryz.t172 Tryz.t172,tyI Tryz.t173 Tryz.t173,tyI Tryz.t174 Tryz.t174,tyI Tryz.t175 Tryz.t175,tyI Tryz.t176 Tryz.t176,tyI Tryz.t177 Tryz.t177,tyI Tryz.t177 Tryz.t178,tyI Tryz.t179 Tryz.t179,tyI Tryz.t180 Tryz.t180,tyI Tryz.t181 Tryz.t181,tyI Tryz.t182 Tryz.t182,tyI Tryz.t183 Tryz.t183,tyI Tryz.t184 Tryz.t184,tyI Tryz.t185 Tryz.t185,tyI Tryz.t186 Tryz.t186,tyI Tryz.t187 Tryz.t187,tyI Tryz.t188 Tryz.t188,tyI Tryz.t189 Tryz.t189,tyI Tryz.t190 Tryz.t190,tyI Tryz.t191 Tryz.t191,tyI Tryz.t192 Tryz.t192,tyI Tryz.t193 Tryz.t193,tyI Tryz.t194 Tryz.t194,tyI Tryz.t195 Tryz.t195,tyI Tryz.t195 Tryz.t196,tyI Tryz.t195 Tryz.t197,tyI Tryz.t198 Tryz.t198,tyI Tryz.t198 Tryz.t199,tyI Tryz.t200 Tryz.t200,tyI Tryz.t200 Tryz.t201,tyI Tryz.t202 Tryz.t202,tyI Tryz.t202 Tryz.t203,tyI Tryz.t204 Tryz.t204,tyI Tryz.t204 Tryz.t205,tyI Tryz.t206 Tryz.t206,tyI Tryz.t206 Tryz.t207,tyI Tryz.t208 Tryz.t208,tyI Tryz.t208 Tryz.t209,tyI Tryz.t210 Tryz.t210,tyI Tryz.t211 Tryz.t211,tyI Tryz.t12 Tryz.t212,tyI Tryz.t213 Tryz.t213,tyI Tryz.t213 Tryz.t214,tyI Tryz.t215 Tryz.t215,tyI Tryz.t216 Tryz.t216,tyI Tryz.t216 Tryz.t217,tyI Tryz.t218 Tryz.t218,tyI Tryz.t5 Tryz.t219,tyI Tryz.t220 Tryz.t220,tyI Tryz.t221 Tryz.t221,tyI Tryz.t222 Tryz.t222,tyI Tryz.t223 Tryz.t223,tyI Tryz.t224 Tryz.t224,tyI Tryz.t225 Tryz.t225,tyI Tryz.t226 Tryz.t226,tyI Tryz.t227 Tryz.t227,tyI Tryz.t228 Tryz.t228,tyI Tryz.t229 Tryz.t229,tyI Tryz.t230 Tryz.t230,tyI Tryz.t231 Tryz.t231,tyI Tryz.t232 Tryz.t232,tyI Tryz.t233 Tryz.t233,tyI Tryz.t233 Tryz.t234,tyI Tryz.t235 Tryz.t235,tyI Tryz.t236 Tryz.t236,tyI Tryz.t236 Tryz.t237,tyI Tryz.t238 Tryz.t238,tyI Tryz.t239 Tryz.t239,tyI Tryz.t239 Tryz.t240,tyI Tryz.t241 Tryz.t241,tyI Tryz.t242 Tryz.t242,tyI Tryz.t243 Tryz.t243,tyI Tryz.t3 Tryz.t244,tyI Tryz.t245 Tryz.t245,tyI Tryz.t246 Tryz.t246,tyI Tryz.t247 Tryz.t247,tyI Tryz.t248 Tryz.t248,tyI Tryz.t249 Tryz.t249,tyI Tryz.t250 Tryz.t250,tyI Tryz.t251 Tryz.t251,tyI Tryz.t252 Tryz.t252,tyI Tryz.t252 Tryz.t253,tyI Tryz.t254 Tryz.t254,tyI Tryz.t255 Tryz.t255,tyI Tryz.t256 Tryz.t256,tyI Tryz.t257 Tryz.t257,tyI Tryz.t258 Tryz.t258,tyI Tryz.t259 Tryz.t259,tyI Tryz.t260 Tryz.t260,tyI Tryz.t261 Tryz.t261,tyI Tryz.t262 Tryz.t262,tyI Tryz.t263 Tryz.t263,tyI Tryz.t264 Tryz.t264,tyI Tryz.t265 Tryz.t265,tyI Tryz.t266 Tryz.t266,tyI Tryz.t266 Tryz.t267,tyI Tryz.t268 Tryz.t268,tyI Tryz.t269 Tryz.t269,tyI Tryz.t270 Tryz.t270,tyI Tryz.t271 Tryz.t271,tyI Tryz.t272 Tryz.t272,tyI Tryz.t273 Tryz.t273,tyI Tryz.t274 Tryz.t274,tyI Tryz.t275 Tryz.t275,tyI Tryz.t276 Tryz.t276,tyI Tryz.t277 Tryz.t277,tyI Tryz.t278 Tryz.t278,tyI Tryz.t279 Tryz.t279,tyI Tryz.t280 Tryz.t280,tyI Tryz.t281 Tryz.t281,tyI Tryz.t282 Tryz.t282,tyI Tryz.t282 Tryz.t283,tyI Tryz.t284 Tryz.t284,tyI Tryz.t285 Tryz.t285,tyI Tryz.t286 Tryz.t286,tyI Tryz.t287 Tryz.t287,tyI Tryz.t288 Tryz.t288,tyI Tryz.t288 Tryz.t289,tyI Tryz.t290 Tryz.t290,tyI Tryz.t291 Tryz.t291,tyI Tryz.t292 Tryz.t292,tyI Tryz.t293 Tryz.t293,tyI Tryz.t294 Tryz.t294,tyI Tryz.t295 Tryz.t295,tyI Tryz.t296 Tryz.t296,tyI Tryz.t297 Tryz.t297,tyI Tryz.t131 Tryz.t298,tyI Tryz.t299 Tryz.t299,tyI Tryz.t300 Tryz.t300,tyI Tryz.t301 Tryz.t301,tyI Tryz.t301 Tryz.t302,tyI Tryz.t303 Tryz.t303,tyI Tryz.t304 Tryz.t304,tyI Tryz.t304 Tryz.t305,tyI Tryz.t306 Tryz.t306,tyI Tryz.t306 Tryz.t307,tyI Tryz.t308 Tryz.t308,tyI Tryz.t309 Tryz.t309,tyI Tryz.t310 Tryz.t310,tyI Tryz.t311 Tryz.t311,tyI Tryz.t312 Tryz.t312,tyI Tryz.t313 Tryz.t313,tyI Tryz.t314 Tryz.t314,tyI Tryz.t315 Tryz.t315,tyI Tryz.t316 Tryz.t316,tyI Tryz.t317 Tryz.t317,tyI Tryz.t317 Tryz.t318,tyI Tryz.t319 Tryz.t319,tyI Tryz.t320 Tryz.t320,tyI Tryz.t321 Tryz.t321,tyI Tryz.t322 Tryz.t322,tyI Tryz.t323 Tryz.t323,tyI Tryz.t324 Tryz.t324,tyI Tryz.t324 Tryz.t325,tyI Tryz.t326 Tryz.t326,tyI Tryz.t327 Tryz.t327,tyI Tryz.t328 Tryz.t328,tyI Tryz.t328 Tryz.t329,tyI Tryz.t330 Tryz.t330,tyI Tryz.t330 Tryz.t331,tyI Tryz.t332 Tryz.t332,tyI Tryz.t333 Tryz.t333,tyI Tryz.t334 Tryz.t334,tyI Tryz.t335 Tryz.t335,tyI Tryz.t336 Tryz.t336,tyI Tryz.t337 Tryz.t337,tyI Tryz.t338 Tryz.t338,tyI Tryz.t339 Tryz.t339,tyI Tryz.t340 Tryz.t340,tyI Tryz.t341 Tryz.t341,tyI Tryz.t341 Tryz.t342,tyI Tryz.t343 Tryz.t343,tyI Tryz.t344 Tryz.t344,tyI Tryz.t345 Tryz.t345,tyI Tryz.t346 Tryz.t346,tyI Tryz.t347 Tryz.t347,tyI Tryz.t348 Tryz.t348,tyI Tryz.t348 Tryz.t349,tyI Tryz.t350 Tryz.t350,tyI Tryz.t351 Tryz.t351,tyI Tryz.t351 Tryz.t352,tyI Tryz.t353 Tryz.t353,tyI Tryz.t5 Tryz.t354,tyI Tryz.t355 Tryz.t355,tyI Tryz.t21 Tryz.t356,tyI Tryz.t21 Tryz.t357,tyI Tryz.t358 Tryz.t358,tyI Tryz.t358 Tryz.t359,tyI Tryz.t360 Tryz.t360,tyI Tryz.t361 Tryz.t361,tyI Tryz.t362 Tryz.t362,tyI Tryz.t363 Tryz.t363,tyI Tryz.t363 Tryz.t364,tyI Tryz.t85 Tryz.t365,tyI Tryz.t366 Tryz.t366,tyI Tryz.t367 Tryz.t367,tyI Tryz.t367 Tryz.t368,tyI Tryz.t369 Tryz.t369,tyI Tryz.t369 Tryz.t370,tyI Tryz.t371 Tryz.t371,tyI Tryz.t372 Tryz.t372,tyI Tryz.t373 Tryz.t373,tyI Tryz.t374 Tryz.t374,tyI Tryz.t375 Tryz.t375,tyI Tryz.t375 Tryz.t376,tyI Tryz.t377 Tryz.t377,tyI Tryz.t378 Tryz.t378,tyI Tryz.t379 Tryz.t379,tyI Tryz.t380 Tryz.t380,tyI Tryz.t380 Tryz.t381,tyI Tryz.t382 Tryz.t382,tyI Tryz.t21 Tryz.t383,tyI Tryz.t384 Tryz.t384,tyI Tryz.t384 Tryz.t385,tyI Tryz.t386 Tryz.t386]
theorem vD:qO Tryz.prog xW 0:=tabI Tryz.underlying0 Tryz.type0 <| tabI Tryz.underlying1 Tryz.type1 <| tabI Tryz.underlying2 Tryz.type2 <| tabI Tryz.underlying3 Tryz.type3 <| tabI Tryz.underlying4 Tryz.type4 <| tabI Tryz.underlying5 Tryz.type5 <| tabI Tryz.underlying6 Tryz.type6 <| tabI Tryz.underlying7 Tryz.type7 <| tabI Tryz.underlying8 Tryz.type8 <| tabI Tryz.underlying9 Tryz.type9 <| tabI Tryz.underlying10 Tryz.type10 <| tabI Tryz.underlying11 Tryz.type11 <| tabI Tryz.underlying12 Tryz.type12 <| tabI Tryz.underlying13 Tryz.type13 <| tabI Tryz.underlying14 Tryz.type14 <| tabI Tryz.underlying15 Tryz.type15 <| tabI Tryz.underlying16 Tryz.type16 <| tabI Tryz.underlying17 Tryz.type17 <| tabI Tryz.underlying18 Tryz.type18 <| tabI Tryz.underlying19 Tryz.type19 <| tabI Tryz.underlying20 Tryz.type20 <| tabI Tryz.underlying21 Tryz.type21 <| tabI Tryz.underlying22 Tryz.type22 <| tabI Tryz.underlying23 Tryz.type23 <| tabI Tryz.underlying24 Tryz.type24 <| tabI Tryz.underlying25 Tryz.type25 <| tabI Tryz.underlying26 Tryz.type26 <| tabI Tryz.underlying27 Tryz.type27 <| tabI Tryz.underlying28 Tryz.type28 <| tabI Tryz.underlying29 Tryz.type29 <| tabI Tryz.underlying30 Tryz.type30 <| tabI Tryz.underlying31 Tryz.type31 <| tabI Tryz.underlying32 Tryz.type32 <| tabI Tryz.underlying33 Tryz.type33 <| tabI Tryz.underlying34 Tryz.type34 <| tabI Tryz.underlying35 Tryz.type35 <| tabI Tryz.underlying36 Tryz.type36 <| tabI Tryz.underlying37 Tryz.type37 <| tabI Tryz.underlying38 Tryz.type38 <| tabI Tryz.underlying39 Tryz.type39 <| tabI Tryz.underlying40 Tryz.type40 <| tabI Tryz.underlying41 Tryz.type41 <| tabI Tryz.underlying42 Tryz.type42 <| tabI Tryz.underlying43 Tryz.type43 <| tabI Tryz.underlying44 Tryz.type44 <| tabI Tryz.underlying45 Tryz.type45 <| tabI Tryz.underlying46 Tryz.type46 <| tabI Tryz.underlying47 Tryz.type47 <| tabI Tryz.underlying48 Tryz.type48 <| tabI Tryz.underlying49 Tryz.type49 <| tabI Tryz.underlying50 Tryz.type50 <| tabI Tryz.underlying51 Tryz.type51 <| tabI Tryz.underlying52 Tryz.type52 <| tabI Tryz.underlying53 Tryz.type53 <| tabI Tryz.underlying54 Tryz.type54 <| tabI Tryz.underlying55 Tryz.type55 <| tabI Tryz.underlying56 Tryz.type56 <| tabI Tryz.underlying57 Tryz.type57 <| tabI Tryz.underlying58 Tryz.type58 <| tabI Tryz.underlying59 Tryz.type59 <| tabI Tryz.underlying60 Tryz.type60 <| tabI Tryz.underlying61 Tryz.type61 <| tabI Tryz.underlying62 Tryz.type62 <| tabI Tryz.underlying63 Tryz.type63 <| tabI Tryz.underlying64 Tryz.type64 <| tabI Tryz.underlying65 Tryz.type65 <| tabI Tryz.underlying66 Tryz.type66 <| tabI Tryz.underlying67 Tryz.type67 <| tabI Tryz.underlying68 Tryz.type68 <| tabI Tryz.underlying69 Tryz.type69 <| tabI Tryz.underlying70 Tryz.type70 <| tabI Tryz.underlying71 Tryz.type71 <| tabI Tryz.underlying72 Tryz.type72 <| tabI Tryz.underlying73 Tryz.type73 <| tabI Tryz.underlying74 Tryz.type74 <| tabI Tryz.underlying75 Tryz.type75 <| tabI Tryz.underlying76 Tryz.type76 <| tabI Tryz.underlying77 Tryz.type77 <| tabI Tryz.underlying78 Tryz.type78 <| tabI Tryz.underlying79 Tryz.type79 <| tabI Tryz.underlying80 Tryz.type80 <| tabI Tryz.underlying81 Tryz.type81 <| tabI Tryz.underlying82 Tryz.type82 <| tabI Tryz.underlying83 Tryz.type83 <| tabI Tryz.underlying84 Tryz.type84 <| tabI Tryz.underlying85 Tryz.type85 <| tabI Tryz.underlying86 Tryz.type86 <| tabI Tryz.underlying87 Tryz.type87 <| tabI Tryz.underlying88 Tryz.type88 <| tabI Tryz.underlying89 Tryz.type89 <| tabI Tryz.underlying90 Tryz.type90 <| tabI Tryz.underlying91 Tryz.type91 <| tabI Tryz.underlying92 Tryz.type92 <| tabI Tryz.underlying93 Tryz.type93 <| tabI Tryz.underlying94 Tryz.type94 <| tabI Tryz.underlying95 Tryz.type95 <| tabI Tryz.underlying96 Tryz.type96 <| tabI Tryz.underlying97 Tryz.type97 <| tabI Tryz.underlying98 Tryz.type98 <| tabI Tryz.underlying99 Tryz.type99 <| tabI Tryz.underlying100 Tryz.type100 <| tabI Tryz.underlying101 Tryz.type101 <| tabI Tryz.underlying102 Tryz.type102 <| tabI Tryz.underlying103 Tryz.type103 <| tabI Tryz.underlying104 Tryz.type104 <| tabI Tryz.underlying105 Tryz.type105 <| tabI Tryz.underlying106 Tryz.type106 <| tabI Tryz.underlying107 Tryz.type107 <| tabI Tryz.underlying108 Tryz.type108 <| tabI Tryz.underlying109 Tryz.type109 <| tabI Tryz.underlying110 Tryz.type110 <| tabI Tryz.underlying111 Tryz.type111 <| tabI Tryz.underlying112 Tryz.type112 <| tabI Tryz.underlying113 Tryz.type113 <| tabI Tryz.underlying114 Tryz.type114 <| tabI Tryz.underlying115 Tryz.type115 <| tabI Tryz.underlying116 Tryz.type116 <| tabI Tryz.underlying117 Tryz.type117 <| tabI Tryz.underlying118 Tryz.type118 <| tabI Tryz.underlying119 Tryz.type119 <| tabI Tryz.underlying120 Tryz.type120 <| tabI Tryz.underlying121 Tryz.type121 <| tabI Tryz.underlying122 Tryz.type122 <| tabI Tryz.underlying123 Tryz.type123 <| tabI Tryz.underlying124 Tryz.type124 <| tabI Tryz.underlying125 Tryz.type125 <| tabI Tryz.underlying126 Tryz.type126 <| tabI Tryz.underlying127 Tryz.type127 <| tabI Tryz.underlying128 Tryz.type128 <| tabI Tryz.underlying129 Tryz.type129 <| tabI Tryz.underlying130 Tryz.type130 <| tabI Tryz.underlying131 Tryz.type131 <| tabI Tryz.underlying132 Tryz.type132 <| tabI Tryz.underlying133 Tryz.type133 <| tabI Tryz.underlying134 Tryz.type134 <| tabI Tryz.underlying135 Tryz.type135 <| tabI Tryz.underlying136 Tryz.type136 <| tabI Tryz.underlying137 Tryz.type137 <| tabI Tryz.underlying138 Tryz.type138 <| tabI Tryz.underlying139 Tryz.type139 <| tabI Tryz.underlying140 Tryz.type140 <| tabI Tryz.underlying141 Tryz.type141 <| tabI Tryz.underlying142 Tryz.type142 <| tabI Tryz.underlying143 Tryz.type143 <| tabI Tryz.underlying144 Tryz.type144 <| tabI Tryz.underlying145 Tryz.type145 <| tabI Tryz.underlying146 Tryz.type146 <| tabI Tryz.underlying147 Tryz.type147 <| tabI Tryz.underlying148 Tryz.type148 <| tabI Tryz.underlying149 Tryz.type149 <| tabI Tryz.underlying150 Tryz.type150 <| tabI Tryz.underlying151 Tryz.type151 <| tabI Tryz.underlying152 Tryz.type152 <| tabI Tryz.underlying153 Tryz.type153 <| tabI Tryz.underlying154 Tryz.type154 <| tabI Tryz.underlying155 Tryz.type155 <| tabI Tryz.underlying156 Tryz.type156 <| tabI Tryz.underlying157 Tryz.type157 <| tabI Tryz.underlying158 Tryz.type158 <| tabI Tryz.underlying159 Tryz.type159 <| tabI Tryz.underlying160 Tryz.type160 <| tabI Tryz.underlying161 Tryz.type161 <| tabI Tryz.underlying162 Tryz.type162 <| tabI Tryz.underlying163 Tryz.type163 <| tabI Tryz.underlying164 Tryz.type164 <| tabI Tryz.underlying165 Tryz.type165 <| tabI Tryz.underlying166 Tryz.type166 <| tabI Tryz.underlying167 Tryz.type167 <| tabI Tryz.underlying168 Tryz.type168 <| tabI Tryz.underlying169 Tryz.type169 <| tabI Tryz.underlying170 Tryz.type170 <| tabI Tryz.underlying171 Tryz.type171 <| tabI Tryz.underlying172 Tryz.type172 <| tabI Tryz.underlying173 Tryz.type173 <| tabI Tryz.underlying174 Tryz.type174 <| tabI Tryz.underlying175 Tryz.type175 <| tabI Tryz.underlying176 Tryz.type176 <| tabI Tryz.underlying177 Tryz.type177 <| tabI Tryz.underlying178 Tryz.type178 <| tabI Tryz.underlying179 Tryz.type179 <| tabI Tryz.underlying180 Tryz.type180 <| tabI Tryz.underlying181 Tryz.type181 <| tabI Tryz.underlying182 Tryz.type182 <| tabI Tryz.underlying183 Tryz.type183 <| tabI Tryz.underlying184 Tryz.type184 <| tabI Tryz.underlying185 Tryz.type185 <| tabI Tryz.underlying186 Tryz.type186 <| tabI Tryz.underlying187 Tryz.type187 <| tabI Tryz.underlying188 Tryz.type188 <| tabI Tryz.underlying189 Tryz.type189 <| tabI Tryz.underlying190 Tryz.type190 <| tabI Tryz.underlying191 Tryz.type191 <| tabI Tryz.underlying192 Tryz.type192 <| tabI Tryz.underlying193 Tryz.type193 <| tabI Tryz.underlying194 Tryz.type194 <| tabI Tryz.underlying195 Tryz.type195 <| tabI Tryz.underlying196 Tryz.type196 <| tabI Tryz.underlying197 Tryz.type197 <| tabI Tryz.underlying198 Tryz.type198 <| tabI Tryz.underlying199 Tryz.type199 <| tabI Tryz.underlying200 Tryz.type200 <| tabI Tryz.underlying201 Tryz.type201 <| tabI Tryz.underlying202 Tryz.type202 <| tabI Tryz.underlying203 Tryz.type203 <| tabI Tryz.underlying204 Tryz.type204 <| tabI Tryz.underlying205 Tryz.type205 <| tabI Tryz.underlying206 Tryz.type206 <| tabI Tryz.underlying207 Tryz.type207 <| tabI Tryz.underlying208 Tryz.type208 <| tabI Tryz.underlying209 Tryz.type209 <| tabI Tryz.underlying210 Tryz.type210 <| tabI Tryz.underlying211 Tryz.type211 <| tabI Tryz.underlying212 Tryz.type212 <| tabI Tryz.underlying213 Tryz.type213 <| tabI Tryz.underlying214 Tryz.type214 <| tabI Tryz.underlying215 Tryz.type215 <| tabI Tryz.underlying216 Tryz.type216 <| tabI Tryz.underlying217 Tryz.type217 <| tabI Tryz.underlying218 Tryz.type218 <| tabI Tryz.underlying219 Tryz.type219 <| tabI Tryz.underlying220 Tryz.type220 <| tabI Tryz.underlying221 Tryz.type221 <| tabI Tryz.underlying222 Tryz.type222 <| tabI Tryz.underlying223 Tryz.type223 <| tabI Tryz.underlying224 Tryz.type224 <| tabI Tryz.underlying225 Tryz.type225 <| tabI Tryz.underlying226 Tryz.type226 <| tabI Tryz.underlying227 Tryz.type227 <| tabI Tryz.underlying228 Tryz.type228 <| tabI Tryz.underlying229 Tryz.type229 <| tabI Tryz.underlying230 Tryz.type230 <| tabI Tryz.underlying231 Tryz.type231 <| tabI Tryz.underlying232 Tryz.type232 <| tabI Tryz.underlying233 Tryz.type233 <| tabI Tryz.underlying234 Tryz.type234 <| tabI Tryz.underlying235 Tryz.type235 <| tabI Tryz.underlying236 Tryz.type236 <| tabI Tryz.underlying237 Tryz.type237 <| tabI Tryz.underlying238 Tryz.type238 <| tabI Tryz.underlying239 Tryz.type239 <| tabI Tryz.underlying240 Tryz.type240 <| tabI Tryz.underlying241 Tryz.type241 <| tabI Tryz.underlying242 Tryz.type242 <| tabI Tryz.underlying243 Tryz.type243 <| tabI Tryz.underlying244 Tryz.type244 <| tabI Tryz.underlying245 Tryz.type245 <| tabI Tryz.underlying246 Tryz.type246 <| tabI Tryz.underlying247 Tryz.type247 <| tabI Tryz.underlying248 Tryz.type248 <| tabI Tryz.underlying249 Tryz.type249 <| tabI Tryz.underlying250 Tryz.type250 <| tabI Tryz.underlying251 Tryz.type251 <| tabI Tryz.underlying252 Tryz.type252 <| tabI Tryz.underlying253 Tryz.type253 <| tabI Tryz.underlying254 Tryz.type254 <| tabI Tryz.underlying255 Tryz.type255 <| tabI Tryz.underlying256 Tryz.type256 <| tabI Tryz.underlying257 Tryz.type257 <| tabI Tryz.underlying258 Tryz.type258 <| tabI Tryz.underlying259 Tryz.type259 <| tabI Tryz.underlying260 Tryz.type260 <| tabI Tryz.underlying261 Tryz.type261 <| tabI Tryz.underlying262 Tryz.type262 <| tabI Tryz.underlying263 Tryz.type263 <| tabI Tryz.underlying264 Tryz.type264 <| tabI Tryz.underlying265 Tryz.type265 <| tabI Tryz.underlying266 Tryz.type266 <| tabI Tryz.underlying267 Tryz.type267 <| tabI Tryz.underlying268 Tryz.type268 <| tabI Tryz.underlying269 Tryz.type269 <| tabI Tryz.underlying270 Tryz.type270 <| tabI Tryz.underlying271 Tryz.type271 <| tabI Tryz.underlying272 Tryz.type272 <| tabI Tryz.underlying273 Tryz.type273 <| tabI Tryz.underlying274 Tryz.type274 <| tabI Tryz.underlying275 Tryz.type275 <| tabI Tryz.underlying276 Tryz.type276 <| tabI Tryz.underlying277 Tryz.type277 <| tabI Tryz.underlying278 Tryz.type278 <| tabI Tryz.underlying279 Tryz.type279 <| tabI Tryz.underlying280 Tryz.type280 <| tabI Tryz.underlying281 Tryz.type281 <| tabI Tryz.underlying282 Tryz.type282 <| tabI Tryz.underlying283 Tryz.type283 <| tabI Tryz.underlying284 Tryz.type284 <| tabI Tryz.underlying285 Tryz.type285 <| tabI Tryz.underlying286 Tryz.type286 <| tabI Tryz.underlying287 Tryz.type287 <| tabI Tryz.underlying288 Tryz.type288 <| tabI Tryz.underlying289 Tryz.type289 <| tabI Tryz.underlying290 Tryz.type290 <| tabI Tryz.underlying291 Tryz.type291 <| tabI Tryz.underlying292 Tryz.type292 <| tabI Tryz.underlying293 Tryz.type293 <| tabI Tryz.underlying294 Tryz.type294 <| tabI Tryz.underlying295 Tryz.type295 <| tabI Tryz.underlying296 Tryz.type296 <| tabI Tryz.underlying297 Tryz.type297 <| tabI Tryz.underlying298 Tryz.type298 <| tabI Tryz.underlying299 Tryz.type299 <| tabI Tryz.underlying300 Tryz.type300 <| tabI Tryz.underlying301 Tryz.type301 <| tabI Tryz.underlying302 Tryz.type302 <| tabI Tryz.underlying303 Tryz.type303 <| tabI Tryz.underlying304 Tryz.type304 <| tabI Tryz.underlying305 Tryz.type305 <| tabI Tryz.underlying306 Tryz.type306 <| tabI Tryz.underlying307 Tryz.type307 <| tabI Tryz.underlying308 Tryz.type308 <| tabI Tryz.underlying309 Tryz.type309 <| tabI Tryz.underlying310 Tryz.type310 <| tabI Tryz.underlying311 Tryz.type311 <| tabI Tryz.underlying312 Tryz.type312 <| tabI Tryz.underlying313 Tryz.type313 <| tabI Tryz.underlying314 Tryz.type314 <| tabI Tryz.underlying315 Tryz.type315 <| tabI Tryz.underlying316 Tryz.type316 <| tabI Tryz.underlying317 Tryz.type317 <| tabI Tryz.underlying318 Tryz.type318 <| tabI Tryz.underlying319 Tryz.type319 <| tabI Tryz.underlying320 Tryz.type320 <| tabI Tryz.underlying321 Tryz.type321 <| tabI Tryz.underlying322 Tryz.type322 <| tabI Tryz.underlying323 Tryz.type323 <| tabI Tryz.underlying324 Tryz.type324 <| tabI Tryz.underlying325 Tryz.type325 <| tabI Tryz.underlying326 Tryz.type326 <| tabI Tryz.underlying327 Tryz.type327 <| tabI Tryz.underlying328 Tryz.type328 <| tabI Tryz.underlying329 Tryz.type329 <| tabI Tryz.underlying330 Tryz.type330 <| tabI Tryz.underlying331 Tryz.type331 <| tabI Tryz.underlying332 Tryz.type332 <| tabI Tryz.underlying333 Tryz.type333 <| tabI Tryz.underlying334 Tryz.type334 <| tabI Tryz.underlying335 Tryz.type335 <| tabI Tryz.underlying336 Tryz.type336 <| tabI Tryz.underlying337 Tryz.type337 <| tabI Tryz.underlying338 Tryz.type338 <| tabI Tryz.underlying339 Tryz.type339 <| tabI Tryz.underlying340 Tryz.type340 <| tabI Tryz.underlying341 Tryz.type341 <| tabI Tryz.underlying342 Tryz.type342 <| tabI Tryz.underlying343 Tryz.type343 <| tabI Tryz.underlying344 Tryz.type344 <| tabI Tryz.underlying345 Tryz.type345 <| tabI Tryz.underlying346 Tryz.type346 <| tabI Tryz.underlying347 Tryz.type347 <| tabI Tryz.underlying348 Tryz.type348 <| tabI Tryz.underlying349 Tryz.type349 <| tabI Tryz.underlying350 Tryz.type350 <| tabI Tryz.underlying351 Tryz.type351 <| tabI Tryz.underlying352 Tryz.type352 <| tabI Tryz.underlying353 Tryz.type353 <| tabI Tryz.underlying354 Tryz.type354 <| tabI Tryz.underlying355 Tryz.type355 <| tabI Tryz.underlying356 Tryz.type356 <| tabI Tryz.underlying357 Tryz.type357 <| tabI Tryz.underlying358 Tryz.type358 <| tabI Tryz.underlying359 Tryz.type359 <| tabI Tryz.underlying360 Tryz.type360 <| tabI Tryz.underlying361 Tryz.type361 <| tabI Tryz.underlying362 Tryz.type362 <| tabI Tryz.underlying363 Tryz.type363 <| tabI Tryz.underlying364 Tryz.type364 <| tabI Tryz.underlying365 Tryz.type365 <| tabI Tryz.underlying366 Tryz.type366 <| tabI Tryz.underlying367 Tryz.type367 <| tabI Tryz.underlying368 Tryz.type368 <| tabI Tryz.underlying369 Tryz.type369 <| tabI Tryz.underlying370 Tryz.type370 <| tabI Tryz.underlying371 Tryz.type371 <| tabI Tryz.underlying372 Tryz.type372 <| tabI Tryz.underlying373 Tryz.type373 <| tabI Tryz.underlying374 Tryz.type374 <| tabI Tryz.underlying375 Tryz.type375 <| tabI Tryz.underlying376 Tryz.type376 <| tabI Tryz.underlying377 Tryz.type377 <| tabI Tryz.underlying378 Tryz.type378 <| tabI Tryz.underlying379 Tryz.type379 <| tabI Tryz.underlying380 Tryz.type380 <| tabI Tryz.underlying381 Tryz.type381 <| tabI Tryz.underlying382 Tryz.type382 <| tabI Tryz.underlying383 Tryz.type383 <| tabI Tryz.underlying384 Tryz.type384 <| tabI Tryz.underlying385 Tryz.type385 <| tabI Tryz.underlying386 Tryz.type386 <| trivial
noncomputable instance theTab:Tab Tryz.prog:=⟨xW,vD⟩
end
section
open Go
def aa (s:List UInt8)(k:Nat):Nat:=(s.getD k 0).toNat
theorem aO (s:List UInt8)(k:Nat):aa s k<256:=UInt8.toNat_lt _
def aW (s:List UInt8)(k:Nat):Bool:=decide (k<s.length)&&(aa s k/64==2)
def mayN (r:Nat):Bool:=decide (r≤1114111)&&(decide (r<55296)||decide (57343<r))
def cp2 (s:List UInt8):Nat:=aa s 0%32*64+aa s 1%64
def cp3 (s:List UInt8):Nat:=(aa s 0%16*64+aa s 1%64)*64+aa s 2%64
def cp4 (s:List UInt8):Nat:=((aa s 0%8*64+aa s 1%64)*64+aa s 2%64)*64+aa s 3%64
def au (s:List UInt8):Nat×Nat:=
 if s.length=0 then(0,0)
 else if aa s 0<128 then(aa s 0,1)
 else if aa s 0/32=6 then(if aW s 1&&decide (128≤cp2 s)&&mayN (cp2 s) then(cp2 s,2) else(0,0))
 else if aa s 0/16=14 then(if aW s 1&&aW s 2&&decide (2048≤cp3 s)&&mayN (cp3 s) then(cp3 s,3) else(0,0))
 else if aa s 0/8=30 then(if aW s 1&&aW s 2&&aW s 3&&decide (65536≤cp4 s)&&mayN (cp4 s) then(cp4 s,4) else(0,0))
 else(0,0)
theorem kS (s:List UInt8):(au s).2≤s.length∧(au s).2≤4∧(au s).1≤1114111:=by
 have h:=aO s 0
 unfold au
 split
 ·simp
 split
 ·simp only[];omega
 split
 ·split
  ·rename_i h;simp only[Bool.and_eq_true,aW,mayN,decide_eq_true_eq] at h;simp only[];omega
  ·simp
 split
 ·split
  ·rename_i h;simp only[Bool.and_eq_true,aW,mayN,decide_eq_true_eq] at h;simp only[];omega
  ·simp
 split
 ·split
  ·rename_i h;simp only[Bool.and_eq_true,aW,mayN,decide_eq_true_eq] at h;simp only[];omega
  ·simp
 ·simp
def badF:Nat→List UInt8→Option Nat
 |0,_=>none
 |k+1,s=>if s.length=0 then none else if(au s).2=0 then some 0 else(badF k (s.drop (au s).2)).map (· +(au s).2)
def badS (s:List UInt8):Option Nat:=badF s.length s
def badI (s:List UInt8):Int:=match badS s with|some i=>(i:Int)|none=> -1
theorem qJ:∀(k:Nat) (s:List UInt8),s.length≤k→badF k s=badF s.length s:=by
  intro k
  induction k using Nat.strongRecOn with
  | _ k ih=>
    intro s hs
    cases k with
    | zero => have:s.length=0:=by omega
              rw[this]
    | succ k=>
      by_cases h0:s.length=0
      · rw[h0];simp[badF,h0]
      · obtain⟨m,hm⟩:∃m,s.length=m+1:=⟨s.length-1,by omega⟩
        rw[hm]
        simp only[badF,if_neg h0]
        by_cases hn:(au s).2=0
        · rw[if_pos hn,if_pos hn]
        · rw[if_neg hn,if_neg hn]
          have hl:(s.drop (au s).2).length≤m:=by rw[List.length_drop];omega
          rw[ih k (by omega) _ (by omega),ih m (by omega) _ hl]
theorem jv (s:List UInt8)(h0:s.length≠0):badS s=if(au s).2=0 then some 0 else(badS (s.drop (au s).2)).map (· +(au s).2):=by
 obtain⟨m,hm⟩:∃m,s.length=m+1:=⟨s.length-1,by omega⟩
 unfold badS
 rw[hm]
 simp only[badF,if_neg h0]
 by_cases hn:(au s).2=0
 ·rw[if_pos hn,if_pos hn]
 ·rw[if_neg hn,if_neg hn,qJ]
  rw[List.length_drop];omega
theorem vf (s:List UInt8)(h0:s.length=0):badS s=none:=by unfold badS;rw[h0];rfl
def cA (s:List UInt8):Nat:=if(au s).2=0 then 1 else(au s).2
def rngR (s:List UInt8):Nat:=if(au s).2=0 then 65533 else(au s).1
theorem cm (s:List UInt8)(p k:Nat):aa (s.drop p) k=aa s (p+k):=by
 simp[aa,List.getElem?_drop]
theorem wK (s:List UInt8)(i:Nat):((⟨s.toArray⟩:ByteArray).get! i).toNat=aa s i:=by
 simp only[aa,ByteArray.get!]
 congr 1
 simp[List.getD]
 rfl
theorem vz (c:Nat):Utf8.valid (c:Int)=mayN c:=by
 rw[Bool.eq_iff_iff]
 simp only[Utf8.valid,mayN,Bool.or_eq_true,Bool.and_eq_true,decide_eq_true_eq]
 omega
theorem uR (s:List UInt8)(p k:Nat):aW (s.drop p) k=(decide (p+k<s.length)&&(aa s (p+k)/64==2)):=by
 rw[Bool.eq_iff_iff]
 simp only[aW,cm,List.length_drop,Bool.and_eq_true,decide_eq_true_eq]
 constructor<;>rintro⟨h1,h2⟩<;>exact⟨by omega,h2⟩
theorem lin4 (a b c d:Nat):a*262144+b*4096+c*64+d=((a*64+b)*64+c)*64+d:=by omega
theorem lin3 (a b c:Nat):a*4096+b*64+c=(a*64+b)*64+c:=by omega
theorem si (s:List UInt8)(p:Nat)(hp:p<s.length):
  Utf8.decode ⟨s.toArray⟩ p=if(au (s.drop p)).2=0 then(65533,1) else au (s.drop p):=by
 have hsz:(⟨s.toArray⟩:ByteArray).size=s.length:=by simp[ByteArray.size]
 have h0:¬(s.drop p).length=0:=by rw[List.length_drop];omega
 simp only[Utf8.decode,wK,hsz,Utf8.runeError,au,if_neg h0,uR,cp2,cp3,cp4,cm,Nat.add_zero,lin3,lin4,vz]
 generalize aa s p=b0
 generalize (decide (p+1<s.length)&&(aa s (p+1)/64==2))=k1
 generalize (decide (p+2<s.length)&&(aa s (p+2)/64==2))=k2
 generalize (decide (p+3<s.length)&&(aa s (p+3)/64==2))=k3
 generalize aa s (p+1)=b1
 generalize aa s (p+2)=b2
 generalize aa s (p+3)=b3
 by_cases c1:b0<128
 ·simp only[if_pos c1];rfl
 simp only[if_neg c1]
 by_cases c2:b0/32=6
 ·have c3:¬b0/16=14:=by omega
  have c4:¬b0/8=30:=by omega
  have hm:128≤b0%32*64+b1%64→mayN (b0%32*64+b1%64)=true:=by
   intro h;simp only[mayN,Bool.and_eq_true,Bool.or_eq_true,decide_eq_true_eq];omega
  cases k1<;>by_cases h:128≤b0%32*64+b1%64<;>simp[c2,c3,c4,h,hm]
 by_cases c3:b0/16=14
 ·have c4:¬b0/8=30:=by omega
  generalize (b0%16*64+b1%64)*64+b2%64=r
  cases k1<;>cases k2<;>cases hm:mayN r<;>by_cases h:2048≤r<;>simp[c2,c3,c4,h,hm]
 by_cases c4:b0/8=30
 ·generalize ((b0%8*64+b1%64)*64+b2%64)*64+b3%64=r
  cases k1<;>cases k2<;>cases k3<;>cases hm:mayN r<;>by_cases h:65536≤r<;>simp[c2,c3,c4,h,hm]
 ·simp[c2,c3,c4]
end
section
open Go
theorem io (b:ByteArray):(⟨b.data.toList.toArray⟩:ByteArray)=b:=by cases b;simp
theorem ba (l:List UInt8):(⟨l.toArray⟩:ByteArray).size=l.length:=by simp[ByteArray.size]
theorem vE (a b:List UInt8):(⟨a.toArray⟩:ByteArray)++⟨b.toArray⟩=⟨(a++b).toArray⟩:=by
 ext1;simp
theorem sW (l:List UInt8)(i j:Nat):(⟨l.toArray⟩:ByteArray).extract i j=⟨((l.take j).drop i).toArray⟩:=by
 apply ByteArray.ext
 simp[List.drop_take]
theorem Dt (l:List UInt8)(i:Nat)(h:i<l.length):(⟨l.toArray⟩:ByteArray)[i]? =some l[i]:=by
 have hs:i<(⟨l.toArray⟩:ByteArray).size:=by rw[ba];exact h
 rw[getElem?_pos _ i hs]
 exact congrArg some (show l.toArray[i]=l[i] by simp)
def pwL:List Int:=[1,2,4,8,16,32,64,128,256,512,1024,2048,4096,8192,16384,32768,65536,131072,262144,524288,1048576,2097152,4194304,8388608,16777216,33554432,67108864,134217728,268435456,536870912,1073741824,2147483648,4294967296]
def yd:List Int→Nat→Bool
 |[],_=>true
 |c::r,i=>decide (((2^i:Nat):Int)=c)&&yd r (i+1)
theorem p5:∀{l:List Int} {i k:Nat} {c:Int},yd l i=true→nth l k=some c→((2^(i+k):Nat):Int)=c
 |[],_,_,_,_,h=>by simp[nth] at h
 |x::r,i,0,c,ho,h=>by
  simp only[nth,Option.some.injEq] at h
  subst h
  simp only[yd,Bool.and_eq_true,decide_eq_true_eq] at ho
  exact ho.1
 |x::r,i,k+1,c,ho,h=>by
  simp only[yd,Bool.and_eq_true] at ho
  rw[show i+(k+1)=(i+1)+k by omega]
  exact p5 ho.2 h
theorem tI {e:Nat}{c:Int}(h:nth pwL e=some c):((2^e:Nat):Int)=c:=by
 have:=p5 (l:=pwL) (i:=0) (by decide+kernel) h
 rwa [Nat.zero_add] at this
def Fits:IntKind→Int→Prop
 |.i8,n=> -128≤n∧n≤127
 |.i16,n=> -32768≤n∧n≤32767
 |.i32,n=> -2147483648≤n∧n≤2147483647
 |.i64,n=> -9223372036854775808≤n∧n≤9223372036854775807
 |.u8,n=>0≤n∧n≤255
 |.u16,n=>0≤n∧n≤65535
 |.u32,n=>0≤n∧n≤4294967295
 |.u64,n=>0≤n∧n≤18446744073709551615
theorem dj {k:IntKind}{n:Int}(h:Fits k n):k.wrap n=n:=by
 cases k
 ·exact IntWalk.i8_in n h
 ·exact IntWalk.i16_in n h
 ·exact IntWalk.i32_in n h
 ·exact IntWalk.i64_in n h
 ·exact IntWalk.u8_in n h
 ·exact IntWalk.u16_in n h
 ·exact IntWalk.u32_in n h
 ·exact IntWalk.u64_in n h
def ca:IntKind→Int×Int
 |.i8=>(-128,127)
 |.i16=>(-32768,32767)
 |.i32=>(-2147483648,2147483647)
 |.i64=>(-9223372036854775808,9223372036854775807)
 |.u8=>(0,255)
 |.u16=>(0,65535)
 |.u32=>(0,4294967295)
 |.u64=>(0,18446744073709551615)
theorem G4 {k:IntKind}{n lo hi:Int}(hk:ca k=(lo,hi))(h1:lo≤n)(h2:n≤hi):Fits k n:=by
 cases k<;>(simp only[ca,Prod.mk.injEq] at hk;obtain⟨rfl,rfl⟩:=hk;exact⟨h1,h2⟩)
section
variable {P:Program} {C:Ctx} {n:Nat} {env:Env} {H:Heap} {Q:AExit→Env→Heap→Prop} {ops:Array Oper} {rest:List Oper}
variable {d:Nat} {t:TypeId} {p:String} {af:Array Edge} {g:Option (Nat×Bool)} {b:Bool} {av:AVal}
variable {x y:Operand} {tx ty:TypeId}
/-! ### Integers that stay in their kind -/
theorem sq {k:IntKind}{m q:Int}(f:(w:Nat)→BitVec w→BitVec w→BitVec w)(f':Nat→Nat→Nat)
  (hff:∀a c,(f k.bits (BitVec.ofNat k.bits a) (BitVec.ofNat k.bits c)).toNat=f' (a%2^k.bits) (c%2^k.bits))
  (hlt:∀a c e,a<2^e→c<2^e→f' a c<2^e) (hm:0≤m) (hq:0≤q) (hm':Fits k m) (hq':Fits k q):
  k.wrap ((f k.bits (BitVec.ofInt k.bits m) (BitVec.ofInt k.bits q)).toNat:Int)=(f' m.toNat q.toNat:Nat):=by
 obtain⟨a,rfl⟩:=Int.eq_ofNat_of_zero_le hm
 obtain⟨c,rfl⟩:=Int.eq_ofNat_of_zero_le hq
 have h1:∀a:Nat,BitVec.ofInt k.bits (a:Int)=BitVec.ofNat k.bits a:=fun a=>by simp
 rw[h1,h1,hff]
 have key:∀e,e≤k.bits→(∀z:Nat,z<2^e→Fits k z)→a<2^e→c<2^e→
   k.wrap ((f' (a%2^k.bits) (c%2^k.bits):Nat):Int)=(f' a c:Nat):=by
  intro e he hz ha hc
  have hle:2^e≤2^k.bits:=Nat.pow_le_pow_right (by omega) he
  rw[Nat.mod_eq_of_lt (by omega),Nat.mod_eq_of_lt (by omega)]
  exact dj (hz _ (hlt _ _ _ ha hc))
 simp only[Int.toNat_natCast]
 cases k<;>simp only[Fits] at hm' hq'
 ·exact key 7 (by decide) (fun z hz=>by simp only[Fits];omega) (by omega) (by omega)
 ·exact key 15 (by decide) (fun z hz=>by simp only[Fits];omega) (by omega) (by omega)
 ·exact key 31 (by decide) (fun z hz=>by simp only[Fits];omega) (by omega) (by omega)
 ·exact key 63 (by decide) (fun z hz=>by simp only[Fits];omega) (by omega) (by omega)
 ·exact key 8 (by decide) (fun z hz=>by simp only[Fits];omega) (by omega) (by omega)
 ·exact key 16 (by decide) (fun z hz=>by simp only[Fits];omega) (by omega) (by omega)
 ·exact key 32 (by decide) (fun z hz=>by simp only[Fits];omega) (by omega) (by omega)
 ·exact key 64 (by decide) (fun z hz=>by simp only[Fits];omega) (by omega) (by omega)
/-! ### Integers of one kind to another -/
/-! ### Strings -/
def seqB (x y:List UInt8):Bool:=x==y
theorem aY {x y:List UInt8}:seqB x y=true↔x=y:=by simp[seqB]
theorem ip {x y:List UInt8}:seqB x y=false↔x≠y:=by simp[seqB]
theorem Bd {x y:List UInt8}:seqB x y=(x==y):=rfl
attribute [irreducible] seqB
def sltB (x y:List UInt8):Bool:=Op.bytesLess x y
theorem Bb {x y:List UInt8}:sltB x y=Op.bytesLess x y:=rfl
attribute [irreducible] sltB
def vF (op:BinOp)(x y:List UInt8):Option AVal:=
 match op with
 |.eql=>some (.bool (seqB x y))
 |.neq=>some (.bool (!(seqB x y)))
 |.lss=>some (.bool (sltB x y))
 |.leq=>some (.bool (sltB x y||seqB x y))
 |.gtr=>some (.bool (!(sltB x y||seqB x y)))
 |.geq=>some (.bool (!sltB x y))
 |_=>none
def dh (env:Env)(dflt:Int):Option Operand→Option Int
 |none=>some dflt
 |some x=>match ai env x with
  |some (.int _ i)=>some i
  |_=>none
theorem qG {R:Seal}{ρ:Operand→Value}(hf:jP R env ρ){dflt i:Int}{lo:Option Operand}(hlo:dh env dflt lo=some i):
  (lo=none∧i=dflt)∨∃z k,lo=some z∧ρ z= .int k i:=by
 cases lo with
 |none=>simp only[dh,Option.some.injEq] at hlo;exact .inl ⟨rfl,hlo.symm⟩
 |some z=>
  simp only[dh] at hlo
  split at hlo
  ·rename_i k j hz
   simp only[Option.some.injEq] at hlo
   subst hlo
   exact .inr ⟨z,k,rfl,am.1 (hf _ _ hz)⟩
  ·cases hlo
theorem oV {P:Program}{R:Seal}{ρ:Operand→Value}(hf:jP R env ρ){isS:Bool}{len cap:Nat}{lo hi:Option Operand}{i j:Int}(hlo:dh env 0 lo=some i)(hhi:dh env len hi=some j)
  (h0:0≤i) (hij:i≤j) (hj:j≤cap) (_hlc:len≤cap) (w:World):
  (Instr.sliceBounds isS len cap (lo.map ρ) (hi.map ρ) none).run P w= .ok (i.toNat,j.toNat,cap) w:=by
 have hb:∀(k:IntKind) (u:Int) (y:Nat) (c:BoundsCode),0≤u→u≤y→(Instr.sliceBound (.int k u) y c).run P w= .ok u.toNat w:=by
  intro k u y c h1 h2
  simp only[Instr.sliceBound,asIntOf,Sem.run_bind,Sem.run_pure,Result.andThen_ok]
  rw[if_pos ⟨h1,h2⟩]
  rfl
 rcases qG hf hlo with⟨rfl,rfl⟩|⟨z,k,rfl,hz⟩<;>rcases qG hf hhi with⟨rfl,rfl⟩|⟨z',k',rfl,hz'⟩
 ·simp only[Instr.sliceBounds,Option.map_none,Sem.run_bind,Sem.run_pure,Result.andThen_ok]
  simp
 ·simp only[Instr.sliceBounds,Option.map_none,Option.map_some,hz',Sem.run_bind,Sem.run_pure,Result.andThen_ok]
  rw[hb k' j cap _ (by omega) hj]
  simp
 ·simp only[Instr.sliceBounds,Option.map_none,Option.map_some,hz,Sem.run_bind,Sem.run_pure,Result.andThen_ok,Option.isSome_none,Bool.false_eq_true,if_false]
  rw[hb k i len _ h0 hij]
  simp
 ·simp only[Instr.sliceBounds,Option.map_none,Option.map_some,hz,hz',Sem.run_bind,Sem.run_pure,Result.andThen_ok,Option.isSome_none,Bool.false_eq_true,if_false]
  rw[hb k' j cap _ (by omega) hj]
  simp only[Result.andThen_ok]
  rw[hb k i j.toNat _ h0 (by omega)]
  simp
/-! ### Several results -/
end
end
end Go.Proofs.YtdpbejofgemloaaGreatDoor
