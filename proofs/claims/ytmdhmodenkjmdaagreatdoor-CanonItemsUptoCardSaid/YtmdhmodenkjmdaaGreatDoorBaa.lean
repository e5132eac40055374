/- Parts of the proof of canonItems_card. -/
import Derived.WalkKit
import Derived.Below
import Derived.Deep.LoopGhost
import Derived.LoopN
import Derived.Test.YtmdhmodenkjmdaaGreatDoorProg
import GoSem.Core.Utf8
import Derived.Laws.Strings
set_option linter.unusedVariables false
set_option linter.unusedSimpArgs false
set_option linter.unusedSectionVars false
namespace Go.Proofs.YtmdhmodenkjmdaaGreatDoor
open Tryz
set_option maxRecDepth 20000
set_option maxHeartbeats 4000000
section
open Go
inductive AVal where
 |bool (b:Bool)
 |int (k:IntKind) (n:Int)
 |str (s:List UInt8)
 |raw (v:Value)
 |list (sz n:Nat) (f:Nat->AVal)
 |rop (cs:List AVal) (off:Nat)
 |agg (cs:List AVal)
 |tuple (cs:List AVal)
 |iface (t:TypeId) (v:AVal)
 |func (fn:Fn) (first captured:List AVal)
 |own (i:Nat) (v:Value)
def AVal.isAgg:AVal->Bool
 |.agg _=>true
 |.raw (.agg _)=>true
 |_=>false
def cm:Value->Bool
 |.agg _=>true
 |_=>false
def AVal.cells:AVal->List AVal
 |.agg cs=>cs
 |v=>[v]
abbrev Seal:=Nat->Option Obj
mutual
def aV (R:Seal):AVal->List Value->Prop
 |.bool b,vs=>vs=[.bool b]
 |.int k n,vs=>vs=[.int k n]
 |.str s,vs=>vs=[.string ⟨s.toArray⟩]
 |.raw x,vs=>vs=x.cells.toList
 | .list sz n f,vs=>∃a cap,vs=[.slice a n cap]/\n<=cap/\(n=0\/∃b o C e fz,a=some ⟨b,o,none⟩/\R b=some (.cells C e fz)/\
   ∀i,i<n->aV R (f i) ((C.toList.drop (o+i*sz)).take sz))
 | .rop cs off,vs=>∃b o C e fz,vs=[.pointer (some ⟨b,o,none⟩)]/\off<=o/\R b=some (.cells C e fz)/\
   bA R cs ((C.toList.drop (o-off)).take cs.length)
 |.agg cs,vs=>bA R cs vs
 |.tuple cs,vs=>∃ws,vs=[.tuple ws]/\cJ R cs ws.toList
 |.iface t v,vs=>∃w,vs=[.iface t w]/\aV R v w.cells.toList/\v.isAgg=cm w
 |.func fn l1 l2,vs=>∃a b,vs=[.func fn a b]/\cJ R l1 a.toList/\cJ R l2 b.toList
 |.own _ x,vs=>vs=[x]/\cm x=false
def bA (R:Seal):List AVal->List Value->Prop
 |[],vs=>vs=[]
 |c::cs,vs=>∃v t,vs=v::t/\aV R c [v]/\bA R cs t
def cJ (R:Seal):List AVal->List Value->Prop
 |[],vs=>vs=[]
 |c::cs,vs=>∃v t,vs=v::t/\(aV R c v.cells.toList/\c.isAgg=cm v)/\cJ R cs t
end
def bD (R:Seal)(a:AVal)(v:Value):Prop:=aV R a v.cells.toList/\a.isAgg=cm v
def Seal.le (R R':Seal):Prop:=∀b o,R b=some o->R' b=some o
theorem Seal.le_refl (R:Seal):R.le R:=λ_ _ h=>h
theorem Seal.le_trans {R R' R'':Seal}(h:R.le R')(k:R'.le R''):R.le R'':=λb o x=>k b o (h b o x)
mutual
theorem iZ {R R':Seal}(h:R.le R'):∀(a:AVal) (vs:List Value),aV R a vs->aV R' a vs
 |.bool _,_,x=>x
 |.int _ _,_,x=>x
 |.str _,_,x=>x
 |.raw _,_,x=>x
 |.list sz n f,vs,x=>by
  obtain⟨a,cap,e,hle,y⟩:=x;refine⟨a,cap,e,hle,?_⟩;rcases y with y|⟨b,o,C,el,fz,ha,hR,hi⟩
  ·exact .inl y
  ·exact .inr ⟨b,o,C,el,fz,ha,h _ _ hR,λi hn=>iZ h (f i) _ (hi i hn)⟩
 |.rop cs off,vs,x=>by
  obtain⟨b,o,C,e,fz,hv,ho,hR,hl⟩:=x;exact⟨b,o,C,e,fz,hv,ho,h _ _ hR,cI h cs _ hl⟩
 |.agg cs,vs,x=>cI h cs vs x
 |.tuple cs,vs,x=>by
  obtain⟨ws,e,y⟩:=x;exact⟨ws,e,lk h cs _ y⟩
 |.iface t v,vs,x=>by
  obtain⟨w,e,y,z⟩:=x;exact⟨w,e,iZ h v _ y,z⟩
 |.func fn l1 l2,vs,x=>by
  obtain⟨a,b,e,y,z⟩:=x;exact⟨a,b,e,lk h l1 _ y,lk h l2 _ z⟩
 |.own _ _,_,x=>x
theorem cI {R R':Seal}(h:R.le R'):∀(a:List AVal) (vs:List Value),bA R a vs->bA R' a vs
 |[],_,x=>x
 |c::cs,_,x=>by
  obtain⟨v,t,e,y,z⟩:=x;exact⟨v,t,e,iZ h c _ y,cI h cs _ z⟩
theorem lk {R R':Seal}(h:R.le R'):∀(a:List AVal) (vs:List Value),cJ R a vs->cJ R' a vs
 |[],_,x=>x
 |c::cs,_,x=>by
  obtain⟨v,t,e,y,z⟩:=x;exact⟨v,t,e,⟨iZ h c _ y.1,y.2⟩,lk h cs _ z⟩
end
theorem gE {R R':Seal}(h:R.le R'){a:AVal}{v:Value}(x:bD R a v):bD R' a v:=⟨iZ h a _ x.1,x.2⟩
theorem aR {R:Seal}{a:AVal}{v:Value}(x:bD R a v)(ha:a.isAgg=false):aV R a [v]:=by
 obtain⟨x,y⟩:=x
 rw[ha] at y;cases v<;>first|exact x|(simp[cm] at y)
theorem qJ {R:Seal}{a:AVal}{v:Value}(x:aV R a [v])(ha:a.isAgg=false)(hv:cm v=false):bD R a v:=by
 refine⟨?_,by rw[ha,hv]⟩;cases v<;>first|exact x|(simp[cm] at hv)
theorem aN {R:Seal}{b:Bool}{v:Value}:bD R (.bool b) v↔v= .bool b:=by
 constructor
 ·intro x;have:=aR x rfl;simpa[aV] using this
 ·rintro rfl;exact⟨rfl,rfl⟩
theorem am {R:Seal}{k:IntKind}{n:Int}{v:Value}:bD R (.int k n) v↔v= .int k n:=by
 constructor
 ·intro x;have:=aR x rfl;simpa[aV] using this
 ·rintro rfl;exact⟨rfl,rfl⟩
theorem aF {R:Seal}{s:List UInt8}{v:Value}:bD R (.str s) v↔v= .string ⟨s.toArray⟩:=by
 constructor
 ·intro x;have:=aR x rfl;simpa[aV] using this
 ·rintro rfl;exact⟨rfl,rfl⟩
theorem al {R:Seal}{x v:Value}:bD R (.raw x) v↔v=x:=by
 constructor
 ·rintro⟨h,k⟩
  cases v<;>cases x<;>simp_all [aV,AVal.isAgg,cm,Value.cells]
 ·rintro rfl;exact⟨rfl,by cases v<;>rfl⟩
theorem aQ {R:Seal}{i:Nat}{x v:Value}:bD R (.own i x) v↔v=x/\cm x=false:=by
 constructor
 ·intro h;have:=aR h rfl;simp only[aV,List.cons.injEq,and_true] at this;exact this
 ·rintro⟨rfl,h⟩;refine⟨?_,h.symm⟩;cases v<;>first|exact⟨rfl,rfl⟩|(simp[cm] at h)
def byteA (c:UInt8):AVal:=.int .u8 (c.toNat:Int)
def dQ (s:List UInt8)(cap:Nat):List AVal:=s.map byteA++List.replicate (cap-s.length) (.int .u8 0)
def ea (R:Seal)(w:World):Prop:=∀b o,R b=some o->w.heap[b]? =some o
def gX (fz:Nat×Nat)(n:Nat):Prop:=fz.2<=fz.1\/n<=fz.1
def iK (R:Seal):List (AVal×AVal)->List MapEntry->Prop
 |[],es=>es=[]
 |a::l,es=>∃e t,es=e::t/\(bD R a.1 e.key/\bD R a.2 e.val)/\iK R l t
theorem o9 {R R':Seal}(h:R.le R'):∀(l:List (AVal×AVal)) (es:List MapEntry),iK R l es->iK R' l es
 |[],_,x=>x
 |a::l,_,x=>by
  obtain⟨e,t,q,y,z⟩:=x;exact⟨e,t,q,⟨gE h y.1,gE h y.2⟩,o9 h l _ z⟩
inductive HEnt where
 |cells (b:Nat) (e:Option TypeId) (cs:List AVal)
 |row (v:Value) (e:Option TypeId) (sz n:Nat) (cs:List AVal)
 |iter (b:Nat) (s:List UInt8) (pos:Nat)
 |buf (b:Nat) (s:List UInt8) (cap:Nat)
 |mp (b:Nat) (es:List (AVal×AVal))
 |obj (b:Nat) (o:Obj)
def HEnt.blk:HEnt->Option Nat
 |.cells b _ _=>some b
 |.row (.slice (some a) _ _) _ _ _ _=>some a.block
 |.row _ _ _ _ _=>none
 |.iter b _ _=>some b
 |.buf b _ _=>some b
 |.mp b _=>some b
 |.obj b _=>some b
def HEnt.holds (R:Seal)(w:World):HEnt->Prop
 |.cells b eT cs=>∃C e fz,w.heap[b]? =some (.cells C e fz)/\bA R cs C.toList/\gX fz C.size/\∀t,eT=some t->e=t
 | .row v eT sz n cs=>cs.length=n*sz/\((v= .slice none 0 0/\n=0)\/
   ∃b cap C e fz,v= .slice (some ⟨b,0,none⟩) n cap/\w.heap[b]? =some (.cells C e fz)/\C.size=cap*sz/\n<=cap/\
    bA R cs (C.toList.take (n*sz))/\gX fz C.size/\∀t,eT=some t->e=t)
 |.iter b s pos=>w.heap[b]? =some (.stringIter ⟨s.toArray⟩ pos)
 |.buf b s cap=>s.length<=cap/\∃C e fz,w.heap[b]? =some (.cells C e fz)/\bA R (dQ s cap) C.toList/\gX fz C.size
 |.mp b es=>∃E cl,w.heap[b]? =some (.map E cl)/\iK R es E.toList
 |.obj b o=>w.heap[b]? =some o
abbrev Heap:=List HEnt
structure wS (R:Seal) (w:World) (H:Heap):Prop where
 holds:∀h∈H,h.holds R w
 nodup:(H.filterMap HEnt.blk).Nodup
 apart:∀h∈H,∀b,h.blk=some b->R b=none
theorem HEnt.holds_mono {R R':Seal}{w w':World}{h:HEnt}(x:h.holds R w)(hR:R.le R')
  (hw:∀b,h.blk=some b->w'.heap[b]? =w.heap[b]?):h.holds R' w':=by
 cases h with
 |cells b eT cs=>
  obtain⟨C,e,fz,hb,hl,hf⟩:=x;exact⟨C,e,fz,by rw[hw b rfl];exact hb,cI hR _ _ hl,hf⟩
 |row v eT sz n cs=>
  obtain⟨hlen,y⟩:=x;refine⟨hlen,?_⟩
  rcases y with y|⟨b,cap,C,e,fz,rfl,hb,hs,hn,hl,hf⟩
  ·exact .inl y
  ·exact .inr ⟨b,cap,C,e,fz,rfl,by rw[hw b rfl];exact hb,hs,hn,cI hR _ _ hl,hf⟩
 |iter b s pos=>simp only[HEnt.holds] at*;rw[hw b rfl];exact x
 |buf b s cap=>
  obtain⟨hc,C,e,fz,hb,hl,hf⟩:=x
  exact⟨hc,C,e,fz,by rw[hw b rfl];exact hb,cI hR _ _ hl,hf⟩
 |mp b es=>
  obtain⟨E,cl,hb,hl⟩:=x
  exact⟨E,cl,by rw[hw b rfl];exact hb,o9 hR _ _ hl⟩
 |obj b o=>simp only[HEnt.holds] at*;rw[hw b rfl];exact x
theorem HEnt.blk_lt {R:Seal}{w:World}{h:HEnt}(x:h.holds R w){b:Nat}(hb:h.blk=some b):b<w.heap.size:=by
 have key:∀(o:Obj),w.heap[b]? =some o->b<w.heap.size:=by
  intro o ho;rcases Nat.lt_or_ge b w.heap.size with h|h
  ·exact h
  ·simp[Array.getElem?_eq_none h] at ho
 cases h with
 |cells b' eT cs=>
  obtain⟨C,e,fz,hb',_⟩:=x;simp only[HEnt.blk,Option.some.injEq] at hb;subst hb;exact key _ hb'
 |row v eT sz n cs=>
  obtain⟨_,y⟩:=x;rcases y with⟨rfl,_⟩|⟨b',cap,C,e,fz,rfl,hb',_⟩
  ·simp[HEnt.blk] at hb
  ·simp only[HEnt.blk,Option.some.injEq] at hb;subst hb;exact key _ hb'
 |iter b' s pos=>
  simp only[HEnt.blk,Option.some.injEq] at hb;subst hb;exact key _ x
 |buf b' s cap=>
  obtain⟨_,C,e,fz,hb',_⟩:=x;simp only[HEnt.blk,Option.some.injEq] at hb;subst hb;exact key _ hb'
 |mp b' es=>
  obtain⟨E,cl,hb',_⟩:=x;simp only[HEnt.blk,Option.some.injEq] at hb;subst hb;exact key _ hb'
 |obj b' o=>
  simp only[HEnt.blk,Option.some.injEq] at hb;subst hb;exact key _ x
structure Glo where
 p:Seal->Prop
 mono:∀R R':Seal,R.le R'->p R->p R'
structure Ctx where
 w0:World
 R0:Seal
 B0:List Nat
 G:Glo
 hG:G.p R0
 D:List Deferred
structure Fu (w0:World) (B0:List Nat) (w:World):Prop where
 os:w.os=w0.os
 tape:w.tape=w0.tape
 output:w.output=w0.output
 size:w0.heap.size<=w.heap.size
 block:∀b,b<w0.heap.size->b∉B0->w.heap[b]? =w0.heap[b]?
theorem Fu.refl (w:World)(B:List Nat):Fu w B w:=⟨rfl,rfl,rfl,Nat.le_refl _,λ_ _ _=>rfl⟩
structure MS (C:Ctx) (R:Seal) (H:Heap) (w:World):Prop where
 sealed:ea R w
 ge:C.R0.le R
 fresh:∀b,R b≠none->C.R0 b≠none\/C.w0.heap.size<=b\/b∈C.B0
 heap:wS R w H
 own:∀h∈H,∀b,h.blk=some b->C.w0.heap.size<=b\/b∈C.B0
 ext:Fu C.w0 C.B0 w
abbrev Env:=List (Nat×AVal)
def Env.get:Env->Nat->Option AVal
 |[],_=>none
 |(k,v)::t,n=>match Nat.beq k n with
  |true=>some v
  |false=>Env.get t n
structure FS (D:List Deferred) (n:Nat) (R:Seal) (env:Env) (a:Act):Prop where
 fr:∀k v,Env.get env k=some v->∃x,a.tmps[k]? =some x/\bD R v x
 size:a.tmps.size=n
 defers:a.defers=D
theorem FS.mono {D:List Deferred}{n:Nat}{R R':Seal}{env:Env}{a:Act}(h:FS D n R env a)(hR:R.le R'):FS D n R' env a:=
 ⟨λk v x=>let ⟨y,hy,hr⟩:=h.fr k v x;⟨y,hy,gE hR hr⟩,h.size,h.defers⟩
theorem FS.put {D:List Deferred}{n:Nat}{R:Seal}{env:Env}{a:Act}(h:FS D n R env a){d:Nat}(hd:Nat.ble (d+1) n=true){av:AVal}{v:Value}(hv:bD R av v):
  FS D n R ((d,av)::env) (a.put (some d) v):=by
 have hd:d<n:=by have:=Nat.le_of_ble_eq_true hd;omega
 refine⟨λk x hk=> ?_,by simp[Act.put,h.size],h.defers⟩;simp only[Env.get] at hk;by_cases e:d=k
 ·subst e;rw[Nat.beq_refl] at hk;simp only[Option.some.injEq] at hk;subst hk;exact⟨v,by simp[Act.put,h.size,hd],hv⟩
 ·have hb:Nat.beq d k=false:=by
   cases hb:Nat.beq d k with
   |false=>rfl
   |true=>exact absurd (Nat.eq_of_beq_eq_true hb) e
  rw[hb] at hk;obtain⟨y,hy,hr⟩:=h.fr k x hk;refine⟨y,?_,hr⟩;simp only[Act.put];rw[Array.getElem?_setIfInBounds_ne e];exact hy
def CK:Value->AVal
 |.bool b=>.bool b
 |.int k n=>.int k n
 |.string s=>.str s.data.toList
 |v=>.raw v
def Bp {β:Type}:List UInt8->(List UInt8->β)->β
 |[],k=>k []
 |c::cs,k=>Bp cs (λr=>k (c::r))
theorem oK {β:Type}:∀(l:List UInt8) (k:List UInt8->β),Bp l k=k l
 |[],_=>rfl
 |_::cs,k=>oK cs _
def ae (env:Env):Operand->Option AVal
 |.tmp t=>Env.get env t
 |.const (.string s)=>Bp s.data.toList λl=>some (.str l)
 |.const v=>some (CK v)
 |.global g=>some (.raw (.pointer (some ⟨g,0,none⟩)))
 |.func f=>some (.func (.func f) [] [])
theorem pU (R:Seal)(v:Value):bD R (CK v) v:=by
 cases v<;>first|exact al.2 rfl|exact aN.2 rfl|exact am.2 rfl|skip
 exact aF.2 rfl
theorem dB (env:Env)(v:Value):ae env (.const v)=some (CK v):=by cases v<;>first|rfl|(simp only[ae,oK];rfl)
theorem FS.eval {D:List Deferred}{n:Nat}{R:Seal}{env:Env}{a:Act}(h:FS D n R env a){x:Operand}{av:AVal}(hx:ae env x=some av):bD R av (a.eval x):=by
 cases x with
 |tmp t=>
  obtain⟨y,hy,hr⟩:=h.fr t av hx;simp only[Act.eval,Array.getD_eq_getD_getElem?,hy];exact hr
 |const v=>
  rw[dB] at hx;simp only[Option.some.injEq] at hx;subst hx;exact pU R v
 |global g=>simp only[ae,Option.some.injEq] at hx;subst hx;exact al.2 rfl
 |func f=>
  simp only[ae,Option.some.injEq] at hx;subst hx;exact⟨⟨#[],#[],rfl,rfl,rfl⟩,rfl⟩
inductive aK where
 |normal
 |exit (id:Nat)
 |goto (l:Nat)
 |ret
 |panic (v:AVal)
def aG (R:Seal):aK->Exit->Prop
 |.normal,e=>e= .normal
 |.exit i,e=>e= .exit i
 |.goto i,e=>e= .goto i
 |.ret,e=>e= .ret
 |.panic v,e=>∃x,e= .panic [{v:=x,recovered:=false}]/\bD R v x
def gW (C:Ctx)(n:Nat)(Q:aK->Env->Heap->Prop)(e:Exit)(a:Act)(w:World):Prop:=
 ∃x env H R,Q x env H/\aG R x e/\MS C R H w/\FS C.D n R env a
def bI (P:Program)(C:Ctx)(n:Nat)(c:Code)(env:Env)(H:Heap)(Q:aK->Env->Heap->Prop):Prop:=
 ∀R a w,MS C R H w->FS C.D n R env a->c.wp P (gW C n Q) a w
def ap (P:Program)(C:Ctx)(n:Nat)(ops:Array Oper)(l:List Oper)(env:Env)(H:Heap)(Q:aK->Env->Heap->Prop):Prop:=
 ∀R a w,MS C R H w->FS C.D n R env a->wpList P ops (gW C n Q) l a w
section
variable {P:Program} {C:Ctx} {n:Nat} {env:Env} {H:Heap} {Q:aK->Env->Heap->Prop}
theorem bI.mono {c:Code}{Q':aK->Env->Heap->Prop}(h:bI P C n c env H Q)(hq:∀x e h,Q x e h->Q' x e h):bI P C n c env H Q':=
 λR a w hm hf=>wp_mono (h R a w hm hf) λ_ _ _ ⟨x,en,H',R',q,r⟩=>⟨x,en,H',R',hq _ _ _ q,r⟩
theorem Ks (h:Q .normal env H):bI P C n .skip env H Q:=
 λR _ _ hm hf=>wp_skip ⟨.normal,env,H,R,h,rfl,hm,hf⟩
theorem Ku {id:Nat}(h:Q (.exit id) env H):bI P C n (.exit id) env H Q:=
 λR _ _ hm hf=>wp_exit ⟨.exit id,env,H,R,h,rfl,hm,hf⟩
theorem M5 (h:Q .ret env H):bI P C n .ret env H Q:=
 λR _ _ hm hf=>wp_ret ⟨.ret,env,H,R,h,rfl,hm,hf⟩
def eM (K:Env->Heap->Prop)(Q:aK->Env->Heap->Prop):aK->Env->Heap->Prop
 |.normal,e,h=>K e h
 |x,e,h=>Q x e h
theorem dZ {x y:Code}(h:bI P C n x env H (eM (λe h=>bI P C n y e h Q) Q)):bI P C n (.seq x y) env H Q:=by
 intro R a w hm hf;refine wp_seq (wp_mono (h R a w hm hf) ?_);rintro e a' w' ⟨x',en,H',R',q,er,hm',hf'⟩;cases x' with
 |normal=>simp only[aG] at er;subst er;exact q R' a' w' hm' hf'
 |exit i=>simp only[aG] at er;subst er;exact⟨.exit i,en,H',R',q,rfl,hm',hf'⟩
 |goto i=>simp only[aG] at er;subst er;exact⟨.goto i,en,H',R',q,rfl,hm',hf'⟩
 |ret=>simp only[aG] at er;subst er;exact⟨.ret,en,H',R',q,rfl,hm',hf'⟩
 |panic v=>obtain⟨y,rfl,hr⟩:=er;exact⟨.panic v,en,H',R',q,⟨y,rfl,hr⟩,hm',hf'⟩
theorem Kv {c:Operand}{x y:Code}{b:Bool}(hc:ae env c=some (.bool b))(ht:b=true->bI P C n x env H Q)(hf:b=false->bI P C n y env H Q):
  bI P C n (.cond c x y) env H Q:=by
 intro R a w hm hfr;exact wp_cond_split (aN.1 (hfr.eval hc)) (λe=>ht e R a w hm hfr) (λe=>hf e R a w hm hfr)
def wG (id:Nat)(Q:aK->Env->Heap->Prop):aK->Env->Heap->Prop
 |.exit i,e,h=>(i=id->Q .normal e h)/\(i≠id->Q (.exit i) e h)
 |x,e,h=>Q x e h
theorem jl {id:Nat}{c:Code}(h:bI P C n c env H (wG id Q)):bI P C n (.block id c) env H Q:=by
 intro R a w hm hf;refine wp_block (wp_mono (h R a w hm hf) ?_);rintro e a' w' ⟨x',en,H',R',q,er,hm',hf'⟩
 cases x' with
 |normal=>simp only[aG] at er;subst er;exact⟨.normal,en,H',R',q,rfl,hm',hf'⟩
 |exit i=>
  simp only[aG] at er;subst er
  simp only[Exit.inBlock]
  by_cases e:i=id
  ·rw[if_pos e];exact⟨.normal,en,H',R',q.1 e,rfl,hm',hf'⟩
  ·rw[if_neg e];exact⟨.exit i,en,H',R',q.2 e,rfl,hm',hf'⟩
 |goto i=>simp only[aG] at er;subst er;exact⟨.goto i,en,H',R',q,rfl,hm',hf'⟩
 |ret=>simp only[aG] at er;subst er;exact⟨.ret,en,H',R',q,rfl,hm',hf'⟩
 |panic v=>obtain⟨y,rfl,hr⟩:=er;exact⟨.panic v,en,H',R',q,⟨y,rfl,hr⟩,hm',hf'⟩
def Env.sub (env:Env):Env->Prop
 |[]=>True
 |(k,v)::t=>Env.get env k=some v/\Env.sub env t
theorem Env.sub_get {env:Env}:∀{t:Env},Env.sub env t->∀k v,Env.get t k=some v->Env.get env k=some v
 |[],_,k,v,h=>by simp[Env.get] at h
 |(j,x)::t,hs,k,v,h=>by
  simp only[Env.get] at h
  cases hb:Nat.beq j k with
  |true=>
   rw[hb] at h
   simp only[Option.some.injEq] at h
   subst h
   have:=Nat.eq_of_beq_eq_true hb
   subst this
   exact hs.1
  |false=>rw[hb] at h;exact Env.sub_get hs.2 k v h
theorem FS.sub {D:List Deferred}{R:Seal}{a:Act}{t:Env}(h:FS D n R env a)(hs:Env.sub env t):FS D n R t a:=
 ⟨λk v x=>h.fr k v (Env.sub_get hs k v x),h.size,h.defers⟩
theorem Iu {c:Code}{env':Env}(hs:Env.sub env env')(h:bI P C n c env' H Q):bI P C n c env H Q:=
 λR a w hm hf=>h R a w hm (hf.sub hs)
def qg (P:Program)(C:Ctx)(n:Nat)(c:Code)(Q:aK->Env->Heap->Prop):Nat->Env->Heap->Prop
 |0,_,_=>False
 |k+1,e,h=>bI P C n c e h (eM (qg P C n c Q k) Q)
theorem Fh {c:Code}(k:Nat)(h:qg P C n c Q k env H):bI P C n (.loop c) env H Q:=by
 intro R a w hm hf;refine wp_loop_rounds k ?_;induction k generalizing env H R a w with
 |zero=>exact h.elim
 |succ k ih=>
  rw[rounds_succ]
  refine wp_mono (h R a w hm hf) ?_
  rintro e a' w' ⟨x',en,H',R',q,er,hm',hf'⟩
  cases x' with
  |normal=>simp only[aG] at er;subst er;exact ih q R' a' w' hm' hf'
  |exit i=>simp only[aG] at er;subst er;exact⟨.exit i,en,H',R',q,rfl,hm',hf'⟩
  |goto i=>simp only[aG] at er;subst er;exact⟨.goto i,en,H',R',q,rfl,hm',hf'⟩
  |ret=>simp only[aG] at er;subst er;exact⟨.ret,en,H',R',q,rfl,hm',hf'⟩
  |panic v=>obtain⟨y,rfl,hr⟩:=er;exact⟨.panic v,en,H',R',q,⟨y,rfl,hr⟩,hm',hf'⟩
theorem Ky {c:Code}{k:Nat}(h:bI P C n c env H (eM (qg P C n c Q k) Q)):qg P C n c Q (k+1) env H:=h
end
end
section
open Go
theorem jK {w:World}{b:Nat}{o:Obj}(h:w.heap[b]? =some o):b<w.heap.size:=by
 rcases Nat.lt_or_ge b w.heap.size with k|k
 ·exact k
 ·simp[Array.getElem?_eq_none k] at h
def grow (w:World)(o:Obj):World:={w with heap:=w.heap.push o}
theorem dF (w:World)(o:Obj):(grow w o).heap[w.heap.size]? =some o:=by
 show(w.heap.push o)[w.heap.size]? =some o;simp
theorem pZ {w:World}{o:Obj}{b:Nat}(h:b<w.heap.size):(grow w o).heap[b]? =w.heap[b]? :=by
 simp only[grow,Array.getElem?_push];rw[if_neg (by omega)]
theorem Fu.grow {w0 w:World}{B:List Nat}(h:Fu w0 B w)(o:Obj):Fu w0 B (grow w o):=
  ⟨h.os,h.tape,h.output,by have:=h.size;simp only[Go.Proofs.YtmdhmodenkjmdaaGreatDoor.grow,Array.size_push];omega,
   λb hb hB=>by rw[pZ (by have:=h.size;omega)];exact h.block b hb hB⟩
theorem ea.grow {R:Seal}{w:World}(h:ea R w)(o:Obj):ea R (grow w o):=λb o' hb=>by
 have:=h b o' hb;rw[pZ (jK this)];exact this
theorem wS.blk_lt {R:Seal}{w:World}{H:Heap}(h:wS R w H){b:Nat}(hb:b∈H.filterMap HEnt.blk):b<w.heap.size:=by
 obtain⟨e,he,hb⟩:=List.mem_filterMap.1 hb;exact HEnt.blk_lt (h.holds e he) hb
theorem MS.alloc {C:Ctx}{R:Seal}{H:Heap}{w:World}(h:MS C R H w)(o:Obj)(x:HEnt)(hb:x.blk=some w.heap.size)
  (hx:x.holds R (grow w o)):MS C R (x::H) (grow w o) where
 sealed:=h.sealed.grow o
 ge:=h.ge
 fresh:=h.fresh
 heap:=by
  refine⟨λy hy=> ?_,?_,λy hy b hyb=> ?_⟩
  ·rcases List.mem_cons.1 hy with rfl|hy
   ·exact hx
   ·refine HEnt.holds_mono (h.heap.holds y hy) (Seal.le_refl R) λb hyb=> ?_;exact pZ (HEnt.blk_lt (h.heap.holds y hy) hyb)
  ·simp only[List.filterMap_cons,hb];refine List.nodup_cons.2 ⟨λhm=> ?_,h.heap.nodup⟩;exact absurd (h.heap.blk_lt hm) (Nat.lt_irrefl _)
  ·rcases List.mem_cons.1 hy with rfl|hy
   ·rw[hb] at hyb;simp only[Option.some.injEq] at hyb;subst hyb;cases hR:R w.heap.size with
    |none=>rfl
    |some o'=>exact absurd (jK (h.sealed _ _ hR)) (Nat.lt_irrefl _)
   ·exact h.heap.apart y hy b hyb
 own:=λy hy b hyb=>by
  rcases List.mem_cons.1 hy with rfl|hy
  ·rw[hb] at hyb;simp only[Option.some.injEq] at hyb;subst hyb;exact .inl h.ext.size
  ·exact h.own y hy b hyb
 ext:=h.ext.grow o
def Seal.put (R:Seal)(b:Nat)(o:Obj):Seal:=λk=>if k=b then some o else R k
theorem Seal.put_le {R:Seal}{b:Nat}{o:Obj}(h:R b=none):R.le (R.put b o):=λk o' hk=>by
 simp only[Seal.put]
 by_cases e:k=b
 ·subst e;rw[h] at hk;cases hk
 ·rw[if_neg e];exact hk
theorem Seal.put_at (R:Seal)(b:Nat)(o:Obj):R.put b o b=some o:=by simp[Seal.put]
theorem MS.seal_free {C:Ctx}{R:Seal}{H:Heap}{w:World}(h:MS C R H w):R w.heap.size=none:=by
 cases hR:R w.heap.size with
 |none=>rfl
 |some o'=>exact absurd (jK (h.sealed _ _ hR)) (Nat.lt_irrefl _)
theorem MS.alloc_sealed {C:Ctx}{R:Seal}{H:Heap}{w:World}(h:MS C R H w)(o:Obj):MS C (R.put w.heap.size o) H (grow w o) where
 sealed:=λb o' hb=>by
  simp only[Seal.put] at hb;by_cases e:b=w.heap.size
  ·subst e;rw[if_pos rfl] at hb;rw[dF];exact hb
  ·rw[if_neg e] at hb;exact h.sealed.grow o b o' hb
 ge:=Seal.le_trans h.ge (Seal.put_le h.seal_free)
 fresh:=λb hb=>by
  simp only[Seal.put] at hb;by_cases e:b=w.heap.size
  ·subst e;exact .inr (.inl h.ext.size)
  ·rw[if_neg e] at hb;exact h.fresh b hb
 heap:=by
  refine⟨λy hy=> ?_,h.heap.nodup,λy hy b hyb=> ?_⟩
  ·refine HEnt.holds_mono (h.heap.holds y hy) (Seal.put_le h.seal_free) λb hyb=> ?_;exact pZ (HEnt.blk_lt (h.heap.holds y hy) hyb)
  ·have:=HEnt.blk_lt (h.heap.holds y hy) hyb;simp only[Seal.put];rw[if_neg (by omega)];exact h.heap.apart y hy b hyb
 own:=h.own
 ext:=h.ext.grow o
structure iJ (w:World) (b:Nat) (o:Obj) (w':World):Prop where
 os:w'.os=w.os
 tape:w'.tape=w.tape
 output:w'.output=w.output
 size:w'.heap.size=w.heap.size
 at_:w'.heap[b]? =some o
 other:∀k,k≠b->w'.heap[k]? =w.heap[k]?
theorem lh {α:Type}{l:List α}{i:Nat}{x y:α}(h:l[i]? =some x):∃a c,l=a++x::c/\l.set i y=a++y::c:=by
 induction l generalizing i with
 |nil=>simp at h
 |cons z t ih=>
  cases i with
  |zero=>simp only[List.getElem?_cons_zero,Option.some.injEq] at h;subst h;exact⟨[],t,rfl,rfl⟩
  |succ i=>
   simp only[List.getElem?_cons_succ] at h;obtain⟨a,c,h1,h2⟩:=ih h;exact⟨z::a,c,by rw[h1];rfl,by simp[h2]⟩
theorem MS.write {C:Ctx}{R:Seal}{H:Heap}{w w':World}{i b:Nat}{x y:HEnt}{o:Obj}(h:MS C R H w)(hi:H[i]? =some x)(hb:x.blk=some b)
  (hw:iJ w b o w') (hyb:y.blk=some b) (hy:y.holds R w'):MS C R (H.set i y) w':=by
 obtain⟨a,c,rfl,hset⟩:=lh (y:=y) hi;rw[hset];have hx:x∈a++x::c:=by simp
 have hlt:=HEnt.blk_lt (h.heap.holds x hx) hb;have hRb:=h.heap.apart x hx b hb;have hnd:=h.heap.nodup;rw[List.filterMap_append,List.filterMap_cons,hb] at hnd;have hother:∀z,z∈a\/z∈c->∀k,z.blk=some k->k≠b:=by
  rintro z hz k hk rfl;have hd:=List.nodup_append.1 hnd;rcases hz with hz|hz
  ·exact hd.2.2 k (List.mem_filterMap.2 ⟨z,hz,hk⟩) k (by simp) rfl
  ·exact(List.nodup_cons.1 hd.2.1).1 (List.mem_filterMap.2 ⟨z,hz,hk⟩)
 have hmem:∀z,z∈a++y::c->z=y\/((z∈a\/z∈c)/\z∈a++x::c):=by
  intro z hz;simp only[List.mem_append,List.mem_cons] at hz ⊢;rcases hz with hz|hz|hz
  ·exact .inr ⟨.inl hz,.inl hz⟩
  ·exact .inl hz
  ·exact .inr ⟨.inr hz,.inr (.inr hz)⟩
 refine⟨?_,h.ge,h.fresh,⟨?_,?_,?_⟩,?_,?_⟩
 ·intro k o' hk;rw[hw.other k (by rintro rfl;rw[hRb] at hk;cases hk)];exact h.sealed k o' hk
 ·intro z hz;rcases hmem z hz with rfl|⟨hz',hz''⟩
  ·exact hy
  ·exact HEnt.holds_mono (h.heap.holds z hz'') (Seal.le_refl R) λk hk=>hw.other k (hother z hz' k hk)
 ·rw[List.filterMap_append,List.filterMap_cons,hyb];exact hnd
 ·intro z hz k hk;rcases hmem z hz with rfl|⟨_,hz''⟩
  ·rw[hyb] at hk;simp only[Option.some.injEq] at hk;subst hk;exact hRb
  ·exact h.heap.apart z hz'' k hk
 ·intro z hz k hk;rcases hmem z hz with rfl|⟨_,hz''⟩
  ·rw[hyb] at hk;simp only[Option.some.injEq] at hk;subst hk;exact h.own x hx b hb
  ·exact h.own z hz'' k hk
 ·have hob:=h.own x hx b hb;refine⟨hw.os.trans h.ext.os,hw.tape.trans h.ext.tape,hw.output.trans h.ext.output,by rw[hw.size];exact h.ext.size,λk hk hB=> ?_⟩;rw[hw.other k (by rintro rfl;rcases hob with h1|h1;omega;exact hB h1)];exact h.ext.block k hk hB
theorem MS.drop {C:Ctx}{R:Seal}{H H':Heap}{w:World}(h:MS C R H w)(hs:H'.Sublist H):MS C R H' w:=
  ⟨h.sealed,h.ge,h.fresh,⟨λy hy=>h.heap.holds y (hs.subset hy),h.heap.nodup.sublist (hs.filterMap _),λy hy=>h.heap.apart y (hs.subset hy)⟩,
   λy hy=>h.own y (hs.subset hy),h.ext⟩
theorem MS.perm {C:Ctx}{R:Seal}{H H':Heap}{w:World}(h:MS C R H w)(hs:H.Perm H'):MS C R H' w:=
  ⟨h.sealed,h.ge,h.fresh,⟨λy hy=>h.heap.holds y (hs.mem_iff.2 hy),(hs.filterMap _).nodup_iff.1 h.heap.nodup,λy hy=>h.heap.apart y (hs.mem_iff.2 hy)⟩,
   λy hy=>h.own y (hs.mem_iff.2 hy),h.ext⟩
theorem MS.fixed {C:Ctx}{R:Seal}{H:Heap}{w:World}{x:HEnt}{b:Nat}{o:Obj}(h:MS C R (x::H) w)(hb:x.blk=some b)(ho:w.heap[b]? =some o):
  MS C (R.put b o) H w/\R.le (R.put b o):=by
 have hx:x∈x::H:=by simp
 have hRb:=h.heap.apart x hx b hb;have hle:=Seal.put_le (o:=o) hRb;have hnd:=h.heap.nodup;rw[List.filterMap_cons,hb] at hnd;refine⟨⟨?_,Seal.le_trans h.ge hle,?_,⟨λy hy=> ?_,(List.nodup_cons.1 hnd).2,λy hy k hk=> ?_⟩,λy hy=>h.own y (by simp[hy]),h.ext⟩,hle⟩
 ·intro k o' hk;simp only[Seal.put] at hk;by_cases e:k=b
  ·subst e;rw[if_pos rfl] at hk;rw[ho];exact hk
  ·rw[if_neg e] at hk;exact h.sealed k o' hk
 ·intro k hk;simp only[Seal.put] at hk;by_cases e:k=b
  ·subst e;exact .inr (h.own x hx k hb)
  ·rw[if_neg e] at hk;exact h.fresh k hk
 ·exact HEnt.holds_mono (h.heap.holds y (by simp[hy])) hle λ_ _=>rfl
 ·have:k≠b:=by
   rintro rfl;exact(List.nodup_cons.1 hnd).1 (List.mem_filterMap.2 ⟨y,hy,hk⟩)
  simp only[Seal.put];rw[if_neg this];exact h.heap.apart y (by simp[hy]) k hk
def dk (H:Heap):List Nat:=H.filterMap HEnt.blk
theorem MS.glo {C:Ctx}{R:Seal}{H:Heap}{w:World}(h:MS C R H w):C.G.p R:=C.G.mono _ _ h.ge C.hG
theorem MS.call {C:Ctx}{R R':Seal}{H1 H1' H2:Heap}{w w':World}{G:Glo}{hG:G.p R}(h:MS C R (H1++H2) w)(h':MS ⟨w,R,dk H1,G,hG,[]⟩ R' H1' w'):MS C R' (H1'++H2) w':=by
 have hnd:=h.heap.nodup;rw[List.filterMap_append] at hnd;have hd:=List.nodup_append.1 hnd;have hB1:∀b,b∈dk H1->C.w0.heap.size<=b\/b∈C.B0:=by
  intro b hb;obtain⟨e,he,hb⟩:=List.mem_filterMap.1 hb;exact h.own e (by simp[he]) b hb
 have h2:∀z∈H2,∀b,z.blk=some b->b<w.heap.size/\b∉dk H1:=by
  intro z hz b hb;refine⟨HEnt.blk_lt (h.heap.holds z (by simp[hz])) hb,λhm=> ?_⟩;exact hd.2.2 b hm b (List.mem_filterMap.2 ⟨z,hz,hb⟩) rfl
 refine⟨h'.sealed,Seal.le_trans h.ge h'.ge,?_,⟨?_,?_,?_⟩,?_,?_⟩
 ·intro b hb;rcases h'.fresh b hb with h1|h1|h1
  ·exact h.fresh b h1
  ·exact .inr (.inl (Nat.le_trans h.ext.size h1))
  ·exact .inr (hB1 b h1)
 ·intro z hz;rcases List.mem_append.1 hz with hz|hz
  ·exact h'.heap.holds z hz
  ·exact HEnt.holds_mono (h.heap.holds z (by simp[hz])) h'.ge λb hb=>h'.ext.block b (h2 z hz b hb).1 (h2 z hz b hb).2
 ·rw[List.filterMap_append];refine List.nodup_append.2 ⟨h'.heap.nodup,hd.2.1,?_⟩;rintro b hb k hk rfl;obtain⟨e,he,hb⟩:=List.mem_filterMap.1 hb;obtain⟨z,hz,hk⟩:=List.mem_filterMap.1 hk;have:=h2 z hz b hk;rcases h'.own e he b hb with h1|h1
  ·exact absurd (show w.heap.size<=b from h1) (by have:=this.1;omega)
  ·exact this.2 h1
 ·intro z hz b hb;rcases List.mem_append.1 hz with hz|hz
  ·exact h'.heap.apart z hz b hb
  ·cases hR:R' b with
   |none=>rfl
   |some o=>
    have:=h2 z hz b hb;rcases h'.fresh b (by simp[hR]) with h1|h1|h1
    ·exact absurd (h.heap.apart z (by simp[hz]) b hb) h1
    ·exact absurd h1 (by have:=this.1;show ¬w.heap.size<=b;omega)
    ·exact absurd h1 this.2
 ·intro z hz b hb;rcases List.mem_append.1 hz with hz|hz
  ·rcases h'.own z hz b hb with h1|h1
   ·exact .inl (Nat.le_trans h.ext.size h1)
   ·exact hB1 b h1
  ·exact h.own z (by simp[hz]) b hb
 ·refine⟨h'.ext.os.trans h.ext.os,h'.ext.tape.trans h.ext.tape,h'.ext.output.trans h.ext.output,Nat.le_trans h.ext.size h'.ext.size,λb hb hB=> ?_⟩;rw[h'.ext.block b (Nat.lt_of_lt_of_le hb h.ext.size) (λhm=>by rcases hB1 b hm with h1|h1;omega;exact hB h1)];exact h.ext.block b hb hB
theorem MS.enter {C:Ctx}{R:Seal}{H1 H2:Heap}{w:World}{G:Glo}{hG:G.p R}(h:MS C R (H1++H2) w):MS ⟨w,R,dk H1,G,hG,[]⟩ R H1 w:=
 have hd:=h.drop (H':=H1) (by simp)
 ⟨h.sealed,Seal.le_refl R,λ_ hb=>.inl hb,hd.heap,λz hz b hb=>.inr (List.mem_filterMap.2 ⟨z,hz,hb⟩),Fu.refl w _⟩
end
section
open Go
section
variable {P:Program} {C:Ctx} {n:Nat} {env:Env} {H:Heap} {Q:aK->Env->Heap->Prop} {ops:Array Oper} {rest:List Oper}
theorem uR {id:Nat}{l:List Oper}(h:ap P C n l.toArray l env H Q):bI P C n (.region id l.toArray false) env H Q:=
 λR a w hm hf=>wp_region_lit (h R a w hm hf)
theorem IE (h:Q .normal env H):ap P C n ops [] env H Q:=
 λR _ _ hm hf=>wpList_nil ⟨.normal,env,H,R,h,rfl,hm,hf⟩
def aC (ops:Array Oper)(env:Env):Option (Nat×Bool)->Option (Bool×Bool)
 |none=>some (true,true)
 |some (j,want)=>
  match ops[j]? with
  |some o=>match o.dst with
   |some d=>match Env.get env d with
    |some (.bool b)=>some (b,want)
    |_=>none
   |none=>none
  |none=>none
theorem bS {D:List Deferred}{R:Seal}{a:Act}{o:Oper}{b want:Bool}(hf:FS D n R env a)(hg:aC ops env o.guard=some (b,want)):
  Region.wanted o (yielded ops a.tmps)=(b==want):=by
 unfold aC at hg;unfold Region.wanted;split at hg
 ·rename_i h;rw[h];simp only[Option.some.injEq,Prod.mk.injEq] at hg;simp[hg.1.symm,hg.2.symm]
 ·rename_i j wt h;rw[h];split at hg
  ·rename_i o' ho;split at hg
   ·rename_i d hd;split at hg
    ·rename_i b' hb;simp only[Option.some.injEq,Prod.mk.injEq] at hg;obtain⟨rfl,rfl⟩:=hg;obtain⟨x,hx,hr⟩:=hf.fr d _ hb;rw[aN.1 hr] at hx;simp[yielded,ho,hd,hx]
    ·simp at hg
   ·simp at hg
  ·simp at hg
def bW (ops:Array Oper):Option (Nat×Bool)->Option Nat
 |some (j,_)=>match ops[j]? with
  |some o=>o.dst
  |none=>none
 |none=>none
theorem KA {o:Oper}{d:Nat}(hg:aC ops env o.guard=some (true,false))(hd:o.dst=some d)(hdn:Nat.ble (d+1) n=true)
  (h:ap P C n ops rest ((d,.raw undef)::env) H Q):ap P C n ops (o::rest) env H Q:=by
 intro R a w hm hf;refine wpList_step λK hK=> ?_;rw[bS hf hg,if_neg (by simp),hd];exact hK _ _ (h R _ w hm (hf.put hdn (al.2 rfl)))
theorem IC {o:Oper}{d:Nat}(hg:aC ops env o.guard=some (false,true))(hd:o.dst=some d)(hdn:Nat.ble (d+1) n=true)
  (h:ap P C n ops rest ((d,.raw undef)::env) H Q):ap P C n ops (o::rest) env H Q:=by
 intro R a w hm hf;refine wpList_step λK hK=> ?_;rw[bS hf hg,if_neg (by simp),hd];exact hK _ _ (h R _ w hm (hf.put hdn (al.2 rfl)))
theorem nT {o:Oper}{b want:Bool}(hg:aC ops env o.guard=some (b,want))(hb:(b==want)=false)(hd:o.dst=none)
  (h:ap P C n ops rest env H Q):ap P C n ops (o::rest) env H Q:=by
 intro R a w hm hf;refine wpList_step λK hK=> ?_;rw[bS hf hg,hb,if_neg (by simp),hd];exact hK _ _ (h R _ w hm hf)
theorem s9 {o:Oper}{d e:Nat}(hs:bW ops o.guard=some e)(hv:Env.get env e=some (.raw undef))(hd:o.dst=some d)(hdn:Nat.ble (d+1) n=true)
  (h:ap P C n ops rest ((d,.raw undef)::env) H Q):ap P C n ops (o::rest) env H Q:=by
 intro R a w hm hf;refine wpList_step λK hK=> ?_;have hw:Region.wanted o (yielded ops a.tmps)=false:=by
  unfold bW at hs;unfold Region.wanted;split at hs
  ·rename_i j want h;rw[h];split at hs
   ·rename_i o' ho;obtain⟨x,hx,hr⟩:=hf.fr e _ hv;rw[al.1 hr] at hx;simp[yielded,ho,hs,hx,undef]
   ·cases hs
  ·cases hs
 rw[hw,if_neg (by simp),hd];exact hK _ _ (h R _ w hm (hf.put hdn (al.2 rfl)))
theorem zP {o:Oper}{b want:Bool}{d:Nat}(_hg:aC ops env o.guard=some (b,want))(_hs:bW ops o.guard=some d)(hv:Env.get env d=some (.bool b))
  (ht:b=true->ap P C n ops (o::rest) ((d,.bool true)::env) H Q) (hf:b=false->ap P C n ops (o::rest) ((d,.bool false)::env) H Q):
  ap P C n ops (o::rest) env H Q:=by
 have key:∀x,b=x->∀{D:List Deferred} R a,FS D n R env a->FS D n R ((d,.bool x)::env) a:=by
  rintro x rfl D R a hfr;refine⟨λk v hk=> ?_,hfr.size,hfr.defers⟩;simp only[Env.get] at hk;cases hb:Nat.beq d k with
  |true=>
   rw[hb] at hk;have:=Nat.eq_of_beq_eq_true hb;subst this;simp only[Option.some.injEq] at hk;subst hk;exact hfr.fr d _ hv
  |false=>rw[hb] at hk;exact hfr.fr k v hk
 intro R a w hm hfr;cases hb:b with
 |true=>exact ht hb R a w hm (key true hb R a hfr)
 |false=>exact hf hb R a w hm (key false hb R a hfr)
def j5 (R:Seal)(env:Env)(ρ:Operand->Value):Prop:=∀x av,ae env x=some av->bD R av (ρ x)
theorem gR {o:Oper}{d:Nat}{av:AVal}{H':Heap}{b:Bool}(hg:aC ops env o.guard=some (b,b))(hd:o.dst=some d)(hdn:Nat.ble (d+1) n=true)
  (hx:∀R ρ w,MS C R H w->j5 R env ρ->∃v w' R',(execOp ρ o).run P w= .ok (.value v) w'/\R.le R'/\bD R' av v/\MS C R' H' w')
  (h:ap P C n ops rest ((d,av)::env) H' Q):ap P C n ops (o::rest) env H Q:=by
 intro R a w hm hf;refine wpList_step λK hK=> ?_;rw[bS hf hg,if_pos (by simp)];obtain⟨v,w',R',hr,hR,hv,hm'⟩:=hx R a.eval w hm (λx av h=>hf.eval h);rw[Oper.wp,hr,Oper.upon_value,hd];exact hK _ _ (h R' _ w' hm' ((hf.mono hR).put hdn hv))
theorem dg {X:Type}{o:Oper}{d:Nat}{av:X->AVal}{H':X->Heap}{b:Bool}(hg:aC ops env o.guard=some (b,b))(hd:o.dst=some d)(hdn:Nat.ble (d+1) n=true)
  (hx:∀R ρ w,MS C R H w->j5 R env ρ->∃x v w' R',(execOp ρ o).run P w= .ok (.value v) w'/\R.le R'/\bD R' (av x) v/\MS C R' (H' x) w')
  (h:∀x,ap P C n ops rest ((d,av x)::env) (H' x) Q):ap P C n ops (o::rest) env H Q:=by
 intro R a w hm hf;refine wpList_step λK hK=> ?_;rw[bS hf hg,if_pos (by simp)];obtain⟨x,v,w',R',hr,hR,hv,hm'⟩:=hx R a.eval w hm (λx av h=>hf.eval h);rw[Oper.wp,hr,Oper.upon_value,hd];exact hK _ _ (h x R' _ w' hm' ((hf.mono hR).put hdn hv))
theorem qd {o:Oper}{d:Nat}{av:AVal}{b:Bool}(hg:aC ops env o.guard=some (b,b))(hd:o.dst=some d)(hdn:Nat.ble (d+1) n=true)
  (hx:∀R ρ w,MS C R H w->j5 R env ρ->∃v,(execOp ρ o).run P w= .ok (.value v) w/\bD R av v)
  (h:ap P C n ops rest ((d,av)::env) H Q):ap P C n ops (o::rest) env H Q:=
 gR hg hd hdn (λR ρ w hm hf=>let ⟨v,hr,hv⟩:=hx R ρ w hm hf;⟨v,w,R,hr,Seal.le_refl R,hv,hm⟩) h
variable {d:Nat} {t:TypeId} {p:String} {af:Array Edge} {g:Option (Nat×Bool)} {b:Bool} {av:AVal}
theorem Fq {x:Operand}(hg:aC ops env g=some (b,b))(hdn:Nat.ble (d+1) n=true)(hx:ae env x=some av)
  (h:ap P C n ops rest ((d,av)::env) H Q):ap P C n ops ({dst:=some d,op:=.assign x,type:=t,pos:=p,after:=af,guard:=g}::rest) env H Q:=
 qd hg rfl hdn (λ_ ρ _ _ hf=>⟨ρ x,rfl,hf _ _ hx⟩) h
def lP (x y:Int):Bool:=decide (x<y)
def cY (x y:Int):Bool:=decide (x=y)
theorem mf {x y:Int}:lP x y=true↔x<y:=by simp[lP]
theorem jU {x y:Int}:lP x y=false↔y<=x:=by simp[lP]
theorem fh {x y:Int}:cY x y=true↔x=y:=by simp[cY]
theorem rQ {x y:Int}:cY x y=false↔x≠y:=by simp[cY]
theorem JG {x y:Int}:lP x y=decide (x<y):=rfl
theorem J4 {x y:Int}:cY x y=decide (x=y):=rfl
theorem Mh {x y:Int}:decide (x<=y)= !lP y x:=by rw[Bool.eq_iff_iff];simp[lP]
theorem Mr {x y:Int}:decide (x≥y)= !lP x y:=by rw[Bool.eq_iff_iff];simp[lP]
attribute [irreducible] lP cY
def gK (op:BinOp)(k:IntKind)(x y:Int):Option AVal:=
 match op with
 |.add=>some (.int k (k.wrap (x+y)))
 |.sub=>some (.int k (k.wrap (x-y)))
 |.mul=>some (.int k (k.wrap (x*y)))
 |.and=>some (.int k (k.wrap (BitVec.ofInt k.bits x&&& BitVec.ofInt k.bits y).toNat))
 |.or=>some (.int k (k.wrap (BitVec.ofInt k.bits x|||BitVec.ofInt k.bits y).toNat))
 |.xor=>some (.int k (k.wrap (BitVec.ofInt k.bits x^^^BitVec.ofInt k.bits y).toNat))
 |.andNot=>some (.int k (k.wrap (BitVec.ofInt k.bits x&&& ~~~ BitVec.ofInt k.bits y).toNat))
 |.eql=>some (.bool (cY x y))
 |.neq=>some (.bool (!cY x y))
 |.lss=>some (.bool (lP x y))
 |.leq=>some (.bool (!lP y x))
 |.gtr=>some (.bool (lP y x))
 |.geq=>some (.bool (!lP x y))
 |_=>none
theorem AG {op:BinOp}{k:IntKind}{m q:Int}{tx:TypeId}{x y:Operand}{w:World}(ho:gK op k m q=some av):
  ∃v,Sem.run P (do eqGuard op tx x y (.int k m) (.int k q);Go.binOp op tx (.int k m) (.int k q)) w= .ok v w/\∀R,bD R av v:=by
 cases op<;>simp only[gK,Option.some.injEq] at ho<;>
  first
   |(cases ho;done)
   |(subst ho;refine⟨.int k _,?_,λ_=>am.2 rfl⟩;simp only[Go.binOp,eqGuard,ne_eq,not_true_eq_false,if_false,Op.intArith,Op.intBits,Op.intCmp];rfl)
   |(subst ho;refine⟨.bool _,?_,λ_=>aN.2 rfl⟩;simp only[Go.binOp,eqGuard,ne_eq,not_true_eq_false,if_false,Op.intArith,Op.intBits,Op.intCmp,JG,J4];rfl)
   |(subst ho;refine⟨.bool _,?_,λ_=>aN.2 rfl⟩;simp only[Go.binOp,eqGuard,ne_eq,not_true_eq_false,if_false,Op.intArith,Op.intBits,Op.intCmp,Mh,Mr];rfl)
end
end
section
open Go
structure TI where
 desc:TypeDesc
 size:Nat
 bytes:Nat
 zero:Option Value
 cmp:Bool
def uT (P:Program):List TI->Nat->Prop
 |[],_=>True
 |x::r,t=>(P.underlying t=some x.desc/\∃i,P.info? t=some i/\i.size=x.size/\i.bytes=x.bytes/\i.zero=x.zero/\i.comparable=x.cmp)/\uT P r (t+1)
class Tab (P:Program) where
 list:List TI
 ok:uT P list 0
def vS {α:Type}:List α->Nat->Option α
 |[],_=>none
 |x::_,0=>some x
 |_::r,n+1=>vS r n
def aS (P:Program)[T:Tab P](t:Nat):Option TI:=vS T.list t
theorem nZ {P:Program}:∀{l:List TI} {t k:Nat} {x:TI},uT P l t->vS l k=some x->
  P.underlying (t+k)=some x.desc/\∃i,P.info? (t+k)=some i/\i.size=x.size/\i.bytes=x.bytes/\i.zero=x.zero/\i.comparable=x.cmp
 |[],_,_,_,_,h=>by simp[vS] at h
 |y::r,t,0,x,ho,h=>by simp only[vS,Option.some.injEq] at h;subst h;exact ho.1
 |y::r,t,k+1,x,ho,h=>by
  have:=nZ (l:=r) (t:=t+1) (k:=k) ho.2 h;rw[show t+(k+1)=t+1+k by omega];exact this
section
variable {P:Program} [T:Tab P] {t:TypeId} {x:TI} (h:aS P t=some x)
include h
theorem aU:P.underlying t=some x.desc:=by have:=(nZ T.ok h).1;rwa [Nat.zero_add] at this
theorem ek:∃i,P.info? t=some i/\i.size=x.size/\i.bytes=x.bytes/\i.zero=x.zero/\i.comparable=x.cmp:=by
 have:=(nZ T.ok h).2;rwa [Nat.zero_add] at this
theorem ak (w:World):(underlying t).run P w= .ok x.desc w:=run_underlying (aU h) w
theorem mV (w:World):∃i,(typeInfo t).run P w= .ok i w/\i.size=x.size/\i.bytes=x.bytes/\i.zero=x.zero/\i.comparable=x.cmp:=by
 obtain⟨i,hi,r⟩:=ek h;refine⟨i,?_,r⟩;simp only[typeInfo,Sem.run_bind,run_program,Result.andThen_ok,hi,Sem.run_pure]
theorem aB (w:World):(sizeOf t).run P w= .ok x.size w:=by
 obtain⟨i,hi,hs,_⟩:=mV h w;simp only[sizeOf,Sem.run_bind,hi,Result.andThen_ok,Sem.run_pure,hs]
theorem ci {v:Value}(hz:x.zero=some v)(w:World):(zeroValue t).run P w= .ok v w:=by
 obtain⟨i,hi,_,_,h0,_⟩:=mV h w;simp only[zeroValue,Sem.run_bind,hi,Result.andThen_ok,h0,hz,Sem.run_pure]
def bL:TypeDesc->Bool
 |.struct _=>true
 |.array _ _=>true
 |_=>false
theorem cG (w:World):(isAgg t).run P w= .ok (bL x.desc) w:=by
 simp only[isAgg,Sem.run_bind,ak h w,Result.andThen_ok];cases x.desc<;>rfl
end
inductive cK where
 |ret (v:AVal)
 |panic (v:AVal)
def ei (R:Seal):cK->Ending->Prop
 |.ret v,e=>∃x,e= .returned x/\bD R v x
 |.panic v,e=>∃x,e= .panicked [{v:=x,recovered:=false}]/\bD R v x
def Ni (P:Program)(f:FuncId)(args:Array Value)(w:World)(R:Ending->World->Prop):Prop:=
 ((callFunc f args).run P w= .ok (.enter f args) w/\Calls P f args w R)\/∃v w',(callFunc f args).run P w= .ok (.value v) w'/\R (.returned v) w'
def ad (P:Program)(G:Glo)(f:FuncId)(avs:List AVal)(H:Heap)(Qf:cK->Heap->Prop):Prop:=
 ∀R w args (hG:G.p R),MS ⟨w,R,dk H,G,hG,[]⟩ R H w->cJ R avs args.toList->
  Ni P f args w λe w'=>∃res H' R',Qf res H'/\ei R' res e/\MS ⟨w,R,dk H,G,hG,[]⟩ R' H' w'
theorem ad.mono {P:Program}{G:Glo}{f:FuncId}{avs:List AVal}{H:Heap}{Qf Qf':cK->Heap->Prop}(h:ad P G f avs H Qf)(hq:∀r H',Qf r H'->Qf' r H'):
  ad P G f avs H Qf':=by
 intro R w args hG hm ha;rcases h R w args hG hm ha with⟨h1,h2⟩|⟨v,w',h1,res,H',R',q,r⟩
 ·exact .inl ⟨h1,h2.mono λe w' ⟨res,H',R',q,r⟩=>⟨res,H',R',hq _ _ q,r⟩⟩
 ·exact .inr ⟨v,w',h1,res,H',R',hq _ _ q,r⟩
theorem fc {P:Program}{w:World}{b:Nat}{C:Array Value}{e:TypeId}{fz:Nat×Nat}(hb:w.heap[b]? =some (.cells C e fz))(o:Nat):
  ∀(n i:Nat) (acc:Array Value),o+i+n<=C.size->(loadCellsFrom ⟨b,o,none⟩ i n acc).run P w= .ok (acc.toList++(C.toList.drop (o+i)).take n).toArray w
 |0,i,acc,_=>by simp[loadCellsFrom]
 |n+1,i,acc,h=>by
  have hc:w.cell? ((⟨b,o,none⟩:Addr).add i)=some C[o+i]:=by
   simp only[World.cell?,Addr.add];by_cases hi:i=0
   ·subst hi;simp[hb]
   ·simp[hi,hb]
  simp only[loadCellsFrom,Sem.run_bind,run_load,hc,Result.andThen_ok];rw[fc hb o n (i+1) _ (by omega)];have:(C.toList.drop (o+i)).take (n+1)=C[o+i]::(C.toList.drop (o+(i+1))).take n:=by
   rw[List.drop_eq_getElem_cons (by simp;omega),List.take_succ_cons];simp[Nat.add_assoc]
  rw[this];simp
theorem ay {R:Seal}:∀{cs:List AVal} {vs:List Value},bA R cs vs->vs.length=cs.length
 |[],_,h=>by simp only[bA] at h;subst h;rfl
 |c::cs,_,h=>by
  obtain⟨v,t,rfl,_,h⟩:=h;simp[ay h]
theorem dv {R:Seal}:∀{cs:List AVal} {vs:List Value} {i:Nat} {c:AVal},bA R cs vs->cs[i]? =some c->∃v,vs[i]? =some v/\aV R c [v]
 |[],_,_,_,_,h=>by simp at h
 |c::cs,_,0,x,h,hi=>by
  obtain⟨v,t,rfl,hv,h⟩:=h;simp only[List.getElem?_cons_zero,Option.some.injEq] at hi;subst hi;exact⟨v,rfl,hv⟩
 |c::cs,_,i+1,x,h,hi=>by
  obtain⟨v,t,rfl,_,h⟩:=h;exact dv (cs:=cs) (vs:=t) (i:=i) h (by simpa using hi)
theorem bE {R:Seal}:∀{a b:List AVal} {vs ws:List Value},bA R a vs->bA R b ws->bA R (a++b) (vs++ws)
 |[],_,_,_,h,k=>by simp only[bA] at h;subst h;exact k
 |c::cs,_,_,_,h,k=>by
  obtain⟨v,t,rfl,hv,h⟩:=h;exact⟨v,_,rfl,hv,bE h k⟩
theorem bP {R:Seal}:∀{a:List AVal} {vs:List Value} (n:Nat),bA R a vs->bA R (a.take n) (vs.take n)
 |[],_,n,h=>by simp only[bA] at h;subst h;simp[bA]
 |c::cs,_,0,h=>by simp[bA]
 |c::cs,_,n+1,h=>by
  obtain⟨v,t,rfl,hv,h⟩:=h;exact⟨v,_,rfl,hv,bP n h⟩
theorem bV {R:Seal}:∀{a:List AVal} {vs:List Value} (n:Nat),bA R a vs->bA R (a.drop n) (vs.drop n)
 |[],_,n,h=>by simp only[bA] at h;subst h;simp[bA]
 |c::cs,_,0,h=>h
 |c::cs,_,n+1,h=>by
  obtain⟨v,t,rfl,hv,h⟩:=h;exact bV n h
theorem ym {R:Seal}{a:AVal}{v:Value}(h:aV R a [v])(ha:a.isAgg=false):cm v=false:=by
 cases a<;>simp only[aV] at h
 case bool=>simp only[List.cons.injEq] at h;rw[h.1];rfl
 case int=>simp only[List.cons.injEq] at h;rw[h.1];rfl
 case str=>simp only[List.cons.injEq] at h;rw[h.1];rfl
 case raw x=>cases x<;>simp_all [Value.cells,cm,AVal.isAgg]
 case list=>obtain⟨_,_,h,_⟩:=h;simp only[List.cons.injEq] at h;rw[h.1];rfl
 case rop=>obtain⟨_,_,_,_,_,h,_⟩:=h;simp only[List.cons.injEq] at h;rw[h.1];rfl
 case agg=>simp[AVal.isAgg] at ha
 case tuple=>obtain⟨_,h,_⟩:=h;simp only[List.cons.injEq] at h;rw[h.1];rfl
 case iface=>obtain⟨_,h,_⟩:=h;simp only[List.cons.injEq] at h;rw[h.1];rfl
 case func=>obtain⟨_,_,h,_⟩:=h;simp only[List.cons.injEq] at h;rw[h.1];rfl
 case own=>obtain⟨h,h2⟩:=h;simp only[List.cons.injEq] at h;rw[h.1];exact h2
theorem cC {R:Seal}{a:AVal}{v:Value}(h:aV R a [v])(ha:a.isAgg=false):bD R a v:=qJ h ha (ym h ha)
def d8:Nat->List AVal->Env
 |_,[]=>[]
 |i,a::t=>(i,a)::d8 (i+1) t
theorem mP {R:Seal}:∀{avs:List AVal} {vs:List Value} {i k:Nat} {v:AVal},cJ R avs vs->Env.get (d8 i avs) k=some v->i<=k/\∃x,vs[k-i]? =some x/\bD R v x
 |[],_,_,_,_,_,h=>by simp[d8,Env.get] at h
 |a::t,_,i,k,v,hr,h=>by
  obtain⟨x,s,rfl,hx,hr⟩:=hr;simp only[d8,Env.get] at h;cases hb:Nat.beq i k with
  |true=>
   rw[hb] at h
   have:=Nat.eq_of_beq_eq_true hb
   subst this
   simp only[Option.some.injEq] at h
   subst h
   exact⟨Nat.le_refl _,x,by simp,hx⟩
  |false=>
   rw[hb] at h
   obtain⟨h1,y,hy,hr⟩:=mP hr h
   refine⟨by omega,y,?_,hr⟩
   rw[show k-i=(k-(i+1))+1 by omega]
   exact hy
theorem ib {R:Seal}:∀{cs:List AVal} {vs:List Value},cJ R cs vs->vs.length=cs.length
 |[],_,h=>by simp only[cJ] at h;subst h;rfl
 |c::cs,_,h=>by
  obtain⟨v,t,rfl,_,h⟩:=h;simp[ib h]
def Gk (P:Program)[Tab P](env:Env)(H:Heap):ResultVar->AVal->Prop
 |.tmp t,v=>Env.get env t=some v
 | .cell a ty,v=>∃(b i:Nat) (eT:Option TypeId) (cs:List AVal) (x:TI),(Env.get env a=some (.raw (.pointer (some ⟨b,0,none⟩)))\/∃j,Env.get env a=some (.own j (.pointer (some ⟨b,0,none⟩))))/\H[i]? =some (HEnt.cells b eT cs)/\aS P ty=some x/\x.size=cs.length/\
   ((bL x.desc=true/\v= .agg cs)\/(bL x.desc=false/\cs=[v]/\v.isAgg=false))
def ow (P:Program)[Tab P](env:Env)(H:Heap):List ResultVar->List AVal->Prop
 |[],vs=>vs=[]
 |r::rs,vs=>∃v t,vs=v::t/\Gk P env H r v/\ow P env H rs t
def vD:List AVal->AVal
 |[v]=>v
 |vs=>.tuple vs
def Oi (P:Program)[Tab P](rs:List ResultVar)(Qf:cK->Heap->Prop):aK->Env->Heap->Prop
 |.ret,env,H|.normal,env,H=>∃vs H',ow P env H rs vs/\H'.Sublist H/\Qf (.ret (vD vs)) H'
 |.panic v,_,H=>∃H',H'.Sublist H/\Qf (.panic v) H'
 |_,_,_=>False
def rf (tmps:Array Value):ResultVar->Sem Value
 |.tmp t=>pure (tmps.getD t undef)
 |.cell a t=>do loadVar t (<-asAddr (tmps.getD a undef))
theorem AM (fn:Func)(tmps:Array Value):results fn tmps=(do
  let vs <-fn.results.mapM (rf tmps)
  pure (if h:vs.size=1 then vs[0] else .tuple vs)):=rfl
theorem AO {P:Program}{D:List Deferred}[Tab P]{C:Ctx}{n:Nat}{env:Env}{H:Heap}{R:Seal}{w:World}{a:Act}{r:ResultVar}{v:AVal}(hm:MS C R H w)(hf:FS D n R env a)
  (h:Gk P env H r v):∃x,(rf a.tmps r).run P w= .ok x w/\bD R v x:=by
 cases r with
 |tmp t=>
  obtain⟨x,hx,hr⟩:=hf.fr t v h;exact⟨x,by simp[rf,hx],hr⟩
 |cell c ty=>
  obtain⟨b,i,eT,cs,x,hc,hi,ht,hs,hk⟩:=h;have hc':∃y,a.tmps[c]? =some y/\y= .pointer (some ⟨b,0,none⟩):=by
   rcases hc with hc|⟨j,hc⟩
   ·obtain⟨y,hy,hr⟩:=hf.fr c _ hc;exact⟨y,hy,al.1 hr⟩
   ·obtain⟨y,hy,hr⟩:=hf.fr c _ hc;exact⟨y,hy,(aQ.1 hr).1⟩
  obtain⟨y,hy,hr⟩:=hc';subst hr;obtain⟨Cs,e,fz,hb,hl,_⟩:=hm.heap.holds _ (List.mem_of_getElem? hi);have hlen:=ay hl;simp only[rf,Array.getD_eq_getD_getElem?,hy,Option.getD_some,Sem.run_bind,asAddr,Sem.run_pure,Result.andThen_ok,loadVar,cG ht];rcases hk with⟨ha,rfl⟩|⟨ha,rfl,hv⟩
  ·rw[ha];simp only[if_true,Sem.run_bind,aB ht,Result.andThen_ok,loadCells];rw[fc hb 0 x.size 0 _ (by simp at hlen;omega)];refine⟨_,rfl,?_,rfl⟩;simp at hlen;simp only[Value.cells,aV];rw[List.take_of_length_le (by simp;omega)];simpa using hl
  ·rw[ha];simp only[Bool.false_eq_true,if_false,run_load];obtain⟨z,hz,hrz⟩:=dv hl (i:=0) (c:=v) rfl;have:w.cell? ⟨b,0,none⟩=some z:=by simp only[World.cell?,hb];simpa using hz
   simp only[this];exact⟨z,rfl,cC hrz hv⟩
theorem qI {P:Program}{D:List Deferred}[Tab P]{C:Ctx}{n:Nat}{env:Env}{H:Heap}{R:Seal}{w:World}{a:Act}(hm:MS C R H w)(hf:FS D n R env a):
  ∀{rs:List ResultVar} {vs:List AVal},ow P env H rs vs->∃xs:List Value,(rs.mapM (rf a.tmps)).run P w= .ok xs w/\cJ R vs xs
 |[],vs,h=>by simp only[ow] at h;subst h;exact⟨[],rfl,rfl⟩
 |r::rs,vs,h=>by
  obtain⟨v,t,rfl,h1,h2⟩:=h;obtain⟨x,hx,hr⟩:=AO (P:=P) hm hf h1;obtain⟨xs,hxs,hrs⟩:=qI hm hf h2;refine⟨x::xs,?_,x,xs,rfl,hr,hrs⟩;simp only[List.mapM_cons,Sem.run_bind,hx,Result.andThen_ok,hxs,Sem.run_pure]
theorem eO {P:Program}{D:List Deferred}[Tab P]{C:Ctx}{n:Nat}{env:Env}{H:Heap}{R:Seal}{w:World}{a:Act}{fn:Func}{vs:List AVal}(hm:MS C R H w)(hf:FS D n R env a)
  (h:ow P env H fn.results.toList vs):∃x,(results fn a.tmps).run P w= .ok x w/\bD R (vD vs) x:=by
 obtain⟨xs,hxs,hr⟩:=qI hm hf h;have hlen:=ib hr;refine⟨_,by rw[AM];simp only[Sem.run_bind,Array.mapM_eq_mapM_toList,Sem.run_map,hxs,Result.andThen_ok,Sem.run_pure];rfl,?_⟩
 match vs,xs,hlen,hr with
 |[],[],_,_=>exact⟨⟨#[],rfl,rfl⟩,rfl⟩
 |[v],[x],_,hr=>
  obtain⟨y,t,e,hy,_⟩:=hr;simp only[List.cons.injEq] at e;obtain⟨rfl,rfl⟩:=e;exact hy
 |v::v'::t,x::x'::s,_,hr=>exact⟨⟨_,by simp[Value.cells],hr⟩,rfl⟩
theorem nA {P:Program}[Tab P]{G:Glo}{f:FuncId}{fn:Func}{c:Code}{avs:List AVal}{H:Heap}{Qf:cK->Heap->Prop}{n:Nat}{rs:List ResultVar}(hf:P.funcs[f]? =some fn)
  (hb:fn.body=some c) (hc:∀args w,(callFunc f args).run P w= .ok (.enter f args) w) (hn:fn.ntmps=n) (hrs:fn.results=rs.toArray) (hlen:Nat.ble avs.length n=true)
  (h:∀w0 R0 hG,bI P ⟨w0,R0,dk H,G,hG,[]⟩ n c (d8 0 avs) H (Oi P rs Qf)):ad P G f avs H Qf:=by
 intro R w args hG hm ha;refine .inl ⟨hc args w,calls_of_wp hf hb ?_⟩;have hl:=ib ha;have hlen:=Nat.le_of_ble_eq_true hlen;simp only[Array.length_toList] at hl;refine wp_mono (h w R hG R _ w hm ⟨λk v hk=> ?_,?_,rfl⟩) ?_
 ·obtain⟨_,x,hx,hr⟩:=mP ha hk;refine⟨x,?_,hr⟩;simp only[Nat.sub_zero,Array.getElem?_toList] at hx;have:=Array.getElem?_eq_some_iff.1 hx;rw[Array.getElem?_append_left this.1];exact hx
 ·simp only[Array.size_append,Array.size_replicate];omega
 ·rintro e a' w' ⟨x,env',H',R',q,er,hm',hf'⟩;have hrs':fn.results.toList=rs:=by rw[hrs]
  cases x with
  |normal=>
   simp only[aG] at er;subst er;obtain⟨vs,H'',hv,hs,q⟩:=q;obtain⟨y,hy,hr⟩:=eO (fn:=fn) hm' hf' (by rw[hrs'];exact hv);exact⟨hf'.defers,y,hy,_,H'',R',q,⟨y,rfl,hr⟩,hm'.drop hs⟩
  |ret=>
   simp only[aG] at er;subst er;obtain⟨vs,H'',hv,hs,q⟩:=q;obtain⟨y,hy,hr⟩:=eO (fn:=fn) hm' hf' (by rw[hrs'];exact hv);exact⟨hf'.defers,y,hy,_,H'',R',q,⟨y,rfl,hr⟩,hm'.drop hs⟩
  |panic v=>
   obtain⟨y,rfl,hr⟩:=er;obtain⟨H'',hs,q⟩:=q;exact⟨hf'.defers,_,H'',R',q,⟨y,rfl,hr⟩,hm'.drop hs⟩
  |exit i=>exact q.elim
  |goto i=>exact q.elim
def fV (env:Env):List Operand->Option (List AVal)
 |[]=>some []
 |x::t=>match ae env x,fV env t with
  |some v,some r=>some (v::r)
  |_,_=>none
theorem eR {R:Seal}{env:Env}{ρ:Operand->Value}(hf:∀x av,ae env x=some av->bD R av (ρ x)):
  ∀{l:List Operand} {avs:List AVal},fV env l=some avs->cJ R avs (l.map ρ)
 |[],avs,h=>by simp only[fV,Option.some.injEq] at h;subst h;rfl
 |x::t,avs,h=>by
  simp only[fV] at h;split at h
  ·rename_i v r hv hr;simp only[Option.some.injEq] at h;subst h;exact⟨_,_,rfl,hf x v hv,eR hf hr⟩
  ·cases h
theorem fN {R:Seal}:∀{a b:List AVal} {vs ws:List Value},cJ R a vs->cJ R b ws->cJ R (a++b) (vs++ws)
 |[],_,_,_,h,k=>by simp only[cJ] at h;subst h;exact k
 |c::cs,_,_,_,h,k=>by
  obtain⟨v,t,rfl,hv,h⟩:=h;exact⟨v,_,rfl,hv,fN h k⟩
section
variable {P:Program} {C:Ctx} {n:Nat} {env:Env} {H:Heap} {Q:aK->Env->Heap->Prop} {ops:Array Oper} {rest:List Oper}
variable {d:Nat} {t:TypeId} {p:String} {af:Array Edge} {g:Option (Nat×Bool)} {b:Bool}
theorem KD {fv:Operand}{args:List Operand}{ts:Array TypeId}{f:FuncId}{l1 l2 avs:List AVal}{H1 H2:Heap}{Qf:cK->Heap->Prop}
  (hg:aC ops env g=some (b,b)) (hdn:Nat.ble (d+1) n=true) (hfv:ae env fv=some (.func (.func f) l1 l2)) (ha:fV env args=some avs)
  (hs:ad P C.G f (l1++(avs++l2)) H1 Qf) (hH:H=H1++H2)
  (hret:∀v H',Qf (.ret v) H'->ap P C n ops rest ((d,v)::env) (H'++H2) Q)
  (hpan:∀v H',Qf (.panic v) H'->Q (.panic v) env (H'++H2)):
  ap P C n ops ({dst:=some d,op:=.call {callee:=.value fv,args:=args.toArray,argTypes:=ts},type:=t,pos:=p,after:=af,guard:=g}::rest) env H Q:=by
 subst hH;intro R a w hm hf;refine wpList_step λK hK=> ?_;rw[bS hf hg,if_pos (by simp)];obtain⟨⟨x1,x2,e,r1,r2⟩,_⟩:=aR (hf.eval hfv) rfl,trivial;simp only[List.cons.injEq,and_true] at e;have hrel:cJ R (l1++(avs++l2)) (x1++args.toArray.map a.eval++x2).toList:=by
  have:=fN r1 (fN (eR (λx av h=>hf.eval h) ha) r2);simpa using this
 have hrun:(execOp a.eval {dst:=some d,op:=.call {callee:=.value fv,args:=args.toArray,argTypes:=ts},type:=t,pos:=p,after:=af,guard:=g:Oper}).run P w=
   (callFunc f (x1++args.toArray.map a.eval++x2)).run P w:=by
  simp only[execOp,resolve,e,Deferred.ofValue,Sem.run_bind,Sem.run_pure,Result.andThen_ok,invoke]
 rcases hs R w _ hm.glo hm.enter hrel with⟨h1,h2⟩|⟨v,w',h1,res,H',R',q,er,hm'⟩
 ·rw[Oper.wp,hrun,h1,Oper.upon_enter];refine h2.mono ?_;rintro en w' ⟨res,H',R',q,er,hm'⟩;have hm'':=hm.call hm';have hf':=hf.mono hm'.ge;cases res with
  |ret v=>
   obtain⟨y,rfl,hr⟩:=er;exact hK _ _ (hret v H' q R' _ w' hm'' (hf'.put hdn hr))
  |panic v=>
   obtain⟨y,rfl,hr⟩:=er;exact⟨.panic v,env,_,R',hpan v H' q,⟨y,rfl,hr⟩,hm'',hf'⟩
 ·rw[Oper.wp,hrun,h1,Oper.upon_value];have hm'':=hm.call hm';have hf':=hf.mono hm'.ge;cases res with
  |ret v'=>
   obtain⟨y,e,hr⟩:=er;simp only[Ending.returned.injEq] at e;subst e;exact hK _ _ (hret v' H' q R' _ w' hm'' (hf'.put hdn hr))
  |panic v'=>obtain⟨y,e,_⟩:=er;cases e
end
end
section
open Go
set_option maxRecDepth 100000
def aq (d i:TypeInfo):TI:=⟨d.desc,i.size,i.bytes,i.zero,i.comparable⟩
theorem ah {P:Program}{l:List TI}{t:Nat}{d i:TypeInfo}(h:P.underlying t=some d.desc)(k:P.info? t=some i)(r:uT P l (t+1)):uT P (aq d i::l) t:=⟨⟨h,i,k,rfl,rfl,rfl,rfl⟩,r⟩
noncomputable def Cn:List TI:=[aq t0 t0,aq t1 t1,aq t2 t2,aq t3 t3,aq t4 t4,aq t5 t5,aq t5 t6,aq t7 t7,aq t7 t8,aq t9 t9,aq t9 t10,aq t9 t11,aq t12 t12,aq t13 t13,aq t13 t14,aq t15 t15,aq t16 t16,aq t17 t17,aq t18 t18,aq t18 t19,aq t20 t20,aq t21 t21,aq t22 t22,aq t23 t23,aq t24 t24,aq t24 t25,aq t26 t26,aq t26 t27,aq t28 t28,aq t28 t29,aq t30 t30,aq t31 t31,aq t32 t32,aq t32 t33,aq t3 t34,aq t35 t35,aq t36 t36,aq t37 t37,aq t37 t38,aq t39 t39,aq t40 t40,aq t41 t41,aq t42 t42,aq t43 t43,aq t44 t44,aq t45 t45,aq t46 t46,aq t46 t47,aq t48 t48,aq t49 t49,aq t50 t50,aq t51 t51,aq t52 t52,aq t53 t53,aq t54 t54,aq t55 t55,aq t56 t56,aq t57 t57,aq t58 t58,aq t58 t59,aq t60 t60,aq t61 t61,aq t62 t62,aq t63 t63,aq t63 t64,aq t65 t65,aq t65 t66,aq t67 t67,aq t68 t68,aq t69 t69,aq t70 t70,aq t71 t71,aq t72 t72,aq t73 t73,aq t74 t74,aq t75 t75,aq t76 t76,aq t77 t77,aq t78 t78,aq t79 t79,aq t80 t80,aq t81 t81,aq t82 t82,aq t83 t83,aq t84 t84,aq t85 t85,aq t86 t86,aq t87 t87,aq t88 t88,aq t89 t89,aq t90 t90,aq t91 t91,aq t92 t92,aq t93 t93,aq t94 t94,aq t95 t95,aq t96 t96,aq t97 t97,aq t98 t98,aq t99 t99,aq t100 t100,aq t101 t101,aq t102 t102,aq t103 t103,aq t104 t104,aq t105 t105,aq t106 t106,aq t107 t107,aq t107 t108,aq t109 t109,aq t110 t110,aq t111 t111,aq t12 t112,aq t113 t113,aq t113 t114,aq t115 t115,aq t116 t116,aq t117 t117,aq t118 t118,aq t119 t119,aq t119 t120,aq t121 t121,aq t122 t122,aq t123 t123,aq t124 t124,aq t125 t125,aq t125 t126,aq t127 t127,aq t128 t128,aq t129 t129,aq t130 t130,aq t131 t131,aq t132 t132,aq t133 t133,aq t134 t134,aq t135 t135,aq t136 t136,aq t137 t137,aq t138 t138,aq t139 t139,aq t140 t140,aq t141 t141,aq t142 t142,aq t143 t143,aq t144 t144,aq t145 t145,aq t146 t146,aq t147 t147,aq t148 t148,aq t149 t149,aq t149 t150,aq t151 t151,aq t152 t152,aq t153 t153,aq t154 t154,aq t155 t155,aq t156 t156,aq t157 t157,aq t158 t158,aq t159 t159,aq t160 t160,aq t161 t161,aq t162 t162,aq t163 t163,aq t164 t164,aq t165 t165,aq t166 t166,aq t167 t167,aq t167 t168,aq t169 t169,aq t170 t170,aq t171 t171,aq t172 t172,aq t173 t173,aq t174 t174,aq t175 t175,aq t176 t176,aq t177 t177,aq t178 t178,aq t179 t179,aq t180 t180,aq t181 t181,aq t182 t182,aq t183 t183,aq t184 t184,aq t185 t185,aq t186 t186,aq t187 t187,aq t187 t188,aq t189 t189,aq t190 t190,aq t191 t191,aq t192 t192,aq t193 t193,aq t194 t194,aq t195 t195,aq t196 t196,aq t197 t197,aq t3 t198,aq t199 t199,aq t200 t200,aq t201 t201,aq t202 t202,aq t203 t203,aq t204 t204,aq t205 t205,aq t206 t206,aq t207 t207,aq t208 t208,aq t209 t209,aq t210 t210,aq t211 t211,aq t212 t212,aq t213 t213,aq t214 t214,aq t215 t215,aq t216 t216,aq t217 t217,aq t217 t218,aq t219 t219,aq t220 t220,aq t221 t221,aq t221 t222,aq t223 t223,aq t5 t224,aq t225 t225,aq t226 t226,aq t227 t227,aq t228 t228,aq t229 t229,aq t230 t230,aq t231 t231,aq t232 t232,aq t233 t233,aq t234 t234,aq t235 t235,aq t236 t236,aq t237 t237,aq t238 t238,aq t239 t239,aq t239 t240,aq t239 t241,aq t242 t242,aq t242 t243,aq t244 t244,aq t244 t245,aq t246 t246,aq t246 t247,aq t248 t248,aq t248 t249,aq t250 t250,aq t250 t251,aq t252 t252,aq t252 t253,aq t254 t254,aq t255 t255,aq t256 t256,aq t256 t257,aq t258 t258,aq t259 t259,aq t207 t260,aq t261 t261,aq t262 t262,aq t263 t263,aq t264 t264,aq t265 t265,aq t266 t266,aq t267 t267,aq t268 t268,aq t269 t269,aq t270 t270,aq t271 t271,aq t272 t272,aq t273 t273,aq t273 t274,aq t275 t275,aq t276 t276,aq t276 t277,aq t278 t278,aq t279 t279,aq t279 t280,aq t281 t281,aq t282 t282,aq t283 t283,aq t284 t284,aq t285 t285,aq t286 t286,aq t287 t287,aq t288 t288,aq t289 t289,aq t290 t290,aq t291 t291,aq t3 t292,aq t293 t293,aq t294 t294,aq t295 t295,aq t296 t296,aq t297 t297,aq t298 t298,aq t299 t299,aq t300 t300,aq t301 t301,aq t302 t302,aq t303 t303,aq t303 t304,aq t305 t305,aq t306 t306,aq t307 t307,aq t308 t308,aq t309 t309,aq t310 t310,aq t311 t311,aq t312 t312,aq t313 t313,aq t314 t314,aq t315 t315,aq t316 t316,aq t317 t317,aq t318 t318,aq t319 t319,aq t319 t320,aq t321 t321,aq t322 t322,aq t323 t323,aq t324 t324,aq t325 t325,aq t326 t326,aq t327 t327,aq t328 t328,aq t164 t329,aq t330 t330,aq t331 t331,aq t332 t332,aq t332 t333,aq t334 t334,aq t335 t335,aq t335 t336,aq t337 t337,aq t337 t338,aq t339 t339,aq t340 t340,aq t341 t341,aq t342 t342,aq t343 t343,aq t344 t344,aq t344 t345,aq t346 t346,aq t347 t347,aq t348 t348,aq t349 t349,aq t350 t350,aq t351 t351,aq t351 t352,aq t353 t353,aq t354 t354,aq t355 t355,aq t355 t356,aq t357 t357,aq t357 t358,aq t359 t359,aq t360 t360,aq t361 t361,aq t362 t362,aq t363 t363,aq t364 t364,aq t365 t365,aq t366 t366,aq t367 t367,aq t367 t368,aq t369 t369,aq t370 t370,aq t371 t371,aq t372 t372,aq t373 t373,aq t374 t374,aq t374 t375,aq t376 t376,aq t377 t377,aq t377 t378,aq t379 t379,aq t5 t380,aq t381 t381,aq t21 t382,aq t21 t383,aq t384 t384,aq t384 t385,aq t386 t386,aq t386 t387,aq t388 t388,aq t389 t389,aq t390 t390,aq t100 t391,aq t392 t392,aq t393 t393,aq t393 t394,aq t395 t395,aq t395 t396,aq t397 t397,aq t398 t398,aq t399 t399,aq t400 t400,aq t401 t401,aq t401 t402,aq t403 t403,aq t404 t404,aq t405 t405,aq t406 t406,aq t406 t407,aq t408 t408,aq t21 t409,aq t410 t410,aq t410 t411,aq t412 t412]
theorem Ag:uT prog Cn 0:=ah underlying0 type0 <| ah underlying1 type1 <| ah underlying2 type2 <| ah underlying3 type3 <| ah underlying4 type4 <| ah underlying5 type5 <| ah underlying6 type6 <| ah underlying7 type7 <| ah underlying8 type8 <| ah underlying9 type9 <| ah underlying10 type10 <| ah underlying11 type11 <| ah underlying12 type12 <| ah underlying13 type13 <| ah underlying14 type14 <| ah underlying15 type15 <| ah underlying16 type16 <| ah underlying17 type17 <| ah underlying18 type18 <| ah underlying19 type19 <| ah underlying20 type20 <| ah underlying21 type21 <| ah underlying22 type22 <| ah underlying23 type23 <| ah underlying24 type24 <| ah underlying25 type25 <| ah underlying26 type26 <| ah underlying27 type27 <| ah underlying28 type28 <| ah underlying29 type29 <| ah underlying30 type30 <| ah underlying31 type31 <| ah underlying32 type32 <| ah underlying33 type33 <| ah underlying34 type34 <| ah underlying35 type35 <| ah underlying36 type36 <| ah underlying37 type37 <| ah underlying38 type38 <| ah underlying39 type39 <| ah underlying40 type40 <| ah underlying41 type41 <| ah underlying42 type42 <| ah underlying43 type43 <| ah underlying44 type44 <| ah underlying45 type45 <| ah underlying46 type46 <| ah underlying47 type47 <| ah underlying48 type48 <| ah underlying49 type49 <| ah underlying50 type50 <| ah underlying51 type51 <| ah underlying52 type52 <| ah underlying53 type53 <| ah underlying54 type54 <| ah underlying55 type55 <| ah underlying56 type56 <| ah underlying57 type57 <| ah underlying58 type58 <| ah underlying59 type59 <| ah underlying60 type60 <| ah underlying61 type61 <| ah underlying62 type62 <| ah underlying63 type63 <| ah underlying64 type64 <| ah underlying65 type65 <| ah underlying66 type66 <| ah underlying67 type67 <| ah underlying68 type68 <| ah underlying69 type69 <| ah underlying70 type70 <| ah underlying71 type71 <| ah underlying72 type72 <| ah underlying73 type73 <| ah underlying74 type74 <| ah underlying75 type75 <| ah underlying76 type76 <| ah underlying77 type77 <| ah underlying78 type78 <| ah underlying79 type79 <| ah underlying80 type80 <| ah underlying81 type81 <| ah underlying82 type82 <| ah underlying83 type83 <| ah underlying84 type84 <| ah underlying85 type85 <| ah underlying86 type86 <| ah underlying87 type87 <| ah underlying88 type88 <| ah underlying89 type89 <| ah underlying90 type90 <| ah underlying91 type91 <| ah underlying92 type92 <| ah underlying93 type93 <| ah underlying94 type94 <| ah underlying95 type95 <| ah underlying96 type96 <| ah underlying97 type97 <| ah underlying98 type98 <| ah underlying99 type99 <| ah underlying100 type100 <| ah underlying101 type101 <| ah underlying102 type102 <| ah underlying103 type103 <| ah underlying104 type104 <| ah underlying105 type105 <| ah underlying106 type106 <| ah underlying107 type107 <| ah underlying108 type108 <| ah underlying109 type109 <| ah underlying110 type110 <| ah underlying111 type111 <| ah underlying112 type112 <| ah underlying113 type113 <| ah underlying114 type114 <| ah underlying115 type115 <| ah underlying116 type116 <| ah underlying117 type117 <| ah underlying118 type118 <| ah underlying119 type119 <| ah underlying120 type120 <| ah underlying121 type121 <| ah underlying122 type122 <| ah underlying123 type123 <| ah underlying124 type124 <| ah underlying125 type125 <| ah underlying126 type126 <| ah underlying127 type127 <| ah underlying128 type128 <| ah underlying129 type129 <| ah underlying130 type130 <| ah underlying131 type131 <| ah underlying132 type132 <| ah underlying133 type133 <| ah underlying134 type134 <| ah underlying135 type135 <| ah underlying136 type136 <| ah underlying137 type137 <| ah underlying138 type138 <| ah underlying139 type139 <| ah underlying140 type140 <| ah underlying141 type141 <| ah underlying142 type142 <| ah underlying143 type143 <| ah underlying144 type144 <| ah underlying145 type145 <| ah underlying146 type146 <| ah underlying147 type147 <| ah underlying148 type148 <| ah underlying149 type149 <| ah underlying150 type150 <| ah underlying151 type151 <| ah underlying152 type152 <| ah underlying153 type153 <| ah underlying154 type154 <| ah underlying155 type155 <| ah underlying156 type156 <| ah underlying157 type157 <| ah underlying158 type158 <| ah underlying159 type159 <| ah underlying160 type160 <| ah underlying161 type161 <| ah underlying162 type162 <| ah underlying163 type163 <| ah underlying164 type164 <| ah underlying165 type165 <| ah underlying166 type166 <| ah underlying167 type167 <| ah underlying168 type168 <| ah underlying169 type169 <| ah underlying170 type170 <| ah underlying171 type171 <| ah underlying172 type172 <| ah underlying173 type173 <| ah underlying174 type174 <| ah underlying175 type175 <| ah underlying176 type176 <| ah underlying177 type177 <| ah underlying178 type178 <| ah underlying179 type179 <| ah underlying180 type180 <| ah underlying181 type181 <| ah underlying182 type182 <| ah underlying183 type183 <| ah underlying184 type184 <| ah underlying185 type185 <| ah underlying186 type186 <| ah underlying187 type187 <| ah underlying188 type188 <| ah underlying189 type189 <| ah underlying190 type190 <| ah underlying191 type191 <| ah underlying192 type192 <| ah underlying193 type193 <| ah underlying194 type194 <| ah underlying195 type195 <| ah underlying196 type196 <| ah underlying197 type197 <| ah underlying198 type198 <| ah underlying199 type199 <| ah underlying200 type200 <| ah underlying201 type201 <| ah underlying202 type202 <| ah underlying203 type203 <| ah underlying204 type204 <| ah underlying205 type205 <| ah underlying206 type206 <| ah underlying207 type207 <| ah underlying208 type208 <| ah underlying209 type209 <| ah underlying210 type210 <| ah underlying211 type211 <| ah underlying212 type212 <| ah underlying213 type213 <| ah underlying214 type214 <| ah underlying215 type215 <| ah underlying216 type216 <| ah underlying217 type217 <| ah underlying218 type218 <| ah underlying219 type219 <| ah underlying220 type220 <| ah underlying221 type221 <| ah underlying222 type222 <| ah underlying223 type223 <| ah underlying224 type224 <| ah underlying225 type225 <| ah underlying226 type226 <| ah underlying227 type227 <| ah underlying228 type228 <| ah underlying229 type229 <| ah underlying230 type230 <| ah underlying231 type231 <| ah underlying232 type232 <| ah underlying233 type233 <| ah underlying234 type234 <| ah underlying235 type235 <| ah underlying236 type236 <| ah underlying237 type237 <| ah underlying238 type238 <| ah underlying239 type239 <| ah underlying240 type240 <| ah underlying241 type241 <| ah underlying242 type242 <| ah underlying243 type243 <| ah underlying244 type244 <| ah underlying245 type245 <| ah underlying246 type246 <| ah underlying247 type247 <| ah underlying248 type248 <| ah underlying249 type249 <| ah underlying250 type250 <| ah underlying251 type251 <| ah underlying252 type252 <| ah underlying253 type253 <| ah underlying254 type254 <| ah underlying255 type255 <| ah underlying256 type256 <| ah underlying257 type257 <| ah underlying258 type258 <| ah underlying259 type259 <| ah underlying260 type260 <| ah underlying261 type261 <| ah underlying262 type262 <| ah underlying263 type263 <| ah underlying264 type264 <| ah underlying265 type265 <| ah underlying266 type266 <| ah underlying267 type267 <| ah underlying268 type268 <| ah underlying269 type269 <| ah underlying270 type270 <| ah underlying271 type271 <| ah underlying272 type272 <| ah underlying273 type273 <| ah underlying274 type274 <| ah underlying275 type275 <| ah underlying276 type276 <| ah underlying277 type277 <| ah underlying278 type278 <| ah underlying279 type279 <| ah underlying280 type280 <| ah underlying281 type281 <| ah underlying282 type282 <| ah underlying283 type283 <| ah underlying284 type284 <| ah underlying285 type285 <| ah underlying286 type286 <| ah underlying287 type287 <| ah underlying288 type288 <| ah underlying289 type289 <| ah underlying290 type290 <| ah underlying291 type291 <| ah underlying292 type292 <| ah underlying293 type293 <| ah underlying294 type294 <| ah underlying295 type295 <| ah underlying296 type296 <| ah underlying297 type297 <| ah underlying298 type298 <| ah underlying299 type299 <| ah underlying300 type300 <| ah underlying301 type301 <| ah underlying302 type302 <| ah underlying303 type303 <| ah underlying304 type304 <| ah underlying305 type305 <| ah underlying306 type306 <| ah underlying307 type307 <| ah underlying308 type308 <| ah underlying309 type309 <| ah underlying310 type310 <| ah underlying311 type311 <| ah underlying312 type312 <| ah underlying313 type313 <| ah underlying314 type314 <| ah underlying315 type315 <| ah underlying316 type316 <| ah underlying317 type317 <| ah underlying318 type318 <| ah underlying319 type319 <| ah underlying320 type320 <| ah underlying321 type321 <| ah underlying322 type322 <| ah underlying323 type323 <| ah underlying324 type324 <| ah underlying325 type325 <| ah underlying326 type326 <| ah underlying327 type327 <| ah underlying328 type328 <| ah underlying329 type329 <| ah underlying330 type330 <| ah underlying331 type331 <| ah underlying332 type332 <| ah underlying333 type333 <| ah underlying334 type334 <| ah underlying335 type335 <| ah underlying336 type336 <| ah underlying337 type337 <| ah underlying338 type338 <| ah underlying339 type339 <| ah underlying340 type340 <| ah underlying341 type341 <| ah underlying342 type342 <| ah underlying343 type343 <| ah underlying344 type344 <| ah underlying345 type345 <| ah underlying346 type346 <| ah underlying347 type347 <| ah underlying348 type348 <| ah underlying349 type349 <| ah underlying350 type350 <| ah underlying351 type351 <| ah underlying352 type352 <| ah underlying353 type353 <| ah underlying354 type354 <| ah underlying355 type355 <| ah underlying356 type356 <| ah underlying357 type357 <| ah underlying358 type358 <| ah underlying359 type359 <| ah underlying360 type360 <| ah underlying361 type361 <| ah underlying362 type362 <| ah underlying363 type363 <| ah underlying364 type364 <| ah underlying365 type365 <| ah underlying366 type366 <| ah underlying367 type367 <| ah underlying368 type368 <| ah underlying369 type369 <| ah underlying370 type370 <| ah underlying371 type371 <| ah underlying372 type372 <| ah underlying373 type373 <| ah underlying374 type374 <| ah underlying375 type375 <| ah underlying376 type376 <| ah underlying377 type377 <| ah underlying378 type378 <| ah underlying379 type379 <| ah underlying380 type380 <| ah underlying381 type381 <| ah underlying382 type382 <| ah underlying383 type383 <| ah underlying384 type384 <| ah underlying385 type385 <| ah underlying386 type386 <| ah underlying387 type387 <| ah underlying388 type388 <| ah underlying389 type389 <| ah underlying390 type390 <| ah underlying391 type391 <| ah underlying392 type392 <| ah underlying393 type393 <| ah underlying394 type394 <| ah underlying395 type395 <| ah underlying396 type396 <| ah underlying397 type397 <| ah underlying398 type398 <| ah underlying399 type399 <| ah underlying400 type400 <| ah underlying401 type401 <| ah underlying402 type402 <| ah underlying403 type403 <| ah underlying404 type404 <| ah underlying405 type405 <| ah underlying406 type406 <| ah underlying407 type407 <| ah underlying408 type408 <| ah underlying409 type409 <| ah underlying410 type410 <| ah underlying411 type411 <| ah underlying412 type412 <| trivial
noncomputable instance theTab:Tab prog:=⟨Cn,Ag⟩
end
section
open Go
def aa (s:List UInt8)(k:Nat):Nat:=(s.getD k 0).toNat
theorem bG (s:List UInt8)(k:Nat):aa s k<256:=UInt8.toNat_lt _
def bH (s:List UInt8)(k:Nat):Bool:=decide (k<s.length)&&(aa s k/64==2)
def gp (r:Nat):Bool:=decide (r<=1114111)&&(decide (r<55296)||decide (57343<r))
def cp2 (s:List UInt8):Nat:=aa s 0%32*64+aa s 1%64
def uD (s:List UInt8):Nat:=(aa s 0%16*64+aa s 1%64)*64+aa s 2%64
def uC (s:List UInt8):Nat:=((aa s 0%8*64+aa s 1%64)*64+aa s 2%64)*64+aa s 3%64
def aA (s:List UInt8):Nat×Nat:=
 if s.length=0 then(0,0)
 else if aa s 0<128 then(aa s 0,1)
 else if aa s 0/32=6 then(if bH s 1&&decide (128<=cp2 s)&&gp (cp2 s) then(cp2 s,2) else(0,0))
 else if aa s 0/16=14 then(if bH s 1&&bH s 2&&decide (2048<=uD s)&&gp (uD s) then(uD s,3) else(0,0))
 else if aa s 0/8=30 then(if bH s 1&&bH s 2&&bH s 3&&decide (65536<=uC s)&&gp (uC s) then(uC s,4) else(0,0))
 else(0,0)
theorem nn (s:List UInt8):(aA s).2<=s.length/\(aA s).2<=4/\(aA s).1<=1114111:=by
 have h:=bG s 0
 unfold aA
 split
 ·simp
 split
 ·simp only[];omega
 split
 ·split
  ·rename_i h;simp only[Bool.and_eq_true,bH,gp,decide_eq_true_eq] at h;simp only[];omega
  ·simp
 split
 ·split
  ·rename_i h;simp only[Bool.and_eq_true,bH,gp,decide_eq_true_eq] at h;simp only[];omega
  ·simp
 split
 ·split
  ·rename_i h;simp only[Bool.and_eq_true,bH,gp,decide_eq_true_eq] at h;simp only[];omega
  ·simp
 ·simp
def s7:Nat->List UInt8->Option Nat
 |0,_=>none
 |k+1,s=>if s.length=0 then none else if(aA s).2=0 then some 0 else(s7 k (s.drop (aA s).2)).map (· +(aA s).2)
def gt (s:List UInt8):Option Nat:=s7 s.length s
def fp (s:List UInt8):Int:=match gt s with|some i=>(i:Int)|none=> -1
theorem uO:∀(k:Nat) (s:List UInt8),s.length<=k->s7 k s=s7 s.length s:=by
  intro k
  induction k using Nat.strongRecOn with
  | _ k ih=>
    intro s hs
    cases k with
    | zero => have:s.length=0:=by omega
              rw[this]
    | succ k=>
      by_cases h0:s.length=0
      · rw[h0];simp[s7,h0]
      · obtain⟨m,hm⟩:∃m,s.length=m+1:=⟨s.length-1,by omega⟩;rw[hm];simp only[s7,if_neg h0];by_cases hn:(aA s).2=0
        · rw[if_pos hn,if_pos hn]
        · rw[if_neg hn,if_neg hn];have hl:(s.drop (aA s).2).length<=m:=by rw[List.length_drop];omega
          rw[ih k (by omega) _ (by omega),ih m (by omega) _ hl]
theorem lK (s:List UInt8)(h0:s.length≠0):gt s=if(aA s).2=0 then some 0 else(gt (s.drop (aA s).2)).map (· +(aA s).2):=by
 obtain⟨m,hm⟩:∃m,s.length=m+1:=⟨s.length-1,by omega⟩;unfold gt;rw[hm];simp only[s7,if_neg h0];by_cases hn:(aA s).2=0
 ·rw[if_pos hn,if_pos hn]
 ·rw[if_neg hn,if_neg hn,uO];rw[List.length_drop];omega
theorem zJ (s:List UInt8)(h0:s.length=0):gt s=none:=by unfold gt;rw[h0];rfl
def dO (s:List UInt8):Nat:=if(aA s).2=0 then 1 else(aA s).2
def ga (s:List UInt8):Nat:=if(aA s).2=0 then 65533 else(aA s).1
theorem dC (s:List UInt8)(p k:Nat):aa (s.drop p) k=aa s (p+k):=by
 simp[aa,List.getElem?_drop]
theorem Bl (s:List UInt8)(i:Nat):((⟨s.toArray⟩:ByteArray).get! i).toNat=aa s i:=by
 simp only[aa,ByteArray.get!];congr 1
 simp[List.getD];rfl
theorem z8 (c:Nat):Utf8.valid (c:Int)=gp c:=by
 rw[Bool.eq_iff_iff];simp only[Utf8.valid,gp,Bool.or_eq_true,Bool.and_eq_true,decide_eq_true_eq];omega
theorem zt (s:List UInt8)(p k:Nat):bH (s.drop p) k=(decide (p+k<s.length)&&(aa s (p+k)/64==2)):=by
 rw[Bool.eq_iff_iff];simp only[bH,dC,List.length_drop,Bool.and_eq_true,decide_eq_true_eq];constructor<;>rintro⟨h1,h2⟩<;>exact⟨by omega,h2⟩
theorem Oz (a b c d:Nat):a*262144+b*4096+c*64+d=((a*64+b)*64+c)*64+d:=by omega
theorem OA (a b c:Nat):a*4096+b*64+c=(a*64+b)*64+c:=by omega
theorem wx (s:List UInt8)(p:Nat)(hp:p<s.length):
  Utf8.decode ⟨s.toArray⟩ p=if(aA (s.drop p)).2=0 then(65533,1) else aA (s.drop p):=by
 have hsz:(⟨s.toArray⟩:ByteArray).size=s.length:=by simp[ByteArray.size]
 have h0:¬(s.drop p).length=0:=by rw[List.length_drop];omega
 simp only[Utf8.decode,Bl,hsz,Utf8.runeError,aA,if_neg h0,zt,cp2,uD,uC,dC,Nat.add_zero,OA,Oz,z8];generalize aa s p=b0;generalize (decide (p+1<s.length)&&(aa s (p+1)/64==2))=k1;generalize (decide (p+2<s.length)&&(aa s (p+2)/64==2))=k2;generalize (decide (p+3<s.length)&&(aa s (p+3)/64==2))=k3;generalize aa s (p+1)=b1;generalize aa s (p+2)=b2;generalize aa s (p+3)=b3;by_cases c1:b0<128
 ·simp only[if_pos c1];rfl
 simp only[if_neg c1];by_cases c2:b0/32=6
 ·have c3:¬b0/16=14:=by omega
  have c4:¬b0/8=30:=by omega
  have hm:128<=b0%32*64+b1%64->gp (b0%32*64+b1%64)=true:=by
   intro h;simp only[gp,Bool.and_eq_true,Bool.or_eq_true,decide_eq_true_eq];omega
  cases k1<;>by_cases h:128<=b0%32*64+b1%64<;>simp[c2,c3,c4,h,hm]
 by_cases c3:b0/16=14
 ·have c4:¬b0/8=30:=by omega
  generalize (b0%16*64+b1%64)*64+b2%64=r;cases k1<;>cases k2<;>cases hm:gp r<;>by_cases h:2048<=r<;>simp[c2,c3,c4,h,hm]
 by_cases c4:b0/8=30
 ·generalize ((b0%8*64+b1%64)*64+b2%64)*64+b3%64=r;cases k1<;>cases k2<;>cases k3<;>cases hm:gp r<;>by_cases h:65536<=r<;>simp[c2,c3,c4,h,hm]
 ·simp[c2,c3,c4]
end
section
open Go
theorem km (b:ByteArray):(⟨b.data.toList.toArray⟩:ByteArray)=b:=by cases b;simp
theorem bT (l:List UInt8):(⟨l.toArray⟩:ByteArray).size=l.length:=by simp[ByteArray.size]
theorem Ak (a b:List UInt8):(⟨a.toArray⟩:ByteArray)++⟨b.toArray⟩=⟨(a++b).toArray⟩:=by
 ext1;simp
theorem xA (l:List UInt8)(i j:Nat):(⟨l.toArray⟩:ByteArray).extract i j=⟨((l.take j).drop i).toArray⟩:=by
 apply ByteArray.ext;simp[List.drop_take]
theorem I9 (l:List UInt8)(i:Nat)(h:i<l.length):(⟨l.toArray⟩:ByteArray)[i]? =some l[i]:=by
 have hs:i<(⟨l.toArray⟩:ByteArray).size:=by rw[bT];exact h
 rw[getElem?_pos _ i hs];exact congrArg some (show l.toArray[i]=l[i] by simp)
def Fw:List Int:=[1,2,4,8,16,32,64,128,256,512,1024,2048,4096,8192,16384,32768,65536,131072,262144,524288,1048576,2097152,4194304,8388608,16777216,33554432,67108864,134217728,268435456,536870912,1073741824,2147483648,4294967296]
def CD:List Int->Nat->Bool
 |[],_=>true
 |c::r,i=>decide (((2^i:Nat):Int)=c)&&CD r (i+1)
theorem tJ:∀{l:List Int} {i k:Nat} {c:Int},CD l i=true->vS l k=some c->((2^(i+k):Nat):Int)=c
 |[],_,_,_,_,h=>by simp[vS] at h
 |x::r,i,0,c,ho,h=>by
  simp only[vS,Option.some.injEq] at h;subst h;simp only[CD,Bool.and_eq_true,decide_eq_true_eq] at ho;exact ho.1
 |x::r,i,k+1,c,ho,h=>by
  simp only[CD,Bool.and_eq_true] at ho;rw[show i+(k+1)=(i+1)+k by omega];exact tJ ho.2 h
theorem yq {e:Nat}{c:Int}(h:vS Fw e=some c):((2^e:Nat):Int)=c:=by
 have:=tJ (l:=Fw) (i:=0) (by decide+kernel) h;rwa [Nat.zero_add] at this
def eh:IntKind->Int->Prop
 |.i8,n=> -128<=n/\n<=127
 |.i16,n=> -32768<=n/\n<=32767
 |.i32,n=> -2147483648<=n/\n<=2147483647
 |.i64,n=> -9223372036854775808<=n/\n<=9223372036854775807
 |.u8,n=>0<=n/\n<=255
 |.u16,n=>0<=n/\n<=65535
 |.u32,n=>0<=n/\n<=4294967295
 |.u64,n=>0<=n/\n<=18446744073709551615
theorem eJ {k:IntKind}{n:Int}(h:eh k n):k.wrap n=n:=by
 cases k
 ·exact IntWalk.i8_in n h
 ·exact IntWalk.i16_in n h
 ·exact IntWalk.i32_in n h
 ·exact IntWalk.i64_in n h
 ·exact IntWalk.u8_in n h
 ·exact IntWalk.u16_in n h
 ·exact IntWalk.u32_in n h
 ·exact IntWalk.u64_in n h
def dq:IntKind->Int×Int
 |.i8=>(-128,127)
 |.i16=>(-32768,32767)
 |.i32=>(-2147483648,2147483647)
 |.i64=>(-9223372036854775808,9223372036854775807)
 |.u8=>(0,255)
 |.u16=>(0,65535)
 |.u32=>(0,4294967295)
 |.u64=>(0,18446744073709551615)
theorem NU {k:IntKind}{n lo hi:Int}(hk:dq k=(lo,hi))(h1:lo<=n)(h2:n<=hi):eh k n:=by
 cases k<;>(simp only[dq,Prod.mk.injEq] at hk;obtain⟨rfl,rfl⟩:=hk;exact⟨h1,h2⟩)
section
variable {P:Program} {C:Ctx} {n:Nat} {env:Env} {H:Heap} {Q:aK->Env->Heap->Prop} {ops:Array Oper} {rest:List Oper}
variable {d:Nat} {t:TypeId} {p:String} {af:Array Edge} {g:Option (Nat×Bool)} {b:Bool} {av:AVal}
variable {x y:Operand} {tx ty:TypeId}
theorem wH {k:IntKind}{m q:Int}(f:(w:Nat)->BitVec w->BitVec w->BitVec w)(f':Nat->Nat->Nat)
  (hff:∀a c,(f k.bits (BitVec.ofNat k.bits a) (BitVec.ofNat k.bits c)).toNat=f' (a%2^k.bits) (c%2^k.bits))
  (hlt:∀a c e,a<2^e->c<2^e->f' a c<2^e) (hm:0<=m) (hq:0<=q) (hm':eh k m) (hq':eh k q):
  k.wrap ((f k.bits (BitVec.ofInt k.bits m) (BitVec.ofInt k.bits q)).toNat:Int)=(f' m.toNat q.toNat:Nat):=by
 obtain⟨a,rfl⟩:=Int.eq_ofNat_of_zero_le hm;obtain⟨c,rfl⟩:=Int.eq_ofNat_of_zero_le hq;have h1:∀a:Nat,BitVec.ofInt k.bits (a:Int)=BitVec.ofNat k.bits a:=λa=>by simp
 rw[h1,h1,hff];have key:∀e,e<=k.bits->(∀z:Nat,z<2^e->eh k z)->a<2^e->c<2^e->
   k.wrap ((f' (a%2^k.bits) (c%2^k.bits):Nat):Int)=(f' a c:Nat):=by
  intro e he hz ha hc;have hle:2^e<=2^k.bits:=Nat.pow_le_pow_right (by omega) he;rw[Nat.mod_eq_of_lt (by omega),Nat.mod_eq_of_lt (by omega)];exact eJ (hz _ (hlt _ _ _ ha hc))
 simp only[Int.toNat_natCast];cases k<;>simp only[eh] at hm' hq'
 ·exact key 7 (by decide) (λz hz=>by simp only[eh];omega) (by omega) (by omega)
 ·exact key 15 (by decide) (λz hz=>by simp only[eh];omega) (by omega) (by omega)
 ·exact key 31 (by decide) (λz hz=>by simp only[eh];omega) (by omega) (by omega)
 ·exact key 63 (by decide) (λz hz=>by simp only[eh];omega) (by omega) (by omega)
 ·exact key 8 (by decide) (λz hz=>by simp only[eh];omega) (by omega) (by omega)
 ·exact key 16 (by decide) (λz hz=>by simp only[eh];omega) (by omega) (by omega)
 ·exact key 32 (by decide) (λz hz=>by simp only[eh];omega) (by omega) (by omega)
 ·exact key 64 (by decide) (λz hz=>by simp only[eh];omega) (by omega) (by omega)
def ca (x y:List UInt8):Bool:=x==y
theorem dE {x y:List UInt8}:ca x y=true↔x=y:=by simp[ca]
theorem kq {x y:List UInt8}:ca x y=false↔x≠y:=by simp[ca]
theorem F7 {x y:List UInt8}:ca x y=(x==y):=rfl
attribute [irreducible] ca
def jv (x y:List UInt8):Bool:=Op.bytesLess x y
theorem F4 {x y:List UInt8}:jv x y=Op.bytesLess x y:=rfl
attribute [irreducible] jv
def Al (op:BinOp)(x y:List UInt8):Option AVal:=
 match op with
 |.eql=>some (.bool (ca x y))
 |.neq=>some (.bool (!(ca x y)))
 |.lss=>some (.bool (jv x y))
 |.leq=>some (.bool (jv x y||ca x y))
 |.gtr=>some (.bool (!(jv x y||ca x y)))
 |.geq=>some (.bool (!jv x y))
 |_=>none
def eI (env:Env)(dflt:Int):Option Operand->Option Int
 |none=>some dflt
 |some x=>match ae env x with
  |some (.int _ i)=>some i
  |_=>none
theorem uL {R:Seal}{ρ:Operand->Value}(hf:j5 R env ρ){dflt i:Int}{lo:Option Operand}(hlo:eI env dflt lo=some i):
  (lo=none/\i=dflt)\/∃z k,lo=some z/\ρ z= .int k i:=by
 cases lo with
 |none=>simp only[eI,Option.some.injEq] at hlo;exact .inl ⟨rfl,hlo.symm⟩
 |some z=>
  simp only[eI] at hlo;split at hlo
  ·rename_i k j hz;simp only[Option.some.injEq] at hlo;subst hlo;exact .inr ⟨z,k,rfl,am.1 (hf _ _ hz)⟩
  ·cases hlo
theorem sh {P:Program}{R:Seal}{ρ:Operand->Value}(hf:j5 R env ρ){isS:Bool}{len cap:Nat}{lo hi:Option Operand}{i j:Int}(hlo:eI env 0 lo=some i)(hhi:eI env len hi=some j)
  (h0:0<=i) (hij:i<=j) (hj:j<=cap) (_hlc:len<=cap) (w:World):
  (Instr.sliceBounds isS len cap (lo.map ρ) (hi.map ρ) none).run P w= .ok (i.toNat,j.toNat,cap) w:=by
 have hb:∀(k:IntKind) (u:Int) (y:Nat) (c:BoundsCode),0<=u->u<=y->(Instr.sliceBound (.int k u) y c).run P w= .ok u.toNat w:=by
  intro k u y c h1 h2;simp only[Instr.sliceBound,asIntOf,Sem.run_bind,Sem.run_pure,Result.andThen_ok];rw[if_pos ⟨h1,h2⟩];rfl
 rcases uL hf hlo with⟨rfl,rfl⟩|⟨z,k,rfl,hz⟩<;>rcases uL hf hhi with⟨rfl,rfl⟩|⟨z',k',rfl,hz'⟩
 ·simp only[Instr.sliceBounds,Option.map_none,Sem.run_bind,Sem.run_pure,Result.andThen_ok];simp
 ·simp only[Instr.sliceBounds,Option.map_none,Option.map_some,hz',Sem.run_bind,Sem.run_pure,Result.andThen_ok];rw[hb k' j cap _ (by omega) hj];simp
 ·simp only[Instr.sliceBounds,Option.map_none,Option.map_some,hz,Sem.run_bind,Sem.run_pure,Result.andThen_ok,Option.isSome_none,Bool.false_eq_true,if_false];rw[hb k i len _ h0 hij];simp
 ·simp only[Instr.sliceBounds,Option.map_none,Option.map_some,hz,hz',Sem.run_bind,Sem.run_pure,Result.andThen_ok,Option.isSome_none,Bool.false_eq_true,if_false];rw[hb k' j cap _ (by omega) hj];simp only[Result.andThen_ok];rw[hb k i j.toNat _ h0 (by omega)];simp
end
end
end Go.Proofs.YtmdhmodenkjmdaaGreatDoor
