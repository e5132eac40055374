/- Parts of the proof of streamCards_card. -/
import Derived.WalkKit
import Derived.Below
import Derived.Deep.LoopGhost
import Derived.LoopN
import Derived.KernelRfl
import Derived.Test.YtgpjhbhdbjdlgaaGreatDoorProg
import GoSem.Core.Utf8
import Derived.Laws.Strings
set_option linter.unusedVariables false
set_option linter.unusedSimpArgs false
set_option linter.unusedSectionVars false
namespace Go.Proofs
open Go
abbrev ω:=List UInt8
theorem a_{p:Prop}(h:p:=by omega):p:=h
theorem b_{p:Prop}(h:p:=by decide):p:=h
theorem be{p:Prop}(h:p:=by kernel_rfl):p:=h
theorem c_:type_of% @Result.andThen_ok:=@Result.andThen_ok
theorem d_:type_of% @List.length_append:=@List.length_append
theorem e_:type_of% @Sem.run_bind:=@Sem.run_bind
theorem f_:type_of% @List.getD_eq_getElem?_getD:=@List.getD_eq_getElem?_getD
theorem g_:type_of% @Option.some.injEq:=@Option.some.injEq
theorem h_:type_of% @Sem.run_pure:=@Sem.run_pure
theorem i_:type_of% @List.length_take:=@List.length_take
theorem j_:type_of% @List.length_cons:=@List.length_cons
theorem k_:type_of% @List.length_drop:=@List.length_drop
theorem l_:type_of% @Bool.and_eq_true:=@Bool.and_eq_true
theorem m_:type_of% @Nat.eq_of_beq_eq_true:=@Nat.eq_of_beq_eq_true
theorem n_:type_of% @decide_eq_true_eq:=@decide_eq_true_eq
theorem o_:type_of% @List.cons.injEq:=@List.cons.injEq
theorem p_:type_of% @List.mem_cons:=@List.mem_cons
theorem q_:type_of% @List.mem_of_getElem?:=@List.mem_of_getElem?
theorem r_:type_of% @Array.length_toList:=@Array.length_toList
theorem s_:type_of% @List.eq_nil_of_length_eq_zero:=@List.eq_nil_of_length_eq_zero
theorem t_:type_of% @List.not_mem_nil:=@List.not_mem_nil
theorem u_:type_of% @List.take_of_length_le:=@List.take_of_length_le
theorem v_:type_of% @Nat.le_of_ble_eq_true:=@Nat.le_of_ble_eq_true
theorem w_:type_of% @Bool.eq_iff_iff:=@Bool.eq_iff_iff
theorem x_:type_of% @List.take_succ_eq_append_getElem:=@List.take_succ_eq_append_getElem
theorem y_:type_of% @List.getElem?_eq_getElem:=@List.getElem?_eq_getElem
theorem z_:type_of% @List.mem_cons_self:=@List.mem_cons_self
theorem A_:type_of% @List.drop_eq_getElem_cons:=@List.drop_eq_getElem_cons
theorem An:type_of% @List.append_assoc:=@List.append_assoc
theorem At:type_of% @List.Sublist.refl:=@List.Sublist.refl
theorem B_:type_of% @Int.toNat_natCast:=@Int.toNat_natCast
theorem Bu:type_of% @Bool.false_eq_true:=@Bool.false_eq_true
theorem Bw:type_of% @List.all_eq_true:=@List.all_eq_true
theorem C_:type_of% @List.length_map:=@List.length_map
theorem D_:type_of% @List.getElem_of_mem:=@List.getElem_of_mem
theorem Dc:type_of% @List.append_nil:=@List.append_nil
theorem E_:type_of% @List.length_nil:=@List.length_nil
theorem F_:type_of% @List.length_set:=@List.length_set
theorem G_:type_of% @List.getElem?_append_right:=@List.getElem?_append_right
theorem H_:type_of% @List.getElem?_append_left:=@List.getElem?_append_left
theorem I_:type_of% @List.getElem?_cons_zero:=@List.getElem?_cons_zero
theorem J_:type_of% @List.getElem?_cons_succ:=@List.getElem?_cons_succ
theorem K_:type_of% @List.getElem_mem:=@List.getElem_mem
theorem L_:type_of% @List.nil_append:=@List.nil_append
theorem Lu:type_of% @List.cons_append:=@List.cons_append
theorem M_:type_of% @List.getElem?_set_ne:=@List.getElem?_set_ne
theorem Mp:type_of% @List.perm_append_comm:=@List.perm_append_comm
theorem N_:type_of% @List.Perm.refl:=@List.Perm.refl
theorem Nm:type_of% @List.map_append:=@List.map_append
theorem O_:type_of% @List.flatMap_cons:=@List.flatMap_cons
theorem P_:type_of% @List.getElem?_eq_none:=@List.getElem?_eq_none
theorem Q_:type_of% @List.drop_drop:=@List.drop_drop
theorem R_:type_of% @List.take_take:=@List.take_take
theorem Rf:type_of% @List.length_singleton:=@List.length_singleton
theorem S_:type_of% @List.map_cons:=@List.map_cons
theorem T_:type_of% @Nat.add_sub_cancel_left:=@Nat.add_sub_cancel_left
theorem U_:type_of% @Nat.succ_mul:=@Nat.succ_mul
theorem Uf:type_of% @Nat.not_lt_zero:=@Nat.not_lt_zero
theorem Ug:type_of% @List.nil_sublist:=@List.nil_sublist
theorem V_:type_of% @List.Sublist.cons_cons:=@List.Sublist.cons_cons
theorem Vr:type_of% @Bool.and_eq_false_iff:=@Bool.and_eq_false_iff
theorem W_:type_of% @Bool.not_eq_true:=@Bool.not_eq_true
theorem Wk:type_of% @Bool.or_eq_true:=@Bool.or_eq_true
theorem Wm:type_of% @List.getElem?_toArray:=@List.getElem?_toArray
theorem X_:type_of% @List.map_toArray:=@List.map_toArray
theorem Y_:type_of% @List.size_toArray:=@List.size_toArray
theorem Z_:type_of% @List.map_nil:=@List.map_nil
theorem aa_:type_of% @List.drop_zero:=@List.drop_zero
theorem aaa:type_of% @List.take_zero:=@List.take_zero
theorem aab:type_of% @List.drop_succ_cons:=@List.drop_succ_cons
theorem aac:type_of% @List.take_succ_cons:=@List.take_succ_cons
theorem aad:type_of% @beq_iff_eq:=@beq_iff_eq
theorem aae:type_of% @Bool.true_and:=@Bool.true_and
theorem aaf:type_of% @decide_eq_false_iff_not:=@decide_eq_false_iff_not
theorem aag:type_of% @Prod.mk.injEq:=@Prod.mk.injEq
theorem aah:type_of% @Nat.mul_le_mul_right:=@Nat.mul_le_mul_right
theorem aai:type_of% @Nat.le_trans:=@Nat.le_trans
theorem aaj:type_of% @Nat.lt_or_ge:=@Nat.lt_or_ge
theorem aak:type_of% @Nat.lt_succ_self:=@Nat.lt_succ_self
theorem aal:type_of% @Option.map_some:=@Option.map_some
theorem aam:type_of% @Option.getD_some:=@Option.getD_some
theorem aan:type_of% @ne_eq:=@ne_eq
theorem aao:type_of% @not_true_eq_false:=@not_true_eq_false
theorem aap:type_of% @if_true:=@if_true
theorem aaq:type_of% @if_false:=@if_false
end Go.Proofs
namespace Go.Proofs.YtgpjhbhdbjdlgaaGreatDoor
open Tryz
set_option maxRecDepth 20000
set_option maxHeartbeats 4000000
section
open Go
inductive AVal where
 |bool (b:Bool)
 |int (k:IntKind) (n:Int)
 |str (s:ω)
 |raw (v:Value)
 |list (sz n:Nat) (f:Nat->AVal)
 |rop (cs:List AVal) (off:Nat)
 |agg (cs:List AVal)
 |tuple (cs:List AVal)
 |iface (t:TypeId) (v:AVal)
 |func (fn:Fn) (first captured:List AVal)
 |own (i:Nat) (v:Value)
def AVal.isAgg:AVal->Bool
 |.agg _=>true
 |.raw (.agg _)=>true
 |_=>false
def dc:Value->Bool
 |.agg _=>true
 |_=>false
def AVal.cells:AVal->List AVal
 |.agg cs=>cs
 |v=>[v]
abbrev Seal:=Nat->Option Obj
mutual
def bI (R:Seal):AVal->List Value->Prop
 |.bool b,vs=>vs=[.bool b]
 |.int k n,vs=>vs=[.int k n]
 |.str s,vs=>vs=[.string ⟨s.toArray⟩]
 |.raw x,vs=>vs=x.cells.toList
 | .list sz n f,vs=>∃a cap,vs=[.slice a n cap]/\n<=cap/\(n=0\/∃b o C e fz,a=some ⟨b,o,none⟩/\R b=some (.cells C e fz)/\
   ∀i,i<n->bI R (f i) ((C.toList.drop (o+i*sz)).take sz))
 | .rop cs off,vs=>∃b o C e fz,vs=[.pointer (some ⟨b,o,none⟩)]/\off<=o/\R b=some (.cells C e fz)/\
   cb R cs ((C.toList.drop (o-off)).take cs.length)
 |.agg cs,vs=>cb R cs vs
 |.tuple cs,vs=>∃ws,vs=[.tuple ws]/\dy R cs ws.toList
 |.iface t v,vs=>∃w,vs=[.iface t w]/\bI R v w.cells.toList/\v.isAgg=dc w
 |.func fn l1 l2,vs=>∃a b,vs=[.func fn a b]/\dy R l1 a.toList/\dy R l2 b.toList
 |.own _ x,vs=>vs=[x]/\dc x=false
def cb (R:Seal):List AVal->List Value->Prop
 |[],vs=>vs=[]
 |c::cs,vs=>∃v t,vs=v::t/\bI R c [v]/\cb R cs t
def dy (R:Seal):List AVal->List Value->Prop
 |[],vs=>vs=[]
 |c::cs,vs=>∃v t,vs=v::t/\(bI R c v.cells.toList/\c.isAgg=dc v)/\dy R cs t
end
def bn (R:Seal)(a:AVal)(v:Value):Prop:=bI R a v.cells.toList/\a.isAgg=dc v
def Seal.le (R R':Seal):Prop:=∀b o,R b=some o->R' b=some o
theorem Seal.le_refl (R:Seal):R.le R:=λ_ _ h=>h
theorem Seal.le_trans {R R' R'':Seal}(h:R.le R')(k:R'.le R''):R.le R'':=λb o x=>k b o (h b o x)
mutual
theorem ne {R R':Seal}(h:R.le R'):∀(a:AVal) (vs:List Value),bI R a vs->bI R' a vs
 |.bool _,_,x=>x
 |.int _ _,_,x=>x
 |.str _,_,x=>x
 |.raw _,_,x=>x
 |.list sz n f,vs,x=>by
  obtain⟨a,cap,e,hle,y⟩:=x;refine⟨a,cap,e,hle,?_⟩;rcases y with y|⟨b,o,C,el,fz,ha,hR,hi⟩
  ·exact .inl y
  ·exact .inr ⟨b,o,C,el,fz,ha,h _ _ hR,λi hn=>ne h (f i) _ (hi i hn)⟩
 |.rop cs off,vs,x=>by
  obtain⟨b,o,C,e,fz,hv,ho,hR,hl⟩:=x;exact⟨b,o,C,e,fz,hv,ho,h _ _ hR,ec h cs _ hl⟩
 |.agg cs,vs,x=>ec h cs vs x
 |.tuple cs,vs,x=>by
  obtain⟨ws,e,y⟩:=x;exact⟨ws,e,pT h cs _ y⟩
 |.iface t v,vs,x=>by
  obtain⟨w,e,y,z⟩:=x;exact⟨w,e,ne h v _ y,z⟩
 |.func fn l1 l2,vs,x=>by
  obtain⟨a,b,e,y,z⟩:=x;exact⟨a,b,e,pT h l1 _ y,pT h l2 _ z⟩
 |.own _ _,_,x=>x
theorem ec {R R':Seal}(h:R.le R'):∀(a:List AVal) (vs:List Value),cb R a vs->cb R' a vs
 |[],_,x=>x
 |c::cs,_,x=>by
  obtain⟨v,t,e,y,z⟩:=x;exact⟨v,t,e,ne h c _ y,ec h cs _ z⟩
theorem pT {R R':Seal}(h:R.le R'):∀(a:List AVal) (vs:List Value),dy R a vs->dy R' a vs
 |[],_,x=>x
 |c::cs,_,x=>by
  obtain⟨v,t,e,y,z⟩:=x;exact⟨v,t,e,⟨ne h c _ y.1,y.2⟩,pT h cs _ z⟩
end
theorem fx {R R':Seal}(h:R.le R'){a:AVal}{v:Value}(x:bn R a v):bn R' a v:=⟨ne h a _ x.1,x.2⟩
theorem bC {R:Seal}{a:AVal}{v:Value}(x:bn R a v)(ha:a.isAgg=false):bI R a [v]:=by
 obtain⟨x,y⟩:=x
 rw[ha] at y;cases v<;>first|exact x|(simp[dc] at y)
theorem q8 {R:Seal}{a:AVal}{v:Value}(x:bI R a [v])(ha:a.isAgg=false)(hv:dc v=false):bn R a v:=by
 refine⟨?_,by rw[ha,hv]⟩;cases v<;>first|exact x|(simp[dc] at hv)
theorem aO {R:Seal}{b:Bool}{v:Value}:bn R (.bool b) v↔v= .bool b:=by
 constructor
 ·intro x;have:=bC x rfl;simpa[bI] using this
 ·rintro rfl;exact⟨rfl,rfl⟩
theorem ap {R:Seal}{k:IntKind}{n:Int}{v:Value}:bn R (.int k n) v↔v= .int k n:=by
 constructor
 ·intro x;have:=bC x rfl;simpa[bI] using this
 ·rintro rfl;exact⟨rfl,rfl⟩
theorem aD {R:Seal}{s:ω}{v:Value}:bn R (.str s) v↔v= .string ⟨s.toArray⟩:=by
 constructor
 ·intro x;have:=bC x rfl;simpa[bI] using this
 ·rintro rfl;exact⟨rfl,rfl⟩
theorem aq {R:Seal}{x v:Value}:bn R (.raw x) v↔v=x:=by
 constructor
 ·rintro⟨h,k⟩
  cases v<;>cases x<;>simp_all [bI,AVal.isAgg,dc,Value.cells]
 ·rintro rfl;exact⟨rfl,by cases v<;>rfl⟩
theorem aE {R:Seal}{i:Nat}{x v:Value}:bn R (.own i x) v↔v=x/\dc x=false:=by
 constructor
 ·intro h;have:=bC h rfl;simp only[bI,o_,and_true] at this;exact this
 ·rintro⟨rfl,h⟩;refine⟨?_,h.symm⟩;cases v<;>first|exact⟨rfl,rfl⟩|(simp[dc] at h)
def byteA (c:UInt8):AVal:=.int .u8 (c.toNat:Int)
def gp (s:ω)(cap:Nat):List AVal:=s.map byteA++List.replicate (cap-s.length) (.int .u8 0)
def fh (R:Seal)(w:World):Prop:=∀b o,R b=some o->w.heap[b]? =some o
def ow (fz:Nat×Nat)(n:Nat):Prop:=fz.2<=fz.1\/n<=fz.1
def mT (R:Seal):List (AVal×AVal)->List MapEntry->Prop
 |[],es=>es=[]
 |a::l,es=>∃e t,es=e::t/\(bn R a.1 e.key/\bn R a.2 e.val)/\mT R l t
theorem uQ {R R':Seal}(h:R.le R'):∀(l:List (AVal×AVal)) (es:List MapEntry),mT R l es->mT R' l es
 |[],_,x=>x
 |a::l,_,x=>by
  obtain⟨e,t,q,y,z⟩:=x;exact⟨e,t,q,⟨fx h y.1,fx h y.2⟩,uQ h l _ z⟩
inductive HEnt where
 |cells (b:Nat) (e:Option TypeId) (cs:List AVal)
 |row (v:Value) (e:Option TypeId) (sz n:Nat) (cs:List AVal)
 |iter (b:Nat) (s:ω) (pos:Nat)
 |buf (b:Nat) (s:ω) (cap:Nat)
 |mp (b:Nat) (es:List (AVal×AVal))
 |obj (b:Nat) (o:Obj)
def HEnt.blk:HEnt->Option Nat
 |.cells b _ _=>some b
 |.row (.slice (some a) _ _) _ _ _ _=>some a.block
 |.row _ _ _ _ _=>none
 |.iter b _ _=>some b
 |.buf b _ _=>some b
 |.mp b _=>some b
 |.obj b _=>some b
def HEnt.holds (R:Seal)(w:World):HEnt->Prop
 |.cells b eT cs=>∃C e fz,w.heap[b]? =some (.cells C e fz)/\cb R cs C.toList/\ow fz C.size/\∀t,eT=some t->e=t
 | .row v eT sz n cs=>cs.length=n*sz/\((v= .slice none 0 0/\n=0)\/
   ∃b cap C e fz,v= .slice (some ⟨b,0,none⟩) n cap/\w.heap[b]? =some (.cells C e fz)/\C.size=cap*sz/\n<=cap/\
    cb R cs (C.toList.take (n*sz))/\ow fz C.size/\∀t,eT=some t->e=t)
 |.iter b s pos=>w.heap[b]? =some (.stringIter ⟨s.toArray⟩ pos)
 |.buf b s cap=>s.length<=cap/\∃C e fz,w.heap[b]? =some (.cells C e fz)/\cb R (gp s cap) C.toList/\ow fz C.size
 |.mp b es=>∃E cl,w.heap[b]? =some (.map E cl)/\mT R es E.toList
 |.obj b o=>w.heap[b]? =some o
abbrev Heap:=List HEnt
structure DN (R:Seal) (w:World) (H:Heap):Prop where
 holds:∀h∈H,h.holds R w
 nodup:(H.filterMap HEnt.blk).Nodup
 apart:∀h∈H,∀b,h.blk=some b->R b=none
theorem HEnt.holds_mono {R R':Seal}{w w':World}{h:HEnt}(x:h.holds R w)(hR:R.le R')
  (hw:∀b,h.blk=some b->w'.heap[b]? =w.heap[b]?):h.holds R' w':=by
 cases h with
 |cells b eT cs=>
  obtain⟨C,e,fz,hb,hl,hf⟩:=x;exact⟨C,e,fz,by rw[hw b rfl];exact hb,ec hR _ _ hl,hf⟩
 |row v eT sz n cs=>
  obtain⟨hlen,y⟩:=x;refine⟨hlen,?_⟩
  rcases y with y|⟨b,cap,C,e,fz,rfl,hb,hs,hn,hl,hf⟩
  ·exact .inl y
  ·exact .inr ⟨b,cap,C,e,fz,rfl,by rw[hw b rfl];exact hb,hs,hn,ec hR _ _ hl,hf⟩
 |iter b s pos=>simp only[HEnt.holds] at*;rw[hw b rfl];exact x
 |buf b s cap=>
  obtain⟨hc,C,e,fz,hb,hl,hf⟩:=x
  exact⟨hc,C,e,fz,by rw[hw b rfl];exact hb,ec hR _ _ hl,hf⟩
 |mp b es=>
  obtain⟨E,cl,hb,hl⟩:=x
  exact⟨E,cl,by rw[hw b rfl];exact hb,uQ hR _ _ hl⟩
 |obj b o=>simp only[HEnt.holds] at*;rw[hw b rfl];exact x
theorem HEnt.blk_lt {R:Seal}{w:World}{h:HEnt}(x:h.holds R w){b:Nat}(hb:h.blk=some b):b<w.heap.size:=by
 have key:∀(o:Obj),w.heap[b]? =some o->b<w.heap.size:=by
  intro o ho;rcases aaj b w.heap.size with h|h
  ·exact h
  ·simp[Array.getElem?_eq_none h] at ho
 cases h with
 |cells b' eT cs=>
  obtain⟨C,e,fz,hb',_⟩:=x;simp only[HEnt.blk,g_] at hb;subst hb;exact key _ hb'
 |row v eT sz n cs=>
  obtain⟨_,y⟩:=x;rcases y with⟨rfl,_⟩|⟨b',cap,C,e,fz,rfl,hb',_⟩
  ·simp[HEnt.blk] at hb
  ·simp only[HEnt.blk,g_] at hb;subst hb;exact key _ hb'
 |iter b' s pos=>
  simp only[HEnt.blk,g_] at hb;subst hb;exact key _ x
 |buf b' s cap=>
  obtain⟨_,C,e,fz,hb',_⟩:=x;simp only[HEnt.blk,g_] at hb;subst hb;exact key _ hb'
 |mp b' es=>
  obtain⟨E,cl,hb',_⟩:=x;simp only[HEnt.blk,g_] at hb;subst hb;exact key _ hb'
 |obj b' o=>
  simp only[HEnt.blk,g_] at hb;subst hb;exact key _ x
structure Glo where
 p:Seal->Prop
 mono:∀R R':Seal,R.le R'->p R->p R'
structure Ctx where
 w0:World
 R0:Seal
 B0:List Nat
 G:Glo
 hG:G.p R0
 D:List Deferred
structure NP (w0:World) (B0:List Nat) (w:World):Prop where
 os:w.os=w0.os
 tape:w.tape=w0.tape
 output:w.output=w0.output
 size:w0.heap.size<=w.heap.size
 block:∀b,b<w0.heap.size->b∉B0->w.heap[b]? =w0.heap[b]?
theorem NP.refl (w:World)(B:List Nat):NP w B w:=⟨rfl,rfl,rfl,Nat.le_refl _,λ_ _ _=>rfl⟩
structure MS (C:Ctx) (R:Seal) (H:Heap) (w:World):Prop where
 sealed:fh R w
 ge:C.R0.le R
 fresh:∀b,R b≠none->C.R0 b≠none\/C.w0.heap.size<=b\/b∈C.B0
 heap:DN R w H
 own:∀h∈H,∀b,h.blk=some b->C.w0.heap.size<=b\/b∈C.B0
 ext:NP C.w0 C.B0 w
abbrev Env:=List (Nat×AVal)
def Env.get:Env->Nat->Option AVal
 |[],_=>none
 |(k,v)::t,n=>match Nat.beq k n with
  |true=>some v
  |false=>Env.get t n
structure FS (D:List Deferred) (n:Nat) (R:Seal) (env:Env) (a:Act):Prop where
 fr:∀k v,Env.get env k=some v->∃x,a.tmps[k]? =some x/\bn R v x
 size:a.tmps.size=n
 defers:a.defers=D
theorem FS.mono {D:List Deferred}{n:Nat}{R R':Seal}{env:Env}{a:Act}(h:FS D n R env a)(hR:R.le R'):FS D n R' env a:=
 ⟨λk v x=>let ⟨y,hy,hr⟩:=h.fr k v x;⟨y,hy,fx hR hr⟩,h.size,h.defers⟩
theorem FS.put {D:List Deferred}{n:Nat}{R:Seal}{env:Env}{a:Act}(h:FS D n R env a){d:Nat}(hd:Nat.ble (d+1) n=true){av:AVal}{v:Value}(hv:bn R av v):
  FS D n R ((d,av)::env) (a.put (some d) v):=by
 have hd:d<n:=by have:=v_ hd;omega
 refine⟨λk x hk=> ?_,by simp[Act.put,h.size],h.defers⟩;simp only[Env.get] at hk;by_cases e:d=k
 ·subst e;rw[Nat.beq_refl] at hk;simp only[g_] at hk;subst hk;exact⟨v,by simp[Act.put,h.size,hd],hv⟩
 ·have hb:Nat.beq d k=false:=by
   cases hb:Nat.beq d k with
   |false=>rfl
   |true=>exact absurd (m_ hb) e
  rw[hb] at hk;obtain⟨y,hy,hr⟩:=h.fr k x hk;refine⟨y,?_,hr⟩;simp only[Act.put];rw[Array.getElem?_setIfInBounds_ne e];exact hy
def KB:Value->AVal
 |.bool b=>.bool b
 |.int k n=>.int k n
 |.string s=>.str s.data.toList
 |v=>.raw v
def I1 {β:Type}:ω->(ω->β)->β
 |[],k=>k []
 |c::cs,k=>I1 cs (λr=>k (c::r))
theorem ul {β:Type}:∀(l:ω) (k:ω->β),I1 l k=k l
 |[],_=>rfl
 |_::cs,k=>ul cs _
def ah (env:Env):Operand->Option AVal
 |.tmp t=>Env.get env t
 |.const (.string s)=>I1 s.data.toList λl=>some (.str l)
 |.const v=>some (KB v)
 |.global g=>some (.raw (.pointer (some ⟨g,0,none⟩)))
 |.func f=>some (.func (.func f) [] [])
theorem vN (R:Seal)(v:Value):bn R (KB v) v:=by
 cases v<;>first|exact aq.2 rfl|exact aO.2 rfl|exact ap.2 rfl|skip
 exact aD.2 rfl
theorem gE (env:Env)(v:Value):ah env (.const v)=some (KB v):=by cases v<;>first|rfl|(simp only[ah,ul];rfl)
theorem FS.eval {D:List Deferred}{n:Nat}{R:Seal}{env:Env}{a:Act}(h:FS D n R env a){x:Operand}{av:AVal}(hx:ah env x=some av):bn R av (a.eval x):=by
 cases x with
 |tmp t=>
  obtain⟨y,hy,hr⟩:=h.fr t av hx;simp only[Act.eval,Array.getD_eq_getD_getElem?,hy];exact hr
 |const v=>
  rw[gE] at hx;simp only[g_] at hx;subst hx;exact vN R v
 |global g=>simp only[ah,g_] at hx;subst hx;exact aq.2 rfl
 |func f=>
  simp only[ah,g_] at hx;subst hx;exact⟨⟨#[],#[],rfl,rfl,rfl⟩,rfl⟩
inductive aL where
 |normal
 |exit (id:Nat)
 |goto (l:Nat)
 |ret
 |panic (v:AVal)
def aG (R:Seal):aL->Exit->Prop
 |.normal,e=>e= .normal
 |.exit i,e=>e= .exit i
 |.goto i,e=>e= .goto i
 |.ret,e=>e= .ret
 |.panic v,e=>∃x,e= .panic [{v:=x,recovered:=false}]/\bn R v x
def mg (C:Ctx)(n:Nat)(Q:aL->Env->Heap->Prop)(e:Exit)(a:Act)(w:World):Prop:=
 ∃x env H R,Q x env H/\aG R x e/\MS C R H w/\FS C.D n R env a
def bJ (P:Program)(C:Ctx)(n:Nat)(c:Code)(env:Env)(H:Heap)(Q:aL->Env->Heap->Prop):Prop:=
 ∀R a w,MS C R H w->FS C.D n R env a->c.wp P (mg C n Q) a w
def au (P:Program)(C:Ctx)(n:Nat)(ops:Array Oper)(l:List Oper)(env:Env)(H:Heap)(Q:aL->Env->Heap->Prop):Prop:=
 ∀R a w,MS C R H w->FS C.D n R env a->wpList P ops (mg C n Q) l a w
section
variable {P:Program} {C:Ctx} {n:Nat} {env:Env} {H:Heap} {Q:aL->Env->Heap->Prop}
theorem bJ.mono {c:Code}{Q':aL->Env->Heap->Prop}(h:bJ P C n c env H Q)(hq:∀x e h,Q x e h->Q' x e h):bJ P C n c env H Q':=
 λR a w hm hf=>wp_mono (h R a w hm hf) λ_ _ _ ⟨x,en,H',R',q,r⟩=>⟨x,en,H',R',hq _ _ _ q,r⟩
theorem UL (h:Q .normal env H):bJ P C n .skip env H Q:=
 λR _ _ hm hf=>wp_skip ⟨.normal,env,H,R,h,rfl,hm,hf⟩
theorem UM {id:Nat}(h:Q (.exit id) env H):bJ P C n (.exit id) env H Q:=
 λR _ _ hm hf=>wp_exit ⟨.exit id,env,H,R,h,rfl,hm,hf⟩
theorem XW (h:Q .ret env H):bJ P C n .ret env H Q:=
 λR _ _ hm hf=>wp_ret ⟨.ret,env,H,R,h,rfl,hm,hf⟩
def iT (K:Env->Heap->Prop)(Q:aL->Env->Heap->Prop):aL->Env->Heap->Prop
 |.normal,e,h=>K e h
 |x,e,h=>Q x e h
theorem j7 {x y:Code}(h:bJ P C n x env H (iT (λe h=>bJ P C n y e h Q) Q)):bJ P C n (.seq x y) env H Q:=by
 intro R a w hm hf;refine wp_seq (wp_mono (h R a w hm hf) ?_);rintro e a' w' ⟨x',en,H',R',q,er,hm',hf'⟩;cases x' with
 |normal=>simp only[aG] at er;subst er;exact q R' a' w' hm' hf'
 |exit i=>simp only[aG] at er;subst er;exact⟨.exit i,en,H',R',q,rfl,hm',hf'⟩
 |goto i=>simp only[aG] at er;subst er;exact⟨.goto i,en,H',R',q,rfl,hm',hf'⟩
 |ret=>simp only[aG] at er;subst er;exact⟨.ret,en,H',R',q,rfl,hm',hf'⟩
 |panic v=>obtain⟨y,rfl,hr⟩:=er;exact⟨.panic v,en,H',R',q,⟨y,rfl,hr⟩,hm',hf'⟩
theorem UN {c:Operand}{x y:Code}{b:Bool}(hc:ah env c=some (.bool b))(ht:b=true->bJ P C n x env H Q)(hf:b=false->bJ P C n y env H Q):
  bJ P C n (.cond c x y) env H Q:=by
 intro R a w hm hfr;exact wp_cond_split (aO.1 (hfr.eval hc)) (λe=>ht e R a w hm hfr) (λe=>hf e R a w hm hfr)
def Dx (id:Nat)(Q:aL->Env->Heap->Prop):aL->Env->Heap->Prop
 |.exit i,e,h=>(i=id->Q .normal e h)/\(i≠id->Q (.exit i) e h)
 |x,e,h=>Q x e h
theorem mf {id:Nat}{c:Code}(h:bJ P C n c env H (Dx id Q)):bJ P C n (.block id c) env H Q:=by
 intro R a w hm hf;refine wp_block (wp_mono (h R a w hm hf) ?_);rintro e a' w' ⟨x',en,H',R',q,er,hm',hf'⟩
 cases x' with
 |normal=>simp only[aG] at er;subst er;exact⟨.normal,en,H',R',q,rfl,hm',hf'⟩
 |exit i=>
  simp only[aG] at er;subst er
  simp only[Exit.inBlock]
  by_cases e:i=id
  ·rw[if_pos e];exact⟨.normal,en,H',R',q.1 e,rfl,hm',hf'⟩
  ·rw[if_neg e];exact⟨.exit i,en,H',R',q.2 e,rfl,hm',hf'⟩
 |goto i=>simp only[aG] at er;subst er;exact⟨.goto i,en,H',R',q,rfl,hm',hf'⟩
 |ret=>simp only[aG] at er;subst er;exact⟨.ret,en,H',R',q,rfl,hm',hf'⟩
 |panic v=>obtain⟨y,rfl,hr⟩:=er;exact⟨.panic v,en,H',R',q,⟨y,rfl,hr⟩,hm',hf'⟩
def Env.sub (env:Env):Env->Prop
 |[]=>True
 |(k,v)::t=>Env.get env k=some v/\Env.sub env t
theorem Env.sub_get {env:Env}:∀{t:Env},Env.sub env t->∀k v,Env.get t k=some v->Env.get env k=some v
 |[],_,k,v,h=>by simp[Env.get] at h
 |(j,x)::t,hs,k,v,h=>by
  simp only[Env.get] at h
  cases hb:Nat.beq j k with
  |true=>
   rw[hb] at h
   simp only[g_] at h
   subst h
   have:=m_ hb
   subst this
   exact hs.1
  |false=>rw[hb] at h;exact Env.sub_get hs.2 k v h
theorem FS.sub {D:List Deferred}{R:Seal}{a:Act}{t:Env}(h:FS D n R env a)(hs:Env.sub env t):FS D n R t a:=
 ⟨λk v x=>h.fr k v (Env.sub_get hs k v x),h.size,h.defers⟩
theorem RU {c:Code}{env':Env}(hs:Env.sub env env')(h:bJ P C n c env' H Q):bJ P C n c env H Q:=
 λR a w hm hf=>h R a w hm (hf.sub hs)
def wm (P:Program)(C:Ctx)(n:Nat)(c:Code)(Q:aL->Env->Heap->Prop):Nat->Env->Heap->Prop
 |0,_,_=>False
 |k+1,e,h=>bJ P C n c e h (iT (wm P C n c Q k) Q)
theorem NF {c:Code}(k:Nat)(h:wm P C n c Q k env H):bJ P C n (.loop c) env H Q:=by
 intro R a w hm hf;refine wp_loop_rounds k ?_;induction k generalizing env H R a w with
 |zero=>exact h.elim
 |succ k ih=>
  rw[rounds_succ]
  refine wp_mono (h R a w hm hf) ?_
  rintro e a' w' ⟨x',en,H',R',q,er,hm',hf'⟩
  cases x' with
  |normal=>simp only[aG] at er;subst er;exact ih q R' a' w' hm' hf'
  |exit i=>simp only[aG] at er;subst er;exact⟨.exit i,en,H',R',q,rfl,hm',hf'⟩
  |goto i=>simp only[aG] at er;subst er;exact⟨.goto i,en,H',R',q,rfl,hm',hf'⟩
  |ret=>simp only[aG] at er;subst er;exact⟨.ret,en,H',R',q,rfl,hm',hf'⟩
  |panic v=>obtain⟨y,rfl,hr⟩:=er;exact⟨.panic v,en,H',R',q,⟨y,rfl,hr⟩,hm',hf'⟩
theorem UQ {c:Code}{k:Nat}(h:bJ P C n c env H (iT (wm P C n c Q k) Q)):wm P C n c Q (k+1) env H:=h
end
end
section
open Go
theorem qf {w:World}{b:Nat}{o:Obj}(h:w.heap[b]? =some o):b<w.heap.size:=by
 rcases aaj b w.heap.size with k|k
 ·exact k
 ·simp[Array.getElem?_eq_none k] at h
def grow (w:World)(o:Obj):World:={w with heap:=w.heap.push o}
theorem gn (w:World)(o:Obj):(grow w o).heap[w.heap.size]? =some o:=by
 show(w.heap.push o)[w.heap.size]? =some o;simp
theorem vU {w:World}{o:Obj}{b:Nat}(h:b<w.heap.size):(grow w o).heap[b]? =w.heap[b]? :=by
 simp only[grow,Array.getElem?_push];rw[if_neg a_]
theorem NP.grow {w0 w:World}{B:List Nat}(h:NP w0 B w)(o:Obj):NP w0 B (grow w o):=
  ⟨h.os,h.tape,h.output,by have:=h.size;simp only[Go.Proofs.YtgpjhbhdbjdlgaaGreatDoor.grow,Array.size_push];omega,
   λb hb hB=>by rw[vU (by have:=h.size;omega)];exact h.block b hb hB⟩
theorem fh.grow {R:Seal}{w:World}(h:fh R w)(o:Obj):fh R (grow w o):=λb o' hb=>by
 have:=h b o' hb;rw[vU (qf this)];exact this
theorem DN.blk_lt {R:Seal}{w:World}{H:Heap}(h:DN R w H){b:Nat}(hb:b∈H.filterMap HEnt.blk):b<w.heap.size:=by
 obtain⟨e,he,hb⟩:=List.mem_filterMap.1 hb;exact HEnt.blk_lt (h.holds e he) hb
theorem MS.alloc {C:Ctx}{R:Seal}{H:Heap}{w:World}(h:MS C R H w)(o:Obj)(x:HEnt)(hb:x.blk=some w.heap.size)
  (hx:x.holds R (grow w o)):MS C R (x::H) (grow w o) where
 sealed:=h.sealed.grow o
 ge:=h.ge
 fresh:=h.fresh
 heap:=by
  refine⟨λy hy=> ?_,?_,λy hy b hyb=> ?_⟩
  ·rcases List.mem_cons.1 hy with rfl|hy
   ·exact hx
   ·refine HEnt.holds_mono (h.heap.holds y hy) (Seal.le_refl R) λb hyb=> ?_;exact vU (HEnt.blk_lt (h.heap.holds y hy) hyb)
  ·simp only[List.filterMap_cons,hb];refine List.nodup_cons.2 ⟨λhm=> ?_,h.heap.nodup⟩;exact absurd (h.heap.blk_lt hm) (Nat.lt_irrefl _)
  ·rcases List.mem_cons.1 hy with rfl|hy
   ·rw[hb] at hyb;simp only[g_] at hyb;subst hyb;cases hR:R w.heap.size with
    |none=>rfl
    |some o'=>exact absurd (qf (h.sealed _ _ hR)) (Nat.lt_irrefl _)
   ·exact h.heap.apart y hy b hyb
 own:=λy hy b hyb=>by
  rcases List.mem_cons.1 hy with rfl|hy
  ·rw[hb] at hyb;simp only[g_] at hyb;subst hyb;exact .inl h.ext.size
  ·exact h.own y hy b hyb
 ext:=h.ext.grow o
def Seal.put (R:Seal)(b:Nat)(o:Obj):Seal:=λk=>if k=b then some o else R k
theorem Seal.put_le {R:Seal}{b:Nat}{o:Obj}(h:R b=none):R.le (R.put b o):=λk o' hk=>by
 simp only[Seal.put]
 by_cases e:k=b
 ·subst e;rw[h] at hk;cases hk
 ·rw[if_neg e];exact hk
theorem Seal.put_at (R:Seal)(b:Nat)(o:Obj):R.put b o b=some o:=by simp[Seal.put]
theorem MS.seal_free {C:Ctx}{R:Seal}{H:Heap}{w:World}(h:MS C R H w):R w.heap.size=none:=by
 cases hR:R w.heap.size with
 |none=>rfl
 |some o'=>exact absurd (qf (h.sealed _ _ hR)) (Nat.lt_irrefl _)
theorem MS.alloc_sealed {C:Ctx}{R:Seal}{H:Heap}{w:World}(h:MS C R H w)(o:Obj):MS C (R.put w.heap.size o) H (grow w o) where
 sealed:=λb o' hb=>by
  simp only[Seal.put] at hb;by_cases e:b=w.heap.size
  ·subst e;rw[if_pos rfl] at hb;rw[gn];exact hb
  ·rw[if_neg e] at hb;exact h.sealed.grow o b o' hb
 ge:=Seal.le_trans h.ge (Seal.put_le h.seal_free)
 fresh:=λb hb=>by
  simp only[Seal.put] at hb;by_cases e:b=w.heap.size
  ·subst e;exact .inr (.inl h.ext.size)
  ·rw[if_neg e] at hb;exact h.fresh b hb
 heap:=by
  refine⟨λy hy=> ?_,h.heap.nodup,λy hy b hyb=> ?_⟩
  ·refine HEnt.holds_mono (h.heap.holds y hy) (Seal.put_le h.seal_free) λb hyb=> ?_;exact vU (HEnt.blk_lt (h.heap.holds y hy) hyb)
  ·have:=HEnt.blk_lt (h.heap.holds y hy) hyb;simp only[Seal.put];rw[if_neg a_];exact h.heap.apart y hy b hyb
 own:=h.own
 ext:=h.ext.grow o
structure oj (w:World) (b:Nat) (o:Obj) (w':World):Prop where
 os:w'.os=w.os
 tape:w'.tape=w.tape
 output:w'.output=w.output
 size:w'.heap.size=w.heap.size
 at_:w'.heap[b]? =some o
 other:∀k,k≠b->w'.heap[k]? =w.heap[k]?
theorem pR {α:Type}{l:List α}{i:Nat}{x y:α}(h:l[i]? =some x):∃a c,l=a++x::c/\l.set i y=a++y::c:=by
 induction l generalizing i with
 |nil=>simp at h
 |cons z t ih=>
  cases i with
  |zero=>simp only[I_,g_] at h;subst h;exact⟨[],t,rfl,rfl⟩
  |succ i=>
   simp only[J_] at h;obtain⟨a,c,h1,h2⟩:=ih h;exact⟨z::a,c,by rw[h1];rfl,by simp[h2]⟩
theorem MS.write {C:Ctx}{R:Seal}{H:Heap}{w w':World}{i b:Nat}{x y:HEnt}{o:Obj}(h:MS C R H w)(hi:H[i]? =some x)(hb:x.blk=some b)
  (hw:oj w b o w') (hyb:y.blk=some b) (hy:y.holds R w'):MS C R (H.set i y) w':=by
 obtain⟨a,c,rfl,hset⟩:=pR (y:=y) hi;rw[hset];have hx:x∈a++x::c:=by simp
 have hlt:=HEnt.blk_lt (h.heap.holds x hx) hb;have hRb:=h.heap.apart x hx b hb;have hnd:=h.heap.nodup;rw[List.filterMap_append,List.filterMap_cons,hb] at hnd;have hother:∀z,z∈a\/z∈c->∀k,z.blk=some k->k≠b:=by
  rintro z hz k hk rfl;have hd:=List.nodup_append.1 hnd;rcases hz with hz|hz
  ·exact hd.2.2 k (List.mem_filterMap.2 ⟨z,hz,hk⟩) k (by simp) rfl
  ·exact(List.nodup_cons.1 hd.2.1).1 (List.mem_filterMap.2 ⟨z,hz,hk⟩)
 have hmem:∀z,z∈a++y::c->z=y\/((z∈a\/z∈c)/\z∈a++x::c):=by
  intro z hz;simp only[List.mem_append,p_] at hz ⊢;rcases hz with hz|hz|hz
  ·exact .inr ⟨.inl hz,.inl hz⟩
  ·exact .inl hz
  ·exact .inr ⟨.inr hz,.inr (.inr hz)⟩
 refine⟨?_,h.ge,h.fresh,⟨?_,?_,?_⟩,?_,?_⟩
 ·intro k o' hk;rw[hw.other k (by rintro rfl;rw[hRb] at hk;cases hk)];exact h.sealed k o' hk
 ·intro z hz;rcases hmem z hz with rfl|⟨hz',hz''⟩
  ·exact hy
  ·exact HEnt.holds_mono (h.heap.holds z hz'') (Seal.le_refl R) λk hk=>hw.other k (hother z hz' k hk)
 ·rw[List.filterMap_append,List.filterMap_cons,hyb];exact hnd
 ·intro z hz k hk;rcases hmem z hz with rfl|⟨_,hz''⟩
  ·rw[hyb] at hk;simp only[g_] at hk;subst hk;exact hRb
  ·exact h.heap.apart z hz'' k hk
 ·intro z hz k hk;rcases hmem z hz with rfl|⟨_,hz''⟩
  ·rw[hyb] at hk;simp only[g_] at hk;subst hk;exact h.own x hx b hb
  ·exact h.own z hz'' k hk
 ·have hob:=h.own x hx b hb;refine⟨hw.os.trans h.ext.os,hw.tape.trans h.ext.tape,hw.output.trans h.ext.output,by rw[hw.size];exact h.ext.size,λk hk hB=> ?_⟩;rw[hw.other k (by rintro rfl;rcases hob with h1|h1;omega;exact hB h1)];exact h.ext.block k hk hB
theorem MS.drop {C:Ctx}{R:Seal}{H H':Heap}{w:World}(h:MS C R H w)(hs:H'.Sublist H):MS C R H' w:=
  ⟨h.sealed,h.ge,h.fresh,⟨λy hy=>h.heap.holds y (hs.subset hy),h.heap.nodup.sublist (hs.filterMap _),λy hy=>h.heap.apart y (hs.subset hy)⟩,
   λy hy=>h.own y (hs.subset hy),h.ext⟩
theorem MS.perm {C:Ctx}{R:Seal}{H H':Heap}{w:World}(h:MS C R H w)(hs:H.Perm H'):MS C R H' w:=
  ⟨h.sealed,h.ge,h.fresh,⟨λy hy=>h.heap.holds y (hs.mem_iff.2 hy),(hs.filterMap _).nodup_iff.1 h.heap.nodup,λy hy=>h.heap.apart y (hs.mem_iff.2 hy)⟩,
   λy hy=>h.own y (hs.mem_iff.2 hy),h.ext⟩
theorem MS.fixed {C:Ctx}{R:Seal}{H:Heap}{w:World}{x:HEnt}{b:Nat}{o:Obj}(h:MS C R (x::H) w)(hb:x.blk=some b)(ho:w.heap[b]? =some o):
  MS C (R.put b o) H w/\R.le (R.put b o):=by
 have hx:x∈x::H:=by simp
 have hRb:=h.heap.apart x hx b hb;have hle:=Seal.put_le (o:=o) hRb;have hnd:=h.heap.nodup;rw[List.filterMap_cons,hb] at hnd;refine⟨⟨?_,Seal.le_trans h.ge hle,?_,⟨λy hy=> ?_,(List.nodup_cons.1 hnd).2,λy hy k hk=> ?_⟩,λy hy=>h.own y (by simp[hy]),h.ext⟩,hle⟩
 ·intro k o' hk;simp only[Seal.put] at hk;by_cases e:k=b
  ·subst e;rw[if_pos rfl] at hk;rw[ho];exact hk
  ·rw[if_neg e] at hk;exact h.sealed k o' hk
 ·intro k hk;simp only[Seal.put] at hk;by_cases e:k=b
  ·subst e;exact .inr (h.own x hx k hb)
  ·rw[if_neg e] at hk;exact h.fresh k hk
 ·exact HEnt.holds_mono (h.heap.holds y (by simp[hy])) hle λ_ _=>rfl
 ·have:k≠b:=by
   rintro rfl;exact(List.nodup_cons.1 hnd).1 (List.mem_filterMap.2 ⟨y,hy,hk⟩)
  simp only[Seal.put];rw[if_neg this];exact h.heap.apart y (by simp[hy]) k hk
def eR (H:Heap):List Nat:=H.filterMap HEnt.blk
theorem MS.glo {C:Ctx}{R:Seal}{H:Heap}{w:World}(h:MS C R H w):C.G.p R:=C.G.mono _ _ h.ge C.hG
theorem MS.call {C:Ctx}{R R':Seal}{H1 H1' H2:Heap}{w w':World}{G:Glo}{hG:G.p R}(h:MS C R (H1++H2) w)(h':MS ⟨w,R,eR H1,G,hG,[]⟩ R' H1' w'):MS C R' (H1'++H2) w':=by
 have hnd:=h.heap.nodup;rw[List.filterMap_append] at hnd;have hd:=List.nodup_append.1 hnd;have hB1:∀b,b∈eR H1->C.w0.heap.size<=b\/b∈C.B0:=by
  intro b hb;obtain⟨e,he,hb⟩:=List.mem_filterMap.1 hb;exact h.own e (by simp[he]) b hb
 have h2:∀z∈H2,∀b,z.blk=some b->b<w.heap.size/\b∉eR H1:=by
  intro z hz b hb;refine⟨HEnt.blk_lt (h.heap.holds z (by simp[hz])) hb,λhm=> ?_⟩;exact hd.2.2 b hm b (List.mem_filterMap.2 ⟨z,hz,hb⟩) rfl
 refine⟨h'.sealed,Seal.le_trans h.ge h'.ge,?_,⟨?_,?_,?_⟩,?_,?_⟩
 ·intro b hb;rcases h'.fresh b hb with h1|h1|h1
  ·exact h.fresh b h1
  ·exact .inr (.inl (aai h.ext.size h1))
  ·exact .inr (hB1 b h1)
 ·intro z hz;rcases List.mem_append.1 hz with hz|hz
  ·exact h'.heap.holds z hz
  ·exact HEnt.holds_mono (h.heap.holds z (by simp[hz])) h'.ge λb hb=>h'.ext.block b (h2 z hz b hb).1 (h2 z hz b hb).2
 ·rw[List.filterMap_append];refine List.nodup_append.2 ⟨h'.heap.nodup,hd.2.1,?_⟩;rintro b hb k hk rfl;obtain⟨e,he,hb⟩:=List.mem_filterMap.1 hb;obtain⟨z,hz,hk⟩:=List.mem_filterMap.1 hk;have:=h2 z hz b hk;rcases h'.own e he b hb with h1|h1
  ·exact absurd (show w.heap.size<=b from h1) (by have:=this.1;omega)
  ·exact this.2 h1
 ·intro z hz b hb;rcases List.mem_append.1 hz with hz|hz
  ·exact h'.heap.apart z hz b hb
  ·cases hR:R' b with
   |none=>rfl
   |some o=>
    have:=h2 z hz b hb;rcases h'.fresh b (by simp[hR]) with h1|h1|h1
    ·exact absurd (h.heap.apart z (by simp[hz]) b hb) h1
    ·exact absurd h1 (by have:=this.1;show ¬w.heap.size<=b;omega)
    ·exact absurd h1 this.2
 ·intro z hz b hb;rcases List.mem_append.1 hz with hz|hz
  ·rcases h'.own z hz b hb with h1|h1
   ·exact .inl (aai h.ext.size h1)
   ·exact hB1 b h1
  ·exact h.own z (by simp[hz]) b hb
 ·refine⟨h'.ext.os.trans h.ext.os,h'.ext.tape.trans h.ext.tape,h'.ext.output.trans h.ext.output,aai h.ext.size h'.ext.size,λb hb hB=> ?_⟩;rw[h'.ext.block b (Nat.lt_of_lt_of_le hb h.ext.size) (λhm=>by rcases hB1 b hm with h1|h1;omega;exact hB h1)];exact h.ext.block b hb hB
theorem MS.enter {C:Ctx}{R:Seal}{H1 H2:Heap}{w:World}{G:Glo}{hG:G.p R}(h:MS C R (H1++H2) w):MS ⟨w,R,eR H1,G,hG,[]⟩ R H1 w:=
 have hd:=h.drop (H':=H1) (by simp)
 ⟨h.sealed,Seal.le_refl R,λ_ hb=>.inl hb,hd.heap,λz hz b hb=>.inr (List.mem_filterMap.2 ⟨z,hz,hb⟩),NP.refl w _⟩
end
section
open Go
section
variable {P:Program} {C:Ctx} {n:Nat} {env:Env} {H:Heap} {Q:aL->Env->Heap->Prop} {ops:Array Oper} {rest:List Oper}
theorem NG {id:Nat}{l:List Oper}(h:au P C n l.toArray l env H Q):bJ P C n (.region id l.toArray false) env H Q:=
 λR a w hm hf=>wp_region_lit (h R a w hm hf)
theorem X3 (h:Q .normal env H):au P C n ops [] env H Q:=
 λR _ _ hm hf=>wpList_nil ⟨.normal,env,H,R,h,rfl,hm,hf⟩
def aQ (ops:Array Oper)(env:Env):Option (Nat×Bool)->Option (Bool×Bool)
 |none=>some (true,true)
 |some (j,want)=>
  match ops[j]? with
  |some o=>match o.dst with
   |some d=>match Env.get env d with
    |some (.bool b)=>some (b,want)
    |_=>none
   |none=>none
  |none=>none
theorem cE {D:List Deferred}{R:Seal}{a:Act}{o:Oper}{b want:Bool}(hf:FS D n R env a)(hg:aQ ops env o.guard=some (b,want)):
  Region.wanted o (yielded ops a.tmps)=(b==want):=by
 unfold aQ at hg;unfold Region.wanted;split at hg
 ·rename_i h;rw[h];simp only[g_,aag] at hg;simp[hg.1.symm,hg.2.symm]
 ·rename_i j wt h;rw[h];split at hg
  ·rename_i o' ho;split at hg
   ·rename_i d hd;split at hg
    ·rename_i b' hb;simp only[g_,aag] at hg;obtain⟨rfl,rfl⟩:=hg;obtain⟨x,hx,hr⟩:=hf.fr d _ hb;rw[aO.1 hr] at hx;simp[yielded,ho,hd,hx]
    ·simp at hg
   ·simp at hg
  ·simp at hg
def cJ (ops:Array Oper):Option (Nat×Bool)->Option Nat
 |some (j,_)=>match ops[j]? with
  |some o=>o.dst
  |none=>none
 |none=>none
theorem US {o:Oper}{d:Nat}(hg:aQ ops env o.guard=some (true,false))(hd:o.dst=some d)(hdn:Nat.ble (d+1) n=true)
  (h:au P C n ops rest ((d,.raw undef)::env) H Q):au P C n ops (o::rest) env H Q:=by
 intro R a w hm hf;refine wpList_step λK hK=> ?_;rw[cE hf hg,if_neg (by simp),hd];exact hK _ _ (h R _ w hm (hf.put hdn (aq.2 rfl)))
theorem R4 {o:Oper}{d:Nat}(hg:aQ ops env o.guard=some (false,true))(hd:o.dst=some d)(hdn:Nat.ble (d+1) n=true)
  (h:au P C n ops rest ((d,.raw undef)::env) H Q):au P C n ops (o::rest) env H Q:=by
 intro R a w hm hf;refine wpList_step λK hK=> ?_;rw[cE hf hg,if_neg (by simp),hd];exact hK _ _ (h R _ w hm (hf.put hdn (aq.2 rfl)))
theorem ta {o:Oper}{b want:Bool}(hg:aQ ops env o.guard=some (b,want))(hb:(b==want)=false)(hd:o.dst=none)
  (h:au P C n ops rest env H Q):au P C n ops (o::rest) env H Q:=by
 intro R a w hm hf;refine wpList_step λK hK=> ?_;rw[cE hf hg,hb,if_neg (by simp),hd];exact hK _ _ (h R _ w hm hf)
theorem Ah {o:Oper}{d e:Nat}(hs:cJ ops o.guard=some e)(hv:Env.get env e=some (.raw undef))(hd:o.dst=some d)(hdn:Nat.ble (d+1) n=true)
  (h:au P C n ops rest ((d,.raw undef)::env) H Q):au P C n ops (o::rest) env H Q:=by
 intro R a w hm hf;refine wpList_step λK hK=> ?_;have hw:Region.wanted o (yielded ops a.tmps)=false:=by
  unfold cJ at hs;unfold Region.wanted;split at hs
  ·rename_i j want h;rw[h];split at hs
   ·rename_i o' ho;obtain⟨x,hx,hr⟩:=hf.fr e _ hv;rw[aq.1 hr] at hx;simp[yielded,ho,hs,hx,undef]
   ·cases hs
  ·cases hs
 rw[hw,if_neg (by simp),hd];exact hK _ _ (h R _ w hm (hf.put hdn (aq.2 rfl)))
theorem G1 {o:Oper}{b want:Bool}{d:Nat}(_hg:aQ ops env o.guard=some (b,want))(_hs:cJ ops o.guard=some d)(hv:Env.get env d=some (.bool b))
  (ht:b=true->au P C n ops (o::rest) ((d,.bool true)::env) H Q) (hf:b=false->au P C n ops (o::rest) ((d,.bool false)::env) H Q):
  au P C n ops (o::rest) env H Q:=by
 have key:∀x,b=x->∀{D:List Deferred} R a,FS D n R env a->FS D n R ((d,.bool x)::env) a:=by
  rintro x rfl D R a hfr;refine⟨λk v hk=> ?_,hfr.size,hfr.defers⟩;simp only[Env.get] at hk;cases hb:Nat.beq d k with
  |true=>
   rw[hb] at hk;have:=m_ hb;subst this;simp only[g_] at hk;subst hk;exact hfr.fr d _ hv
  |false=>rw[hb] at hk;exact hfr.fr k v hk
 intro R a w hm hfr;cases hb:b with
 |true=>exact ht hb R a w hm (key true hb R a hfr)
 |false=>exact hf hb R a w hm (key false hb R a hfr)
def qU (R:Seal)(env:Env)(ρ:Operand->Value):Prop:=∀x av,ah env x=some av->bn R av (ρ x)
theorem uz {o:Oper}{d:Nat}{av:AVal}{H':Heap}{b:Bool}(hg:aQ ops env o.guard=some (b,b))(hd:o.dst=some d)(hdn:Nat.ble (d+1) n=true)
  (hx:∀R ρ w,MS C R H w->qU R env ρ->∃v w' R',(execOp ρ o).run P w= .ok (.value v) w'/\R.le R'/\bn R' av v/\MS C R' H' w')
  (h:au P C n ops rest ((d,av)::env) H' Q):au P C n ops (o::rest) env H Q:=by
 intro R a w hm hf;refine wpList_step λK hK=> ?_;rw[cE hf hg,if_pos (by simp)];obtain⟨v,w',R',hr,hR,hv,hm'⟩:=hx R a.eval w hm (λx av h=>hf.eval h);rw[Oper.wp,hr,Oper.upon_value,hd];exact hK _ _ (h R' _ w' hm' ((hf.mono hR).put hdn hv))
theorem gR {X:Type}{o:Oper}{d:Nat}{av:X->AVal}{H':X->Heap}{b:Bool}(hg:aQ ops env o.guard=some (b,b))(hd:o.dst=some d)(hdn:Nat.ble (d+1) n=true)
  (hx:∀R ρ w,MS C R H w->qU R env ρ->∃x v w' R',(execOp ρ o).run P w= .ok (.value v) w'/\R.le R'/\bn R' (av x) v/\MS C R' (H' x) w')
  (h:∀x,au P C n ops rest ((d,av x)::env) (H' x) Q):au P C n ops (o::rest) env H Q:=by
 intro R a w hm hf;refine wpList_step λK hK=> ?_;rw[cE hf hg,if_pos (by simp)];obtain⟨x,v,w',R',hr,hR,hv,hm'⟩:=hx R a.eval w hm (λx av h=>hf.eval h);rw[Oper.wp,hr,Oper.upon_value,hd];exact hK _ _ (h x R' _ w' hm' ((hf.mono hR).put hdn hv))
theorem LJ {o:Oper}{d:Nat}{av:AVal}{b:Bool}(hg:aQ ops env o.guard=some (b,b))(hd:o.dst=some d)(hdn:Nat.ble (d+1) n=true)
  (hx:∀R ρ w,MS C R H w->qU R env ρ->∃v,(execOp ρ o).run P w= .ok (.value v) w/\bn R av v)
  (h:au P C n ops rest ((d,av)::env) H Q):au P C n ops (o::rest) env H Q:=
 uz hg hd hdn (λR ρ w hm hf=>let ⟨v,hr,hv⟩:=hx R ρ w hm hf;⟨v,w,R,hr,Seal.le_refl R,hv,hm⟩) h
variable {d:Nat} {t:TypeId} {p:String} {af:Array Edge} {g:Option (Nat×Bool)} {b:Bool} {av:AVal}
def nT (x y:Int):Bool:=decide (x<y)
def bV (x y:Int):Bool:=decide (x=y)
theorem oo {x y:Int}:nT x y=true↔x<y:=by simp[nT]
theorem o8 {x y:Int}:nT x y=false↔y<=x:=by simp[nT]
theorem fJ {x y:Int}:bV x y=true↔x=y:=by simp[bV]
theorem k9 {x y:Int}:bV x y=false↔x≠y:=by simp[bV]
theorem TG {x y:Int}:nT x y=decide (x<y):=rfl
theorem Ui {x y:Int}:bV x y=decide (x=y):=rfl
theorem WW {x y:Int}:decide (x<=y)= !nT y x:=by rw[w_];simp[nT]
theorem W5 {x y:Int}:decide (x≥y)= !nT x y:=by rw[w_];simp[nT]
attribute [irreducible] nT bV
def lR (op:BinOp)(k:IntKind)(x y:Int):Option AVal:=
 match op with
 |.add=>some (.int k (k.wrap (x+y)))
 |.sub=>some (.int k (k.wrap (x-y)))
 |.mul=>some (.int k (k.wrap (x*y)))
 |.and=>some (.int k (k.wrap (BitVec.ofInt k.bits x&&& BitVec.ofInt k.bits y).toNat))
 |.or=>some (.int k (k.wrap (BitVec.ofInt k.bits x|||BitVec.ofInt k.bits y).toNat))
 |.xor=>some (.int k (k.wrap (BitVec.ofInt k.bits x^^^BitVec.ofInt k.bits y).toNat))
 |.andNot=>some (.int k (k.wrap (BitVec.ofInt k.bits x&&& ~~~ BitVec.ofInt k.bits y).toNat))
 |.eql=>some (.bool (bV x y))
 |.neq=>some (.bool (!bV x y))
 |.lss=>some (.bool (nT x y))
 |.leq=>some (.bool (!nT y x))
 |.gtr=>some (.bool (nT y x))
 |.geq=>some (.bool (!nT x y))
 |_=>none
theorem HV {op:BinOp}{k:IntKind}{m q:Int}{tx:TypeId}{x y:Operand}{w:World}(ho:lR op k m q=some av):
  ∃v,Sem.run P (do eqGuard op tx x y (.int k m) (.int k q);Go.binOp op tx (.int k m) (.int k q)) w= .ok v w/\∀R,bn R av v:=by
 cases op<;>simp only[lR,g_] at ho<;>
  first
   |(cases ho;done)
   |(subst ho;refine⟨.int k _,?_,λ_=>ap.2 rfl⟩;simp only[Go.binOp,eqGuard,aan,aao,aaq,Op.intArith,Op.intBits,Op.intCmp];rfl)
   |(subst ho;refine⟨.bool _,?_,λ_=>aO.2 rfl⟩;simp only[Go.binOp,eqGuard,aan,aao,aaq,Op.intArith,Op.intBits,Op.intCmp,TG,Ui];rfl)
   |(subst ho;refine⟨.bool _,?_,λ_=>aO.2 rfl⟩;simp only[Go.binOp,eqGuard,aan,aao,aaq,Op.intArith,Op.intBits,Op.intCmp,WW,W5];rfl)
end
end
section
open Go
structure TI where
 desc:TypeDesc
 size:Nat
 bytes:Nat
 zero:Option Value
 cmp:Bool
def BN (P:Program):List TI->Nat->Prop
 |[],_=>True
 |x::r,t=>(P.underlying t=some x.desc/\∃i,P.info? t=some i/\i.size=x.size/\i.bytes=x.bytes/\i.zero=x.zero/\i.comparable=x.cmp)/\BN P r (t+1)
class Tab (P:Program) where
 list:List TI
 ok:BN P list 0
def CM {α:Type}:List α->Nat->Option α
 |[],_=>none
 |x::_,0=>some x
 |_::r,n+1=>CM r n
def bj (P:Program)[T:Tab P](t:Nat):Option TI:=CM T.list t
theorem tq {P:Program}:∀{l:List TI} {t k:Nat} {x:TI},BN P l t->CM l k=some x->
  P.underlying (t+k)=some x.desc/\∃i,P.info? (t+k)=some i/\i.size=x.size/\i.bytes=x.bytes/\i.zero=x.zero/\i.comparable=x.cmp
 |[],_,_,_,_,h=>by simp[CM] at h
 |y::r,t,0,x,ho,h=>by simp only[CM,g_] at h;subst h;exact ho.1
 |y::r,t,k+1,x,ho,h=>by
  have:=tq (l:=r) (t:=t+1) (k:=k) ho.2 h;rw[show t+(k+1)=t+1+k by omega];exact this
section
variable {P:Program} [T:Tab P] {t:TypeId} {x:TI} (h:bj P t=some x)
include h
theorem bR:P.underlying t=some x.desc:=by have:=(tq T.ok h).1;rwa [Nat.zero_add] at this
theorem ii:∃i,P.info? t=some i/\i.size=x.size/\i.bytes=x.bytes/\i.zero=x.zero/\i.comparable=x.cmp:=by
 have:=(tq T.ok h).2;rwa [Nat.zero_add] at this
theorem ao (w:World):(underlying t).run P w= .ok x.desc w:=run_underlying (bR h) w
theorem rK (w:World):∃i,(typeInfo t).run P w= .ok i w/\i.size=x.size/\i.bytes=x.bytes/\i.zero=x.zero/\i.comparable=x.cmp:=by
 obtain⟨i,hi,r⟩:=ii h;refine⟨i,?_,r⟩;simp only[typeInfo,e_,run_program,c_,hi,h_]
theorem aM (w:World):(sizeOf t).run P w= .ok x.size w:=by
 obtain⟨i,hi,hs,_⟩:=rK h w;simp only[sizeOf,e_,hi,c_,h_,hs]
theorem dT {v:Value}(hz:x.zero=some v)(w:World):(zeroValue t).run P w= .ok v w:=by
 obtain⟨i,hi,_,_,h0,_⟩:=rK h w;simp only[zeroValue,e_,hi,c_,h0,hz,h_]
def cv:TypeDesc->Bool
 |.struct _=>true
 |.array _ _=>true
 |_=>false
theorem dX (w:World):(isAgg t).run P w= .ok (cv x.desc) w:=by
 simp only[isAgg,e_,ao h w,c_];cases x.desc<;>rfl
end
inductive co where
 |ret (v:AVal)
 |panic (v:AVal)
def iQ (R:Seal):co->Ending->Prop
 |.ret v,e=>∃x,e= .returned x/\bn R v x
 |.panic v,e=>∃x,e= .panicked [{v:=x,recovered:=false}]/\bn R v x
def Ya (P:Program)(f:FuncId)(args:Array Value)(w:World)(R:Ending->World->Prop):Prop:=
 ((callFunc f args).run P w= .ok (.enter f args) w/\Calls P f args w R)\/∃v w',(callFunc f args).run P w= .ok (.value v) w'/\R (.returned v) w'
def ad (P:Program)(G:Glo)(f:FuncId)(avs:List AVal)(H:Heap)(Qf:co->Heap->Prop):Prop:=
 ∀R w args (hG:G.p R),MS ⟨w,R,eR H,G,hG,[]⟩ R H w->dy R avs args.toList->
  Ya P f args w λe w'=>∃res H' R',Qf res H'/\iQ R' res e/\MS ⟨w,R,eR H,G,hG,[]⟩ R' H' w'
theorem ad.mono {P:Program}{G:Glo}{f:FuncId}{avs:List AVal}{H:Heap}{Qf Qf':co->Heap->Prop}(h:ad P G f avs H Qf)(hq:∀r H',Qf r H'->Qf' r H'):
  ad P G f avs H Qf':=by
 intro R w args hG hm ha;rcases h R w args hG hm ha with⟨h1,h2⟩|⟨v,w',h1,res,H',R',q,r⟩
 ·exact .inl ⟨h1,h2.mono λe w' ⟨res,H',R',q,r⟩=>⟨res,H',R',hq _ _ q,r⟩⟩
 ·exact .inr ⟨v,w',h1,res,H',R',hq _ _ q,r⟩
theorem jt {P:Program}{w:World}{b:Nat}{C:Array Value}{e:TypeId}{fz:Nat×Nat}(hb:w.heap[b]? =some (.cells C e fz))(o:Nat):
  ∀(n i:Nat) (acc:Array Value),o+i+n<=C.size->(loadCellsFrom ⟨b,o,none⟩ i n acc).run P w= .ok (acc.toList++(C.toList.drop (o+i)).take n).toArray w
 |0,i,acc,_=>by simp[loadCellsFrom]
 |n+1,i,acc,h=>by
  have hc:w.cell? ((⟨b,o,none⟩:Addr).add i)=some C[o+i]:=by
   simp only[World.cell?,Addr.add];by_cases hi:i=0
   ·subst hi;simp[hb]
   ·simp[hi,hb]
  simp only[loadCellsFrom,e_,run_load,hc,c_];rw[jt hb o n (i+1) _ a_];have:(C.toList.drop (o+i)).take (n+1)=C[o+i]::(C.toList.drop (o+(i+1))).take n:=by
   rw[A_ (by simp;omega),aac];simp[Nat.add_assoc]
  rw[this];simp
theorem aJ {R:Seal}:∀{cs:List AVal} {vs:List Value},cb R cs vs->vs.length=cs.length
 |[],_,h=>by simp only[cb] at h;subst h;rfl
 |c::cs,_,h=>by
  obtain⟨v,t,rfl,_,h⟩:=h;simp[aJ h]
theorem fy {R:Seal}:∀{cs:List AVal} {vs:List Value} {i:Nat} {c:AVal},cb R cs vs->cs[i]? =some c->∃v,vs[i]? =some v/\bI R c [v]
 |[],_,_,_,_,h=>by simp at h
 |c::cs,_,0,x,h,hi=>by
  obtain⟨v,t,rfl,hv,h⟩:=h;simp only[I_,g_] at hi;subst hi;exact⟨v,rfl,hv⟩
 |c::cs,_,i+1,x,h,hi=>by
  obtain⟨v,t,rfl,_,h⟩:=h;exact fy (cs:=cs) (vs:=t) (i:=i) h (by simpa using hi)
theorem cp {R:Seal}:∀{a b:List AVal} {vs ws:List Value},cb R a vs->cb R b ws->cb R (a++b) (vs++ws)
 |[],_,_,_,h,k=>by simp only[cb] at h;subst h;exact k
 |c::cs,_,_,_,h,k=>by
  obtain⟨v,t,rfl,hv,h⟩:=h;exact⟨v,_,rfl,hv,cp h k⟩
theorem di {R:Seal}:∀{a:List AVal} {vs:List Value} (n:Nat),cb R a vs->cb R (a.take n) (vs.take n)
 |[],_,n,h=>by simp only[cb] at h;subst h;simp[cb]
 |c::cs,_,0,h=>by simp[cb]
 |c::cs,_,n+1,h=>by
  obtain⟨v,t,rfl,hv,h⟩:=h;exact⟨v,_,rfl,hv,di n h⟩
theorem dz {R:Seal}:∀{a:List AVal} {vs:List Value} (n:Nat),cb R a vs->cb R (a.drop n) (vs.drop n)
 |[],_,n,h=>by simp only[cb] at h;subst h;simp[cb]
 |c::cs,_,0,h=>h
 |c::cs,_,n+1,h=>by
  obtain⟨v,t,rfl,hv,h⟩:=h;exact dz n h
theorem ES {R:Seal}{a:AVal}{v:Value}(h:bI R a [v])(ha:a.isAgg=false):dc v=false:=by
 cases a<;>simp only[bI] at h
 case bool=>simp only[o_] at h;rw[h.1];rfl
 case int=>simp only[o_] at h;rw[h.1];rfl
 case str=>simp only[o_] at h;rw[h.1];rfl
 case raw x=>cases x<;>simp_all [Value.cells,dc,AVal.isAgg]
 case list=>obtain⟨_,_,h,_⟩:=h;simp only[o_] at h;rw[h.1];rfl
 case rop=>obtain⟨_,_,_,_,_,h,_⟩:=h;simp only[o_] at h;rw[h.1];rfl
 case agg=>simp[AVal.isAgg] at ha
 case tuple=>obtain⟨_,h,_⟩:=h;simp only[o_] at h;rw[h.1];rfl
 case iface=>obtain⟨_,h,_⟩:=h;simp only[o_] at h;rw[h.1];rfl
 case func=>obtain⟨_,_,h,_⟩:=h;simp only[o_] at h;rw[h.1];rfl
 case own=>obtain⟨h,h2⟩:=h;simp only[o_] at h;rw[h.1];exact h2
theorem cT {R:Seal}{a:AVal}{v:Value}(h:bI R a [v])(ha:a.isAgg=false):bn R a v:=q8 h ha (ES h ha)
def fg:Nat->List AVal->Env
 |_,[]=>[]
 |i,a::t=>(i,a)::fg (i+1) t
theorem rC {R:Seal}:∀{avs:List AVal} {vs:List Value} {i k:Nat} {v:AVal},dy R avs vs->Env.get (fg i avs) k=some v->i<=k/\∃x,vs[k-i]? =some x/\bn R v x
 |[],_,_,_,_,_,h=>by simp[fg,Env.get] at h
 |a::t,_,i,k,v,hr,h=>by
  obtain⟨x,s,rfl,hx,hr⟩:=hr;simp only[fg,Env.get] at h;cases hb:Nat.beq i k with
  |true=>
   rw[hb] at h
   have:=m_ hb
   subst this
   simp only[g_] at h
   subst h
   exact⟨Nat.le_refl _,x,by simp,hx⟩
  |false=>
   rw[hb] at h
   obtain⟨h1,y,hy,hr⟩:=rC hr h
   refine⟨a_,y,?_,hr⟩
   rw[show k-i=(k-(i+1))+1 by omega]
   exact hy
theorem mq {R:Seal}:∀{cs:List AVal} {vs:List Value},dy R cs vs->vs.length=cs.length
 |[],_,h=>by simp only[dy] at h;subst h;rfl
 |c::cs,_,h=>by
  obtain⟨v,t,rfl,_,h⟩:=h;simp[mq h]
def Pb (P:Program)[Tab P](env:Env)(H:Heap):ResultVar->AVal->Prop
 |.tmp t,v=>Env.get env t=some v
 | .cell a ty,v=>∃(b i:Nat) (eT:Option TypeId) (cs:List AVal) (x:TI),(Env.get env a=some (.raw (.pointer (some ⟨b,0,none⟩)))\/∃j,Env.get env a=some (.own j (.pointer (some ⟨b,0,none⟩))))/\H[i]? =some (HEnt.cells b eT cs)/\bj P ty=some x/\x.size=cs.length/\
   ((cv x.desc=true/\v= .agg cs)\/(cv x.desc=false/\cs=[v]/\v.isAgg=false))
def tG (P:Program)[Tab P](env:Env)(H:Heap):List ResultVar->List AVal->Prop
 |[],vs=>vs=[]
 |r::rs,vs=>∃v t,vs=v::t/\Pb P env H r v/\tG P env H rs t
def Cz:List AVal->AVal
 |[v]=>v
 |vs=>.tuple vs
def UZ (P:Program)[Tab P](rs:List ResultVar)(Qf:co->Heap->Prop):aL->Env->Heap->Prop
 |.ret,env,H|.normal,env,H=>∃vs H',tG P env H rs vs/\H'.Sublist H/\Qf (.ret (Cz vs)) H'
 |.panic v,_,H=>∃H',H'.Sublist H/\Qf (.panic v) H'
 |_,_,_=>False
def xV (tmps:Array Value):ResultVar->Sem Value
 |.tmp t=>pure (tmps.getD t undef)
 |.cell a t=>do loadVar t (<-asAddr (tmps.getD a undef))
theorem HZ (fn:Func)(tmps:Array Value):results fn tmps=(do
  let vs <-fn.results.mapM (xV tmps)
  pure (if h:vs.size=1 then vs[0] else .tuple vs)):=rfl
theorem H5 {P:Program}{D:List Deferred}[Tab P]{C:Ctx}{n:Nat}{env:Env}{H:Heap}{R:Seal}{w:World}{a:Act}{r:ResultVar}{v:AVal}(hm:MS C R H w)(hf:FS D n R env a)
  (h:Pb P env H r v):∃x,(xV a.tmps r).run P w= .ok x w/\bn R v x:=by
 cases r with
 |tmp t=>
  obtain⟨x,hx,hr⟩:=hf.fr t v h;exact⟨x,by simp[xV,hx],hr⟩
 |cell c ty=>
  obtain⟨b,i,eT,cs,x,hc,hi,ht,hs,hk⟩:=h;have hc':∃y,a.tmps[c]? =some y/\y= .pointer (some ⟨b,0,none⟩):=by
   rcases hc with hc|⟨j,hc⟩
   ·obtain⟨y,hy,hr⟩:=hf.fr c _ hc;exact⟨y,hy,aq.1 hr⟩
   ·obtain⟨y,hy,hr⟩:=hf.fr c _ hc;exact⟨y,hy,(aE.1 hr).1⟩
  obtain⟨y,hy,hr⟩:=hc';subst hr;obtain⟨Cs,e,fz,hb,hl,_⟩:=hm.heap.holds _ (q_ hi);have hlen:=aJ hl;simp only[xV,Array.getD_eq_getD_getElem?,hy,aam,e_,asAddr,h_,c_,loadVar,dX ht];rcases hk with⟨ha,rfl⟩|⟨ha,rfl,hv⟩
  ·rw[ha];simp only[aap,e_,aM ht,c_,loadCells];rw[jt hb 0 x.size 0 _ (by simp at hlen;omega)];refine⟨_,rfl,?_,rfl⟩;simp at hlen;simp only[Value.cells,bI];rw[u_ (by simp;omega)];simpa using hl
  ·rw[ha];simp only[Bu,aaq,run_load];obtain⟨z,hz,hrz⟩:=fy hl (i:=0) (c:=v) rfl;have:w.cell? ⟨b,0,none⟩=some z:=by simp only[World.cell?,hb];simpa using hz
   simp only[this];exact⟨z,rfl,cT hrz hv⟩
theorem xt {P:Program}{D:List Deferred}[Tab P]{C:Ctx}{n:Nat}{env:Env}{H:Heap}{R:Seal}{w:World}{a:Act}(hm:MS C R H w)(hf:FS D n R env a):
  ∀{rs:List ResultVar} {vs:List AVal},tG P env H rs vs->∃xs:List Value,(rs.mapM (xV a.tmps)).run P w= .ok xs w/\dy R vs xs
 |[],vs,h=>by simp only[tG] at h;subst h;exact⟨[],rfl,rfl⟩
 |r::rs,vs,h=>by
  obtain⟨v,t,rfl,h1,h2⟩:=h;obtain⟨x,hx,hr⟩:=H5 (P:=P) hm hf h1;obtain⟨xs,hxs,hrs⟩:=xt hm hf h2;refine⟨x::xs,?_,x,xs,rfl,hr,hrs⟩;simp only[List.mapM_cons,e_,hx,c_,hxs,h_]
theorem dZ {P:Program}{D:List Deferred}[Tab P]{C:Ctx}{n:Nat}{env:Env}{H:Heap}{R:Seal}{w:World}{a:Act}{fn:Func}{vs:List AVal}(hm:MS C R H w)(hf:FS D n R env a)
  (h:tG P env H fn.results.toList vs):∃x,(results fn a.tmps).run P w= .ok x w/\bn R (Cz vs) x:=by
 obtain⟨xs,hxs,hr⟩:=xt hm hf h;have hlen:=mq hr;refine⟨_,by rw[HZ];simp only[e_,Array.mapM_eq_mapM_toList,Sem.run_map,hxs,c_,h_];rfl,?_⟩
 match vs,xs,hlen,hr with
 |[],[],_,_=>exact⟨⟨#[],rfl,rfl⟩,rfl⟩
 |[v],[x],_,hr=>
  obtain⟨y,t,e,hy,_⟩:=hr;simp only[o_] at e;obtain⟨rfl,rfl⟩:=e;exact hy
 |v::v'::t,x::x'::s,_,hr=>exact⟨⟨_,by simp[Value.cells],hr⟩,rfl⟩
theorem qk {P:Program}[Tab P]{G:Glo}{f:FuncId}{fn:Func}{c:Code}{avs:List AVal}{H:Heap}{Qf:co->Heap->Prop}{n:Nat}{rs:List ResultVar}(hf:P.funcs[f]? =some fn)
  (hb:fn.body=some c) (hc:∀args w,(callFunc f args).run P w= .ok (.enter f args) w) (hn:fn.ntmps=n) (hrs:fn.results=rs.toArray) (hlen:Nat.ble avs.length n=true)
  (h:∀w0 R0 hG,bJ P ⟨w0,R0,eR H,G,hG,[]⟩ n c (fg 0 avs) H (UZ P rs Qf)):ad P G f avs H Qf:=by
 intro R w args hG hm ha;refine .inl ⟨hc args w,calls_of_wp hf hb ?_⟩;have hl:=mq ha;have hlen:=v_ hlen;simp only[r_] at hl;refine wp_mono (h w R hG R _ w hm ⟨λk v hk=> ?_,?_,rfl⟩) ?_
 ·obtain⟨_,x,hx,hr⟩:=rC ha hk;refine⟨x,?_,hr⟩;simp only[Nat.sub_zero,Array.getElem?_toList] at hx;have:=Array.getElem?_eq_some_iff.1 hx;rw[Array.getElem?_append_left this.1];exact hx
 ·simp only[Array.size_append,Array.size_replicate];omega
 ·rintro e a' w' ⟨x,env',H',R',q,er,hm',hf'⟩;have hrs':fn.results.toList=rs:=by rw[hrs]
  cases x with
  |normal=>
   simp only[aG] at er;subst er;obtain⟨vs,H'',hv,hs,q⟩:=q;obtain⟨y,hy,hr⟩:=dZ (fn:=fn) hm' hf' (by rw[hrs'];exact hv);exact⟨hf'.defers,y,hy,_,H'',R',q,⟨y,rfl,hr⟩,hm'.drop hs⟩
  |ret=>
   simp only[aG] at er;subst er;obtain⟨vs,H'',hv,hs,q⟩:=q;obtain⟨y,hy,hr⟩:=dZ (fn:=fn) hm' hf' (by rw[hrs'];exact hv);exact⟨hf'.defers,y,hy,_,H'',R',q,⟨y,rfl,hr⟩,hm'.drop hs⟩
  |panic v=>
   obtain⟨y,rfl,hr⟩:=er;obtain⟨H'',hs,q⟩:=q;exact⟨hf'.defers,_,H'',R',q,⟨y,rfl,hr⟩,hm'.drop hs⟩
  |exit i=>exact q.elim
  |goto i=>exact q.elim
def kH (env:Env):List Operand->Option (List AVal)
 |[]=>some []
 |x::t=>match ah env x,kH env t with
  |some v,some r=>some (v::r)
  |_,_=>none
theorem i6 {R:Seal}{env:Env}{ρ:Operand->Value}(hf:∀x av,ah env x=some av->bn R av (ρ x)):
  ∀{l:List Operand} {avs:List AVal},kH env l=some avs->dy R avs (l.map ρ)
 |[],avs,h=>by simp only[kH,g_] at h;subst h;rfl
 |x::t,avs,h=>by
  simp only[kH] at h;split at h
  ·rename_i v r hv hr;simp only[g_] at h;subst h;exact⟨_,_,rfl,hf x v hv,i6 hf hr⟩
  ·cases h
theorem ku {R:Seal}:∀{a b:List AVal} {vs ws:List Value},dy R a vs->dy R b ws->dy R (a++b) (vs++ws)
 |[],_,_,_,h,k=>by simp only[dy] at h;subst h;exact k
 |c::cs,_,_,_,h,k=>by
  obtain⟨v,t,rfl,hv,h⟩:=h;exact⟨v,_,rfl,hv,ku h k⟩
section
variable {P:Program} {C:Ctx} {n:Nat} {env:Env} {H:Heap} {Q:aL->Env->Heap->Prop} {ops:Array Oper} {rest:List Oper}
variable {d:Nat} {t:TypeId} {p:String} {af:Array Edge} {g:Option (Nat×Bool)} {b:Bool}
theorem UU {fv:Operand}{args:List Operand}{ts:Array TypeId}{f:FuncId}{l1 l2 avs:List AVal}{H1 H2:Heap}{Qf:co->Heap->Prop}
  (hg:aQ ops env g=some (b,b)) (hdn:Nat.ble (d+1) n=true) (hfv:ah env fv=some (.func (.func f) l1 l2)) (ha:kH env args=some avs)
  (hs:ad P C.G f (l1++(avs++l2)) H1 Qf) (hH:H=H1++H2)
  (hret:∀v H',Qf (.ret v) H'->au P C n ops rest ((d,v)::env) (H'++H2) Q)
  (hpan:∀v H',Qf (.panic v) H'->Q (.panic v) env (H'++H2)):
  au P C n ops ({dst:=some d,op:=.call {callee:=.value fv,args:=args.toArray,argTypes:=ts},type:=t,pos:=p,after:=af,guard:=g}::rest) env H Q:=by
 subst hH;intro R a w hm hf;refine wpList_step λK hK=> ?_;rw[cE hf hg,if_pos (by simp)];obtain⟨⟨x1,x2,e,r1,r2⟩,_⟩:=bC (hf.eval hfv) rfl,trivial;simp only[o_,and_true] at e;have hrel:dy R (l1++(avs++l2)) (x1++args.toArray.map a.eval++x2).toList:=by
  have:=ku r1 (ku (i6 (λx av h=>hf.eval h) ha) r2);simpa using this
 have hrun:(execOp a.eval {dst:=some d,op:=.call {callee:=.value fv,args:=args.toArray,argTypes:=ts},type:=t,pos:=p,after:=af,guard:=g:Oper}).run P w=
   (callFunc f (x1++args.toArray.map a.eval++x2)).run P w:=by
  simp only[execOp,resolve,e,Deferred.ofValue,e_,h_,c_,invoke]
 rcases hs R w _ hm.glo hm.enter hrel with⟨h1,h2⟩|⟨v,w',h1,res,H',R',q,er,hm'⟩
 ·rw[Oper.wp,hrun,h1,Oper.upon_enter];refine h2.mono ?_;rintro en w' ⟨res,H',R',q,er,hm'⟩;have hm'':=hm.call hm';have hf':=hf.mono hm'.ge;cases res with
  |ret v=>
   obtain⟨y,rfl,hr⟩:=er;exact hK _ _ (hret v H' q R' _ w' hm'' (hf'.put hdn hr))
  |panic v=>
   obtain⟨y,rfl,hr⟩:=er;exact⟨.panic v,env,_,R',hpan v H' q,⟨y,rfl,hr⟩,hm'',hf'⟩
 ·rw[Oper.wp,hrun,h1,Oper.upon_value];have hm'':=hm.call hm';have hf':=hf.mono hm'.ge;cases res with
  |ret v'=>
   obtain⟨y,e,hr⟩:=er;simp only[Ending.returned.injEq] at e;subst e;exact hK _ _ (hret v' H' q R' _ w' hm'' (hf'.put hdn hr))
  |panic v'=>obtain⟨y,e,_⟩:=er;cases e
end
end
section
open Go
set_option maxRecDepth 100000
def gG (d i:TypeInfo):TI:=⟨d.desc,i.size,i.bytes,i.zero,i.comparable⟩
abbrev ay (i:TypeInfo):TI:=gG i i
theorem ZG {P:Program}{l:List TI}{t:Nat}{d i:TypeInfo}(h:P.underlying t=some d.desc)(k:P.info? t=some i)(r:BN P l (t+1)):BN P (gG d i::l) t:=⟨⟨h,i,k,rfl,rfl,rfl,rfl⟩,r⟩
noncomputable def BY:List TI:=[ay t0,ay t1,ay t2,ay t3,ay t4,ay t5,gG t5 t6,ay t7,gG t7 t8,ay t9,gG t9 t10,gG t9 t11,ay t12,ay t13,gG t13 t14,ay t15,ay t16,ay t17,ay t18,gG t18 t19,ay t20,ay t21,ay t22,gG t3 t23,ay t24,gG t24 t25,ay t26,ay t27,ay t28,gG t28 t29,ay t30,ay t31,ay t32,ay t33,ay t34,ay t35,gG t35 t36,ay t37,ay t38,ay t39,ay t40,ay t41,ay t42,ay t43,ay t44,gG t44 t45,ay t46,ay t47,ay t48,ay t49,ay t50,ay t51,ay t52,ay t53,ay t54,ay t55,ay t56,ay t57,ay t58,ay t59,ay t60,gG t60 t61,ay t62,gG t62 t63,ay t64,gG t64 t65,ay t66,ay t67,ay t68,gG t68 t69,ay t70,ay t71,ay t72,ay t73,ay t74,ay t75,ay t76,ay t77,ay t78,ay t79,ay t80,gG t80 t81,ay t82,ay t83,ay t84,ay t85,ay t86,ay t87,ay t88,ay t89,ay t90,ay t91,gG t91 t92,ay t93,ay t94,ay t95,ay t96,gG t96 t97,ay t98,ay t99,ay t100,ay t101,ay t102,ay t103,ay t104,ay t105,ay t106,ay t107,ay t108,ay t109,gG t109 t110,ay t111,ay t112,ay t113,ay t114,ay t115,gG t115 t116,ay t117,ay t118,ay t119,ay t120,ay t121,ay t122,ay t123,ay t124,ay t125,ay t126,ay t127,ay t128,ay t129,ay t130,ay t131,ay t132,ay t133,ay t134,gG t134 t135,ay t136,ay t137,ay t138,ay t139,ay t140,ay t141,ay t142,ay t143,ay t144,ay t145,ay t146,ay t147,ay t148,ay t149,ay t150,ay t151,ay t152,ay t153,ay t154,ay t155,ay t156,ay t157,ay t158,ay t159,ay t160,ay t161,gG t161 t162,ay t163,ay t164,ay t165,ay t166,ay t167,ay t168,ay t169,ay t170,ay t171,gG t171 t172,ay t173,ay t174,ay t175,gG t175 t176,ay t177,ay t178,ay t179,ay t180,ay t181,ay t182,ay t183,ay t184,ay t185,ay t186,gG t186 t187,ay t188,ay t189,ay t190,ay t191,ay t192,ay t193,ay t194,ay t195,ay t196,ay t197,ay t198,gG t12 t199,ay t200,gG t200 t201,ay t202,ay t203,gG t203 t204,ay t205,gG t5 t206,ay t207,ay t208,ay t209,ay t210,ay t211,ay t212,ay t213,ay t214,ay t215,ay t216,ay t217,ay t218,ay t219,ay t220,ay t221,ay t222,ay t223,ay t224,ay t225,ay t226,ay t227,ay t228,ay t229,ay t230,ay t231,ay t232,ay t233,ay t234,ay t235,ay t236,ay t237,ay t238,ay t239,ay t240,ay t241,ay t242,ay t243,ay t244,gG t244 t245,ay t246,ay t247,ay t248,ay t249,ay t250,ay t251,ay t252,ay t253,ay t254,ay t255,ay t256,ay t257,ay t258,ay t259,ay t260,ay t261,ay t262,ay t263,ay t264,ay t265,ay t266,ay t267,ay t268,ay t269,ay t270,ay t271,ay t272,ay t273,ay t274,ay t275,ay t276,ay t277,ay t278,ay t279,ay t280,ay t281,ay t282,ay t283,ay t284,ay t285,ay t286,ay t287,gG t287 t288,ay t289,ay t290,ay t291,gG t3 t292,ay t293,ay t294,ay t295,ay t296,ay t297,ay t298,gG t298 t299,ay t300,ay t301,ay t302,ay t303,ay t304,ay t305,ay t306,ay t307,ay t308,ay t309,ay t310,gG t310 t311,gG t310 t312,ay t313,gG t313 t314,ay t315,gG t315 t316,ay t317,gG t317 t318,ay t319,gG t319 t320,ay t321,gG t321 t322,ay t323,gG t323 t324,ay t325,ay t326,ay t327,ay t328,gG t328 t329,ay t330,ay t331,gG t331 t332,ay t333,ay t334,gG t334 t335,ay t336,ay t337,ay t338,ay t339,ay t340,gG t340 t341,ay t342,gG t342 t343,ay t344,gG t344 t345,ay t346,ay t347,ay t348,ay t349,ay t350,ay t351,ay t352,ay t353,ay t354,ay t355,gG t355 t356,ay t357,ay t358,ay t359,ay t360,ay t361,ay t362,ay t363,ay t364,ay t365,ay t366,ay t367,ay t368,ay t369,gG t241 t370,ay t371,ay t372,ay t373,gG t373 t374,ay t375,ay t376,ay t377,ay t378,ay t379,ay t380,ay t381,ay t382,ay t383,ay t384,ay t385,gG t385 t386,ay t387,ay t388,ay t389,gG t389 t390,ay t391,gG t391 t392,ay t393,ay t394,ay t395,ay t396,ay t397,ay t398,ay t399,ay t400,ay t401,ay t402,gG t402 t403,ay t404,ay t405,ay t406,ay t407,ay t408,ay t409,gG t409 t410,ay t411,ay t412,gG t412 t413,ay t414,gG t5 t415,ay t416,gG t21 t417,gG t21 t418,ay t419,gG t419 t420,ay t421,ay t422,ay t423,gG t423 t424,ay t425,gG t94 t426,ay t427,ay t428,gG t428 t429,ay t430,gG t430 t431,ay t432,ay t433,ay t434,ay t435,ay t436,gG t436 t437,ay t438,ay t439,ay t440,ay t441,gG t441 t442,ay t443,gG t21 t444,ay t445,gG t445 t446,ay t447]
theorem HB:BN prog BY 0:=by
 unfold BY;repeat refine ZG be be ?_
 exact trivial
noncomputable instance theTab:Tab prog:=⟨BY,HB⟩
end
section
open Go
def aa (s:ω)(k:Nat):Nat:=(s.getD k 0).toNat
theorem bB (s:ω)(k:Nat):aa s k<256:=UInt8.toNat_lt _
def ca (s:ω)(k:Nat):Bool:=decide (k<s.length)&&(aa s k/64==2)
def ll (r:Nat):Bool:=decide (r<=1114111)&&(decide (r<55296)||decide (57343<r))
def BC (s:ω):Nat:=aa s 0%32*64+aa s 1%64
def BB (s:ω):Nat:=(aa s 0%16*64+aa s 1%64)*64+aa s 2%64
def BA (s:ω):Nat:=((aa s 0%8*64+aa s 1%64)*64+aa s 2%64)*64+aa s 3%64
def aC (s:ω):Nat×Nat:=
 if s.length=0 then(0,0)
 else if aa s 0<128 then(aa s 0,1)
 else if aa s 0/32=6 then(if ca s 1&&decide (128<=BC s)&&ll (BC s) then(BC s,2) else(0,0))
 else if aa s 0/16=14 then(if ca s 1&&ca s 2&&decide (2048<=BB s)&&ll (BB s) then(BB s,3) else(0,0))
 else if aa s 0/8=30 then(if ca s 1&&ca s 2&&ca s 3&&decide (65536<=BA s)&&ll (BA s) then(BA s,4) else(0,0))
 else(0,0)
theorem sm (s:ω):(aC s).2<=s.length/\(aC s).2<=4/\(aC s).1<=1114111:=by
 have h:=bB s 0;unfold aC;split
 ·simp
 split
 ·simp only[];omega
 split
 ·split
  ·rename_i h;simp only[l_,ca,ll,n_] at h;simp only[];omega
  ·simp
 split
 ·split
  ·rename_i h;simp only[l_,ca,ll,n_] at h;simp only[];omega
  ·simp
 split
 ·split
  ·rename_i h;simp only[l_,ca,ll,n_] at h;simp only[];omega
  ·simp
 ·simp
def uw:Nat->ω->Option Nat
 |0,_=>none
 |k+1,s=>if s.length=0 then none else if(aC s).2=0 then some 0 else(uw k (s.drop (aC s).2)).map (· +(aC s).2)
def kY (s:ω):Option Nat:=uw s.length s
def dm (s:ω):Int:=match kY s with|some i=>(i:Int)|none=> -1
theorem BJ:∀(k:Nat) (s:ω),s.length<=k->uw k s=uw s.length s:=by
  intro k;induction k using Nat.strongRecOn with
  | _ k ih=>
    intro s hs
    cases k with
    | zero => have:s.length=0:=by omega
              rw[this]
    | succ k=>
      by_cases h0:s.length=0
      · rw[h0];simp[uw,h0]
      · obtain⟨m,hm⟩:∃m,s.length=m+1:=⟨s.length-1,a_⟩
        rw[hm]
        simp only[uw,if_neg h0]
        by_cases hn:(aC s).2=0
        · rw[if_pos hn,if_pos hn]
        · rw[if_neg hn,if_neg hn]
          have hl:(s.drop (aC s).2).length<=m:=by rw[k_];omega
          rw[ih k a_ _ a_,ih m a_ _ hl]
theorem qq (s:ω)(h0:s.length≠0):kY s=if(aC s).2=0 then some 0 else(kY (s.drop (aC s).2)).map (· +(aC s).2):=by
 obtain⟨m,hm⟩:∃m,s.length=m+1:=⟨s.length-1,a_⟩;unfold kY;rw[hm];simp only[uw,if_neg h0];by_cases hn:(aC s).2=0
 ·rw[if_pos hn,if_pos hn]
 ·rw[if_neg hn,if_neg hn,BJ];rw[k_];omega
theorem GU (s:ω)(h0:s.length=0):kY s=none:=by unfold kY;rw[h0];rfl
def eY (s:ω):Nat:=if(aC s).2=0 then 1 else(aC s).2
def fw (s:ω):Nat:=if(aC s).2=0 then 65533 else(aC s).1
theorem ct (s:ω)(p k:Nat):aa (s.drop p) k=aa s (p+k):=by
 simp[aa,List.getElem?_drop]
theorem IY (s:ω)(i:Nat):((⟨s.toArray⟩:ByteArray).get! i).toNat=aa s i:=by
 simp only[aa,ByteArray.get!];congr 1
 simp[List.getD];rfl
theorem Hp (c:Nat):Utf8.valid (c:Int)=ll c:=by
 rw[w_];simp only[Utf8.valid,ll,Wk,l_,n_];omega
theorem GG (s:ω)(p k:Nat):ca (s.drop p) k=(decide (p+k<s.length)&&(aa s (p+k)/64==2)):=by
 rw[w_];simp only[ca,ct,k_,l_,n_];constructor<;>rintro⟨h1,h2⟩<;>exact⟨a_,h2⟩
theorem ZP (a b c d:Nat):a*262144+b*4096+c*64+d=((a*64+b)*64+c)*64+d:=by omega
theorem ZQ (a b c:Nat):a*4096+b*64+c=(a*64+b)*64+c:=by omega
theorem sQ (s:ω)(p:Nat)(hp:p<s.length):
  Utf8.decode ⟨s.toArray⟩ p=if(aC (s.drop p)).2=0 then(65533,1) else aC (s.drop p):=by
 have hsz:(⟨s.toArray⟩:ByteArray).size=s.length:=by simp[ByteArray.size]
 have h0:¬(s.drop p).length=0:=by rw[k_];omega
 simp only[Utf8.decode,IY,hsz,Utf8.runeError,aC,if_neg h0,GG,BC,BB,BA,ct,Nat.add_zero,ZQ,ZP,Hp];generalize aa s p=b0;generalize (decide (p+1<s.length)&&(aa s (p+1)/64==2))=k1;generalize (decide (p+2<s.length)&&(aa s (p+2)/64==2))=k2;generalize (decide (p+3<s.length)&&(aa s (p+3)/64==2))=k3;generalize aa s (p+1)=b1;generalize aa s (p+2)=b2;generalize aa s (p+3)=b3;by_cases c1:b0<128
 ·simp only[if_pos c1];rfl
 simp only[if_neg c1];by_cases c2:b0/32=6
 ·have c3:¬b0/16=14:=by omega
  have c4:¬b0/8=30:=by omega
  have hm:128<=b0%32*64+b1%64->ll (b0%32*64+b1%64)=true:=by
   intro h;simp only[ll,l_,Wk,n_];omega
  cases k1<;>by_cases h:128<=b0%32*64+b1%64<;>simp[c2,c3,c4,h,hm]
 by_cases c3:b0/16=14
 ·have c4:¬b0/8=30:=by omega
  generalize (b0%16*64+b1%64)*64+b2%64=r;cases k1<;>cases k2<;>cases hm:ll r<;>by_cases h:2048<=r<;>simp[c2,c3,c4,h,hm]
 by_cases c4:b0/8=30
 ·generalize ((b0%8*64+b1%64)*64+b2%64)*64+b3%64=r;cases k1<;>cases k2<;>cases k3<;>cases hm:ll r<;>by_cases h:65536<=r<;>simp[c2,c3,c4,h,hm]
 ·simp[c2,c3,c4]
end
section
open Go
theorem B2 (b:ByteArray):(⟨b.data.toList.toArray⟩:ByteArray)=b:=by cases b;simp
theorem bM (l:ω):(⟨l.toArray⟩:ByteArray).size=l.length:=by simp[ByteArray.size]
theorem HD (a b:ω):(⟨a.toArray⟩:ByteArray)++⟨b.toArray⟩=⟨(a++b).toArray⟩:=by
 ext1;simp
theorem El (l:ω)(i j:Nat):(⟨l.toArray⟩:ByteArray).extract i j=⟨((l.take j).drop i).toArray⟩:=by
 apply ByteArray.ext;simp[List.drop_take]
theorem SU (l:ω)(i:Nat)(h:i<l.length):(⟨l.toArray⟩:ByteArray)[i]? =some l[i]:=by
 have hs:i<(⟨l.toArray⟩:ByteArray).size:=by rw[bM];exact h
 rw[getElem?_pos _ i hs];exact congrArg some (show l.toArray[i]=l[i] by simp)
def NT:List Int:=[1,2,4,8,16,32,64,128,256,512,1024,2048,4096,8192,16384,32768,65536,131072,262144,524288,1048576,2097152,4194304,8388608,16777216,33554432,67108864,134217728,268435456,536870912,1073741824,2147483648,4294967296]
def Km:List Int->Nat->Bool
 |[],_=>true
 |c::r,i=>decide (((2^i:Nat):Int)=c)&&Km r (i+1)
theorem AJ:∀{l:List Int} {i k:Nat} {c:Int},Km l i=true->CM l k=some c->((2^(i+k):Nat):Int)=c
 |[],_,_,_,_,h=>by simp[CM] at h
 |x::r,i,0,c,ho,h=>by
  simp only[CM,g_] at h;subst h;simp only[Km,l_,n_] at ho;exact ho.1
 |x::r,i,k+1,c,ho,h=>by
  simp only[Km,l_] at ho;rw[show i+(k+1)=(i+1)+k by omega];exact AJ ho.2 h
theorem E1 {e:Nat}{c:Int}(h:CM NT e=some c):((2^e:Nat):Int)=c:=by
 have:=AJ (l:=NT) (i:=0) (by decide+kernel) h;rwa [Nat.zero_add] at this
def gY:IntKind->Int->Prop
 |.i8,n=> -128<=n/\n<=127
 |.i16,n=> -32768<=n/\n<=32767
 |.i32,n=> -2147483648<=n/\n<=2147483647
 |.i64,n=> -9223372036854775808<=n/\n<=9223372036854775807
 |.u8,n=>0<=n/\n<=255
 |.u16,n=>0<=n/\n<=65535
 |.u32,n=>0<=n/\n<=4294967295
 |.u64,n=>0<=n/\n<=18446744073709551615
theorem iS {k:IntKind}{n:Int}(h:gY k n):k.wrap n=n:=by
 cases k
 ·exact IntWalk.i8_in n h
 ·exact IntWalk.i16_in n h
 ·exact IntWalk.i32_in n h
 ·exact IntWalk.i64_in n h
 ·exact IntWalk.u8_in n h
 ·exact IntWalk.u16_in n h
 ·exact IntWalk.u32_in n h
 ·exact IntWalk.u64_in n h
def fp:IntKind->Int×Int
 |.i8=>(-128,127)
 |.i16=>(-32768,32767)
 |.i32=>(-2147483648,2147483647)
 |.i64=>(-9223372036854775808,9223372036854775807)
 |.u8=>(0,255)
 |.u16=>(0,65535)
 |.u32=>(0,4294967295)
 |.u64=>(0,18446744073709551615)
theorem Y3 {k:IntKind}{n lo hi:Int}(hk:fp k=(lo,hi))(h1:lo<=n)(h2:n<=hi):gY k n:=by
 cases k<;>(simp only[fp,aag] at hk;obtain⟨rfl,rfl⟩:=hk;exact⟨h1,h2⟩)
section
variable {P:Program} {C:Ctx} {n:Nat} {env:Env} {H:Heap} {Q:aL->Env->Heap->Prop} {ops:Array Oper} {rest:List Oper}
variable {d:Nat} {t:TypeId} {p:String} {af:Array Edge} {g:Option (Nat×Bool)} {b:Bool} {av:AVal}
variable {x y:Operand} {tx ty:TypeId}
theorem Dy {k:IntKind}{m q:Int}(f:(w:Nat)->BitVec w->BitVec w->BitVec w)(f':Nat->Nat->Nat)
  (hff:∀a c,(f k.bits (BitVec.ofNat k.bits a) (BitVec.ofNat k.bits c)).toNat=f' (a%2^k.bits) (c%2^k.bits))
  (hlt:∀a c e,a<2^e->c<2^e->f' a c<2^e) (hm:0<=m) (hq:0<=q) (hm':gY k m) (hq':gY k q):
  k.wrap ((f k.bits (BitVec.ofInt k.bits m) (BitVec.ofInt k.bits q)).toNat:Int)=(f' m.toNat q.toNat:Nat):=by
 obtain⟨a,rfl⟩:=Int.eq_ofNat_of_zero_le hm;obtain⟨c,rfl⟩:=Int.eq_ofNat_of_zero_le hq;have h1:∀a:Nat,BitVec.ofInt k.bits (a:Int)=BitVec.ofNat k.bits a:=λa=>by simp
 rw[h1,h1,hff];have key:∀e,e<=k.bits->(∀z:Nat,z<2^e->gY k z)->a<2^e->c<2^e->
   k.wrap ((f' (a%2^k.bits) (c%2^k.bits):Nat):Int)=(f' a c:Nat):=by
  intro e he hz ha hc;have hle:2^e<=2^k.bits:=Nat.pow_le_pow_right a_ he;rw[Nat.mod_eq_of_lt a_,Nat.mod_eq_of_lt a_];exact iS (hz _ (hlt _ _ _ ha hc))
 simp only[B_];cases k<;>simp only[gY] at hm' hq'
 ·exact key 7 b_ (λz hz=>by simp only[gY];omega) a_ a_
 ·exact key 15 b_ (λz hz=>by simp only[gY];omega) a_ a_
 ·exact key 31 b_ (λz hz=>by simp only[gY];omega) a_ a_
 ·exact key 63 b_ (λz hz=>by simp only[gY];omega) a_ a_
 ·exact key 8 b_ (λz hz=>by simp only[gY];omega) a_ a_
 ·exact key 16 b_ (λz hz=>by simp only[gY];omega) a_ a_
 ·exact key 32 b_ (λz hz=>by simp only[gY];omega) a_ a_
 ·exact key 64 b_ (λz hz=>by simp only[gY];omega) a_ a_
def aW (x y:ω):Bool:=x==y
theorem ce {x y:ω}:aW x y=true↔x=y:=by simp[aW]
theorem kM {x y:ω}:aW x y=false↔x≠y:=by simp[aW]
theorem OY {x y:ω}:aW x y=(x==y):=rfl
attribute [irreducible] aW
def L9 (x y:ω):Bool:=Op.bytesLess x y
theorem OW {x y:ω}:L9 x y=Op.bytesLess x y:=rfl
attribute [irreducible] L9
def HE (op:BinOp)(x y:ω):Option AVal:=
 match op with
 |.eql=>some (.bool (aW x y))
 |.neq=>some (.bool (!(aW x y)))
 |.lss=>some (.bool (L9 x y))
 |.leq=>some (.bool (L9 x y||aW x y))
 |.gtr=>some (.bool (!(L9 x y||aW x y)))
 |.geq=>some (.bool (!L9 x y))
 |_=>none
def iP (env:Env)(dflt:Int):Option Operand->Option Int
 |none=>some dflt
 |some x=>match ah env x with
  |some (.int _ i)=>some i
  |_=>none
theorem BG {R:Seal}{ρ:Operand->Value}(hf:qU R env ρ){dflt i:Int}{lo:Option Operand}(hlo:iP env dflt lo=some i):
  (lo=none/\i=dflt)\/∃z k,lo=some z/\ρ z= .int k i:=by
 cases lo with
 |none=>simp only[iP,g_] at hlo;exact .inl ⟨rfl,hlo.symm⟩
 |some z=>
  simp only[iP] at hlo;split at hlo
  ·rename_i k j hz;simp only[g_] at hlo;subst hlo;exact .inr ⟨z,k,rfl,ap.1 (hf _ _ hz)⟩
  ·cases hlo
theorem za {P:Program}{R:Seal}{ρ:Operand->Value}(hf:qU R env ρ){isS:Bool}{len cap:Nat}{lo hi:Option Operand}{i j:Int}(hlo:iP env 0 lo=some i)(hhi:iP env len hi=some j)
  (h0:0<=i) (hij:i<=j) (hj:j<=cap) (_hlc:len<=cap) (w:World):
  (Instr.sliceBounds isS len cap (lo.map ρ) (hi.map ρ) none).run P w= .ok (i.toNat,j.toNat,cap) w:=by
 have hb:∀(k:IntKind) (u:Int) (y:Nat) (c:BoundsCode),0<=u->u<=y->(Instr.sliceBound (.int k u) y c).run P w= .ok u.toNat w:=by
  intro k u y c h1 h2;simp only[Instr.sliceBound,asIntOf,e_,h_,c_];rw[if_pos ⟨h1,h2⟩];rfl
 rcases BG hf hlo with⟨rfl,rfl⟩|⟨z,k,rfl,hz⟩<;>rcases BG hf hhi with⟨rfl,rfl⟩|⟨z',k',rfl,hz'⟩
 ·simp only[Instr.sliceBounds,Option.map_none,e_,h_,c_];simp
 ·simp only[Instr.sliceBounds,Option.map_none,aal,hz',e_,h_,c_];rw[hb k' j cap _ a_ hj];simp
 ·simp only[Instr.sliceBounds,Option.map_none,aal,hz,e_,h_,c_,Option.isSome_none,Bu,aaq];rw[hb k i len _ h0 hij];simp
 ·simp only[Instr.sliceBounds,Option.map_none,aal,hz,hz',e_,h_,c_,Option.isSome_none,Bu,aaq];rw[hb k' j cap _ a_ hj];simp only[c_];rw[hb k i j.toNat _ h0 a_];simp
end
end
section
open Go
def AVal.plain:AVal->Bool
 |.raw (.agg _)=>false
 |_=>true
theorem lK {R:Seal}{x:AVal}{vs:List Value}(h:bI R x vs)(hp:x.plain=true):cb R x.cells vs:=by
 have one:∀v,vs=[v]->bI R x [v]->cb R [x] vs:=by rintro v rfl hv;exact⟨v,[],rfl,hv,rfl⟩
 cases x with
 |agg cs=>exact h
 |bool c=>simp only[bI] at h;subst h;exact one _ rfl rfl
 |int k n=>simp only[bI] at h;subst h;exact one _ rfl rfl
 |str s=>simp only[bI] at h;subst h;exact one _ rfl rfl
 |raw y=> 
  have:vs=[y]:=by
   simp only[bI] at h;cases y<;>first|exact h|(simp[AVal.plain] at hp)
  subst this;exact one _ rfl h
 |list sz n f=>obtain⟨a,cap,e,h'⟩:=h;subst e;exact one _ rfl ⟨a,cap,rfl,h'⟩
 |rop cs off=>obtain⟨b,o,C,e,fz,h',r⟩:=h;subst h';exact one _ rfl ⟨b,o,C,e,fz,rfl,r⟩
 |tuple cs=>obtain⟨ws,e,h'⟩:=h;subst e;exact one _ rfl ⟨ws,rfl,h'⟩
 |iface t v=>obtain⟨w,e,h'⟩:=h;subst e;exact one _ rfl ⟨w,rfl,h'⟩
 |func fn l1 l2=>obtain⟨a,b,e,h'⟩:=h;subst e;exact one _ rfl ⟨a,b,rfl,h'⟩
 |own i y=>obtain⟨e,h'⟩:=h;subst e;exact one _ rfl ⟨rfl,h'⟩
theorem lA {R:Seal}{x:AVal}{v:Value}(h:bn R x v)(hp:x.plain=true):cb R x.cells v.cells.toList:=lK h.1 hp
theorem Ay {α:Type}{L:List α}{k s:Nat}(h:(L.take s).length=k):L.take k=L.take s:=by
 simp only[i_] at h
 by_cases hs:s<=L.length
 ·rw[Nat.min_eq_left hs] at h;rw[h]
 ·rw[Nat.min_eq_right a_] at h;rw[u_ a_,u_ a_]
def dR (R:Seal)(b o:Nat)(cs:List AVal):Prop:=∃C e fz,R b=some (.cells C e fz)/\cb R cs ((C.toList.drop o).take cs.length)
theorem ik {R:Seal}{cs:List AVal}{off b o:Nat}(ho:off<=o)(h:dR R b (o-off) cs):bn R (.rop cs off) (.pointer (some ⟨b,o,none⟩)):=by
 obtain⟨C,e,fz,hR,hl⟩:=h
 exact⟨⟨b,o,C,e,fz,rfl,ho,hR,hl⟩,rfl⟩
theorem iw {R:Seal}{cs:List AVal}{off:Nat}{v:Value}(h:bn R (.rop cs off) v):∃b o,v= .pointer (some ⟨b,o,none⟩)/\off<=o/\dR R b (o-off) cs:=by
 obtain⟨b,o,C,e,fz,hv,ho,hR,hl⟩:=bC h rfl;simp only[o_,and_true] at hv;exact⟨b,o,hv,ho,C,e,fz,hR,hl⟩
theorem dR.cell {R:Seal}{w:World}(hs:fh R w){b o i:Nat}{cs:List AVal}{av:AVal}(h:dR R b o cs)(hi:cs[i]? =some av):
  ∃v,w.cell? ⟨b,o+i,none⟩=some v/\bI R av [v]:=by
 obtain⟨C,e,fz,hR,hl⟩:=h;obtain⟨v,hv,hr⟩:=fy hl hi;refine⟨v,?_,hr⟩;have hlt:i<cs.length:=(List.getElem?_eq_some_iff.1 hi).1;rw[List.getElem?_take_of_lt hlt,List.getElem?_drop] at hv;simp only[World.cell?,hs b _ hR];simpa using hv
theorem iX {P:Program}[Tab P]{w:World}{b o:Nat}{v:Value}{T:TypeId}{x:TI}(ht:bj P T=some x)(ha:cv x.desc=false)(hc:w.cell? ⟨b,o,none⟩=some v):
  (loadVar T ⟨b,o,none⟩).run P w= .ok v w:=by
 simp only[loadVar,e_,dX ht,c_,ha,Bu,aaq,run_load,hc]
theorem pb {P:Program}[Tab P]{w:World}{b o:Nat}{C:Array Value}{e:TypeId}{fz:Nat×Nat}{T:TypeId}{x:TI}(ht:bj P T=some x)(ha:cv x.desc=true)
  (hb:w.heap[b]? =some (.cells C e fz)) (hl:o+x.size<=C.size):
  (loadVar T ⟨b,o,none⟩).run P w= .ok (.agg ((C.toList.drop o).take x.size).toArray) w:=by
 simp only[loadVar,e_,dX ht,c_,ha,aap,aM ht,loadCells];rw[jt hb o x.size 0 _ a_];simp
section
variable {P:Program} [Tab P] {C:Ctx} {n:Nat} {env:Env} {H:Heap} {Q:aL->Env->Heap->Prop} {ops:Array Oper} {rest:List Oper}
variable {eT:Option TypeId}
variable {d:Nat} {t:TypeId} {p:String} {af:Array Edge} {g:Option (Nat×Bool)} {b:Bool} {av:AVal}
variable {x y:Operand} {T:TypeId} {xT:TI}
def LN (G:Glo)(gl:Nat)(cs:List AVal):Prop:=∀R,G.p R->dR R gl 0 cs
theorem lB {R:Seal}{w:World}(hm:MS C R H w){i bl:Nat}{cs:List AVal}(hi:H[i]? =some (.cells bl eT cs)):
  ∃Cs e fz,w.heap[bl]? =some (.cells Cs e fz)/\cb R cs Cs.toList/\ow fz Cs.size/\∀t,eT=some t->e=t:=hm.heap.holds _ (q_ hi)
theorem fu {P:Program}{bl e:Nat}{fz:Nat×Nat}:∀(vs:List Value) (o i:Nat) (Cs:Array Value) (w:World),w.heap[bl]? =some (.cells Cs e fz)->o+i+vs.length<=Cs.size->ow fz Cs.size->
  (∀v∈vs,dc v=false/\∀a,v≠ .tuple a)->
  ∃w',(storeCells ⟨bl,o,none⟩ vs i).run P w= .ok () w'/\oj w bl (.cells (Cs.toList.take (o+i)++vs++Cs.toList.drop (o+i+vs.length)).toArray e fz) w'
 |[],o,i,Cs,w,hb,_,_,_=>⟨w,rfl,⟨rfl,rfl,rfl,rfl,by simpa using hb,λ_ _=>rfl⟩⟩
 |v::vs,o,i,Cs,w,hb,hl,hfz,hv=>by
  simp only[j_] at hl;have hlt:o+i<Cs.size:=by omega
  have hadd:(⟨bl,o,none⟩:Addr).add i=⟨bl,o+i,none⟩:=by
   simp only[Addr.add];by_cases h0:i=0
   ·simp[h0]
   ·simp[h0]
  have hcell:w.cell? ⟨bl,o+i,none⟩=some Cs[o+i]:=by simp[World.cell?,hb,hlt]
  have hfro:w.frozen? ⟨bl,o+i,none⟩=false:=by
   obtain⟨lo,hi⟩:=fz;simp only[World.frozen?,hb,ow] at hfz ⊢;simp;omega
  have hst:(store ⟨bl,o+i,none⟩ v).run P w= .ok () (w.setCell ⟨bl,o+i,none⟩ v):=by
   have:=hv v (by simp);cases v<;>first|(simp[store,Sem.run,hcell,hfro];done)|(simp[dc] at this;done)|(exact absurd rfl (this.2 _))
  have hw1:(w.setCell ⟨bl,o+i,none⟩ v).heap[bl]? =some (.cells (Cs.setIfInBounds (o+i) v) e fz):=by
   simp only[World.setCell,Array.getElem?_modify,aap,hb,aal,Option.isSome_none,Bu,aaq]
  obtain⟨w',hr,ho⟩:=fu (P:=P) vs o (i+1) _ _ hw1 (by simp;omega) (by simpa using hfz) (λu hu=>hv u (by simp[hu]));refine⟨w',?_,⟨ho.os,ho.tape,ho.output,?_,?_,?_⟩⟩
  ·simp only[storeCells,hadd,e_,hst,c_,hr]
  ·rw[ho.size];simp[World.setCell]
  ·rw[ho.at_];congr 2
   simp only[Array.toList_setIfInBounds,<-Nat.add_assoc];congr 1
   rw[List.drop_set_of_lt a_];rw[show o+i+1=(o+i)+1 by omega,List.take_add_one];rw[List.take_set_of_le (Nat.le_refl _)];simp[hlt,Nat.add_assoc,Nat.add_comm 1]
  ·intro k hk;rw[ho.other k hk];simp only[World.setCell,Array.getElem?_modify];rw[if_neg a_]
def AVal.cellOK:AVal->Bool
 |.agg _|.tuple _=>false
 |.raw (.agg _)|.raw (.tuple _)=>false
 |.own _ (.tuple _)=>false
 |_=>true
theorem Jw {R:Seal}{a:AVal}{v:Value}(h:bI R a [v])(ha:a.cellOK=true):dc v=false/\∀l,v≠ .tuple l:=by
 cases a<;>simp only[bI] at h
 case bool=>simp only[o_] at h;obtain⟨rfl,_⟩:=h;exact⟨rfl,λ_=>by simp⟩
 case int=>simp only[o_] at h;obtain⟨rfl,_⟩:=h;exact⟨rfl,λ_=>by simp⟩
 case str=>simp only[o_] at h;obtain⟨rfl,_⟩:=h;exact⟨rfl,λ_=>by simp⟩
 case raw x=>cases x<;>simp_all [Value.cells,dc,AVal.cellOK]
 case list=>obtain⟨_,_,h,_⟩:=h;simp only[o_] at h;obtain⟨rfl,_⟩:=h;exact⟨rfl,λ_=>by simp⟩
 case rop=>obtain⟨_,_,_,_,_,h,_⟩:=h;simp only[o_] at h;obtain⟨rfl,_⟩:=h;exact⟨rfl,λ_=>by simp⟩
 case agg=>simp[AVal.cellOK] at ha
 case tuple=>simp[AVal.cellOK] at ha
 case iface=>obtain⟨_,h,_⟩:=h;simp only[o_] at h;obtain⟨rfl,_⟩:=h;exact⟨rfl,λ_=>by simp⟩
 case func=>obtain⟨_,_,h,_⟩:=h;simp only[o_] at h;obtain⟨rfl,_⟩:=h;exact⟨rfl,λ_=>by simp⟩
 case own i x=>obtain⟨h,h2⟩:=h;simp only[o_] at h;obtain⟨rfl,_⟩:=h;exact⟨h2,λl e=>by subst e;simp[AVal.cellOK] at ha⟩
def ld:List AVal->Bool
 |[]=>true
 |c::cs=>c.cellOK&&ld cs
theorem oh {R:Seal}:∀{cs:List AVal} {vs:List Value},cb R cs vs->ld cs=true->∀v∈vs,dc v=false/\∀l,v≠ .tuple l
 |[],_,h,_=>by simp only[cb] at h;subst h;simp
 |c::cs,_,h,ho=>by
  obtain⟨v,t,rfl,hv,h⟩:=h
  simp only[ld,l_] at ho;intro u hu;rcases List.mem_cons.1 hu with rfl|hu
  ·exact Jw hv ho.1
  ·exact oh h ho.2 u hu
theorem og {o:Oper}{H':Heap}{b:Bool}(hg:aQ ops env o.guard=some (b,b))(hd:o.dst=none)
  (hx:∀R ρ w,MS C R H w->qU R env ρ->∃w' R',(execOp ρ o).run P w= .ok .skip w'/\R.le R'/\MS C R' H' w')
  (h:au P C n ops rest env H' Q):au P C n ops (o::rest) env H Q:=by
 intro R a w hm hf;refine wpList_step λK hK=> ?_;rw[cE hf hg,if_pos (by simp)];obtain⟨w',R',hr,hR,hm'⟩:=hx R a.eval w hm (λx av h=>hf.eval h);rw[Oper.wp,hr,Oper.upon_skip,hd];exact hK _ _ (h R' _ w' hm' (hf.mono hR))
theorem X6 (hg:aQ ops env g=some (b,b))(hdn:Nat.ble (d+1) n=true)(hx:ah env x=some av)(hp:av.plain=true)
  (h:∀bl:Nat,au P C n ops rest ((d,.raw (.pointer (some ⟨bl,0,none⟩)))::env) (.cells bl (some T) av.cells::H) Q):
  au P C n ops ({dst:=some d,op:=.box T x,type:=t,pos:=p,after:=af,guard:=g}::rest) env H Q:=by
 refine gR (av:=λbl:Nat=>.raw (.pointer (some ⟨bl,0,none⟩))) (H':=λbl=>.cells bl (some T) av.cells::H) hg rfl hdn (λR ρ w hm hf=> ?_) h;refine⟨w.heap.size,_,grow w (.cells (ρ x).cells T),R,rfl,Seal.le_refl R,aq.2 rfl,hm.alloc _ _ rfl ⟨_,_,_,gn w _,?_,.inl (Nat.le_refl _),λt ht=>Option.some.inj ht⟩⟩;exact lA (hf _ _ hx) hp
theorem Ai (hg:aQ ops env g=some (b,b))(hdn:Nat.ble (d+1) n=true)(hx:ah env x=some av)(hp:av.plain=true)
  (h:au P C n ops rest ((d,.rop av.cells 0)::env) H Q):
  au P C n ops ({dst:=some d,op:=.box T x,type:=t,pos:=p,after:=af,guard:=g}::rest) env H Q:=by
 refine uz hg rfl hdn (λR ρ w hm hf=> ?_) h;have hle:=Seal.put_le (o:=Obj.cells (ρ x).cells T) hm.seal_free;refine⟨_,grow w (.cells (ρ x).cells T),R.put w.heap.size (.cells (ρ x).cells T),rfl,hle,ik (Nat.le_refl _) ⟨_,_,_,Seal.put_at _ _ _,?_⟩,hm.alloc_sealed _⟩;have:=lA (hf _ _ hx) hp;have hl:=aJ this;rw[Nat.sub_self,aa_,u_ a_];exact ec hle _ _ this
def bK:Option Value->Option (List AVal)
 |some (.agg cs)=>match cs.toList.all λv=> !dc v with
  |true=>some (cs.toList.map KB)
  |false=>none
 |some v=>some [KB v]
 |none=>none
theorem ET (R:Seal){v:Value}(hv:dc v=false):bI R (KB v) [v]:=by
 have:=vN R v
 exact bC this (by rw[this.2];exact hv)
theorem xy (R:Seal):∀{vs:List Value},(∀v∈vs,dc v=false)->cb R (vs.map KB) vs
 |[],_=>rfl
 |v::vs,h=>⟨v,vs,rfl,ET R (h v (by simp)),xy R (λu hu=>h u (by simp[hu]))⟩
theorem dp {R:Seal}{z:Option Value}{cs:List AVal}(h:bK z=some cs):∃v,z=some v/\cb R cs v.cells.toList:=by
 cases z with
 |none=>simp[bK] at h
 |some v=>
  refine⟨v,rfl,?_⟩;cases v<;>simp only[bK,g_] at h
  case agg l=>
   split at h
   ·rename_i hall;simp only[g_] at h
    subst h
    exact xy R (λv hv=>by have:=List.all_eq_true.1 hall v hv;simpa using this)
   ·cases h
  all_goals (subst h;exact⟨_,[],rfl,ET R rfl,rfl⟩)
theorem R6 {cs:List AVal}(hg:aQ ops env g=some (b,b))(hdn:Nat.ble (d+1) n=true)(h1:bj P T=some xT)(h2:bK xT.zero=some cs)
  (h:∀bl:Nat,au P C n ops rest ((d,.raw (.pointer (some ⟨bl,0,none⟩)))::env) (.cells bl (some T) cs::H) Q):
  au P C n ops ({dst:=some d,op:=.alloc T,type:=t,pos:=p,after:=af,guard:=g}::rest) env H Q:=by
 refine gR (av:=λbl:Nat=>.raw (.pointer (some ⟨bl,0,none⟩))) (H':=λbl=>.cells bl (some T) cs::H) hg rfl hdn (λR ρ w hm hf=> ?_) h;obtain⟨v,hv,hr⟩:=dp (R:=R) h2;refine⟨w.heap.size,_,grow w (.cells v.cells T),R,?_,Seal.le_refl R,aq.2 rfl,hm.alloc _ _ rfl ⟨_,_,_,gn w _,hr,.inl (Nat.le_refl _),λt ht=>Option.some.inj ht⟩⟩;simp only[execOp,Instr.alloc,e_,dT h1 hv,c_];rfl
def YJ (cs new:List AVal)(off:Nat):List AVal:=cs.take off++new++cs.drop (off+new.length)
theorem Bm (new:List Value):∀(off j:Nat) (cs:Array Value),off+j+new.length<=cs.size->
  ((new.zipIdx j).foldl (λcs (x:Value×Nat)=>cs.setIfInBounds (off+x.2) x.1) cs).toList=cs.toList.take (off+j)++new++cs.toList.drop (off+j+new.length):=by
 induction new with
 |nil=>intro off j cs h;simp
 |cons v new ih=>
  intro off j cs h;simp only[j_] at h;rw[List.zipIdx_cons,List.foldl_cons,ih off (j+1) _ (by simp;omega)]
  simp only[Array.toList_setIfInBounds,j_,<-Nat.add_assoc]
  rw[List.drop_set_of_lt a_,List.take_add_one,List.take_set_of_le (Nat.le_refl _)]
  have:off+j<cs.size:=by omega
  simp[this,Nat.add_assoc,Nat.add_comm 1]
def nP (P:Program)[Tab P]:List Field->Option (List (Nat×Nat))
 |[]=>some []
 |f::fs=>match bj P f.type,nP P fs with
  |some x,some r=>some ((f.offset,x.size)::r)
  |_,_=>none
def qQ (pl:List (Nat×Nat))(cs:List AVal):List (Nat×AVal)->Option (List AVal)
 |[]=>some cs
 |(i,v)::r=>match pl[i]? with
  |some (off,size)=>match Nat.beq v.cells.length size&&Nat.ble (off+v.cells.length) cs.length&&v.plain with
   |true=>qQ pl (YJ cs v.cells off) r
   |false=>none
  |none=>none
def nw (R:Seal):List (Nat×AVal)->List (Nat×Value)->Prop
 |[],vs=>vs=[]
 |a::ps,vs=>∃v t,vs=v::t/\(a.1=v.1/\bn R a.2 v.2)/\nw R ps t
theorem nn {R:Seal}{pl:List (Nat×Nat)}{place:Nat->Option (Nat×Nat)}(hpl:∀(i:Nat) (x:Nat×Nat),pl[i]? =some x->place i=some x):∀{ps:List (Nat×AVal)} {vs:List (Nat×Value)} {cs cs':List AVal} {Cs:Array Value},
  nw R ps vs->cb R cs Cs.toList->qQ pl cs ps=some cs'->∃Cs',Instr.fill place Cs vs=some Cs'/\cb R cs' Cs'.toList
 |[],_,cs,cs',Cs,hp,hl,h=>by
  simp only[nw] at hp;subst hp;simp only[qQ,g_] at h;subst h;exact⟨Cs,rfl,hl⟩
 |(i,a)::ps,_,cs,cs',Cs,hp,hl,h=>by
  obtain⟨v,vs,rfl,h1,hp⟩:=hp
  obtain⟨i',v⟩:=v
  obtain⟨e,hr⟩:=h1
  simp only at e hr
  subst e
  simp only[qQ] at h
  split at h
  ·rename_i off size hi
   split at h
   ·rename_i hc
    simp only[l_] at hc
    have h1:=m_ hc.1.1
    have h2:=v_ hc.1.2
    have hv:=lA hr hc.2
    have hvl:=aJ hv
    have hll:=aJ hl
    simp only[r_] at hvl hll
    have hf:(v.cells.zipIdx.foldl (λcs (x:Value×Nat)=>cs.setIfInBounds (off+x.2) x.1) Cs).toList=Cs.toList.take off++v.cells.toList++Cs.toList.drop (off+v.cells.toList.length):=by
     have:=Bm v.cells.toList off 0 Cs (by simp;omega)
     rw[<-Array.foldl_toList,Array.toList_zipIdx]
     simpa using this
    obtain⟨Cs',hC,hrC⟩:=nn hpl hp (Cs:=v.cells.zipIdx.foldl (λcs (x:Value×Nat)=>cs.setIfInBounds (off+x.2) x.1) Cs) (by
     rw[hf]
     have e:v.cells.toList.length=a.cells.length:=by simpa using hvl
     rw[e]
     exact cp (cp (di off hl) hv) (dz _ hl)) h
    refine⟨Cs',?_,hrC⟩
    simp only[Instr.fill,hpl i _ hi]
    rw[if_neg (by simp only[Wk,n_,not_or];omega)]
    exact hC
   ·cases h
  ·cases h
theorem oV {P:Program}[Tab P]{w:World}:∀{fs:List Field} {pl:List (Nat×Nat)},nP P fs=some pl->
  (fs.mapM (λf=>do pure (f.offset,<-sizeOf f.type):Field->Sem (Nat×Nat))).run P w= .ok pl w
 |[],pl,h=>by simp only[nP,g_] at h;subst h;rfl
 |f::fs,pl,h=>by
  simp only[nP] at h;split at h
  ·rename_i x r hx hr;simp only[g_] at h;subst h;simp only[List.mapM_cons,e_,aM hx,c_,h_,oV hr]
  ·cases h
def jr (env:Env):List (Nat×Operand)->Option (List (Nat×AVal))
 |[]=>some []
 |(i,x)::t=>match ah env x,jr env t with
  |some v,some r=>some ((i,v)::r)
  |_,_=>none
theorem jS {R:Seal}{ρ:Operand->Value}(hf:qU R env ρ):∀{l:List (Nat×Operand)} {ps:List (Nat×AVal)},jr env l=some ps->
  nw R ps (l.map λx=>(x.1,ρ x.2))
 |[],ps,h=>by simp only[jr,g_] at h;subst h;rfl
 |(i,x)::t,ps,h=>by
  simp only[jr] at h;split at h
  ·rename_i v r hv hr;simp only[g_] at h;subst h;exact⟨_,_,rfl,⟨rfl,hf x v hv⟩,jS hf hr⟩
  ·cases h
end
end
end Go.Proofs.YtgpjhbhdbjdlgaaGreatDoor
