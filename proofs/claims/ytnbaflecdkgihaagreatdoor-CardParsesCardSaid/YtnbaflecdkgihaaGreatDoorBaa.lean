/- Parts of the proof of cardParses_card. -/
import Derived.KernelRfl
import Derived.WalkKit
import Derived.Below
import Derived.Deep.LoopGhost
import Derived.LoopN
import Derived.Test.YtnbaflecdkgihaaGreatDoorProg
import GoSem.Core.Utf8
import Derived.Laws.Strings
set_option linter.unusedVariables false
set_option linter.unusedSimpArgs false
set_option linter.unusedSectionVars false
namespace Go.Proofs
open Go
theorem a_{p:Prop}(h:p:=by omega):p:=h
theorem b_{p:Prop}(h:p:=by decide):p:=h
theorem be{p:Prop}(h:p:=by kernel_rfl):p:=h
theorem c_:type_of% @Result.andThen_ok:=@Result.andThen_ok
theorem d_:type_of% @List.length_append:=@List.length_append
theorem e_:type_of% @Sem.run_bind:=@Sem.run_bind
theorem f_:type_of% @List.getD_eq_getElem?_getD:=@List.getD_eq_getElem?_getD
theorem g_:type_of% @Option.some.injEq:=@Option.some.injEq
theorem h_:type_of% @Sem.run_pure:=@Sem.run_pure
theorem i_:type_of% @List.length_take:=@List.length_take
theorem j_:type_of% @List.length_cons:=@List.length_cons
theorem k_:type_of% @List.length_drop:=@List.length_drop
theorem l_:type_of% @Bool.and_eq_true:=@Bool.and_eq_true
theorem m_:type_of% @Nat.eq_of_beq_eq_true:=@Nat.eq_of_beq_eq_true
theorem n_:type_of% @decide_eq_true_eq:=@decide_eq_true_eq
theorem o_:type_of% @List.cons.injEq:=@List.cons.injEq
theorem p_:type_of% @List.mem_cons:=@List.mem_cons
theorem q_:type_of% @List.mem_of_getElem?:=@List.mem_of_getElem?
theorem r_:type_of% @Array.length_toList:=@Array.length_toList
theorem s_:type_of% @List.eq_nil_of_length_eq_zero:=@List.eq_nil_of_length_eq_zero
theorem t_:type_of% @List.not_mem_nil:=@List.not_mem_nil
theorem u_:type_of% @List.take_of_length_le:=@List.take_of_length_le
theorem v_:type_of% @Nat.le_of_ble_eq_true:=@Nat.le_of_ble_eq_true
theorem w_:type_of% @Bool.eq_iff_iff:=@Bool.eq_iff_iff
theorem x_:type_of% @List.take_succ_eq_append_getElem:=@List.take_succ_eq_append_getElem
theorem y_:type_of% @List.getElem?_eq_getElem:=@List.getElem?_eq_getElem
theorem z_:type_of% @List.mem_cons_self:=@List.mem_cons_self
theorem A_:type_of% @List.drop_eq_getElem_cons:=@List.drop_eq_getElem_cons
theorem An:type_of% @List.append_assoc:=@List.append_assoc
theorem At:type_of% @List.Sublist.refl:=@List.Sublist.refl
theorem B_:type_of% @Int.toNat_natCast:=@Int.toNat_natCast
theorem Bu:type_of% @Bool.false_eq_true:=@Bool.false_eq_true
theorem Bw:type_of% @List.all_eq_true:=@List.all_eq_true
theorem C_:type_of% @List.length_map:=@List.length_map
theorem D_:type_of% @List.getElem_of_mem:=@List.getElem_of_mem
theorem Dc:type_of% @List.append_nil:=@List.append_nil
theorem E_:type_of% @List.length_nil:=@List.length_nil
theorem F_:type_of% @List.length_set:=@List.length_set
theorem G_:type_of% @List.getElem?_append_right:=@List.getElem?_append_right
theorem H_:type_of% @List.getElem?_append_left:=@List.getElem?_append_left
theorem I_:type_of% @List.getElem?_cons_zero:=@List.getElem?_cons_zero
theorem J_:type_of% @List.getElem?_cons_succ:=@List.getElem?_cons_succ
theorem K_:type_of% @List.getElem_mem:=@List.getElem_mem
theorem L_:type_of% @List.nil_append:=@List.nil_append
theorem Lu:type_of% @List.cons_append:=@List.cons_append
theorem M_:type_of% @List.getElem?_set_ne:=@List.getElem?_set_ne
theorem Mp:type_of% @List.perm_append_comm:=@List.perm_append_comm
theorem N_:type_of% @List.Perm.refl:=@List.Perm.refl
theorem Nm:type_of% @List.map_append:=@List.map_append
theorem O_:type_of% @List.flatMap_cons:=@List.flatMap_cons
theorem P_:type_of% @List.getElem?_eq_none:=@List.getElem?_eq_none
theorem Q_:type_of% @List.drop_drop:=@List.drop_drop
theorem R_:type_of% @List.take_take:=@List.take_take
theorem Rf:type_of% @List.length_singleton:=@List.length_singleton
theorem S_:type_of% @List.map_cons:=@List.map_cons
theorem T_:type_of% @Nat.add_sub_cancel_left:=@Nat.add_sub_cancel_left
theorem U_:type_of% @Nat.succ_mul:=@Nat.succ_mul
theorem Uf:type_of% @Nat.not_lt_zero:=@Nat.not_lt_zero
theorem Ug:type_of% @List.nil_sublist:=@List.nil_sublist
theorem V_:type_of% @List.Sublist.cons_cons:=@List.Sublist.cons_cons
theorem Vr:type_of% @Bool.and_eq_false_iff:=@Bool.and_eq_false_iff
theorem W_:type_of% @Bool.not_eq_true:=@Bool.not_eq_true
theorem Wk:type_of% @Bool.or_eq_true:=@Bool.or_eq_true
theorem Wm:type_of% @List.getElem?_toArray:=@List.getElem?_toArray
theorem X_:type_of% @List.map_toArray:=@List.map_toArray
theorem Y_:type_of% @List.size_toArray:=@List.size_toArray
theorem YN:type_of% @List.map_nil:=@List.map_nil
theorem YO:type_of% @List.drop_zero:=@List.drop_zero
theorem YP:type_of% @List.take_zero:=@List.take_zero
theorem YQ:type_of% @List.drop_succ_cons:=@List.drop_succ_cons
theorem YR:type_of% @List.take_succ_cons:=@List.take_succ_cons
theorem YS:type_of% @beq_iff_eq:=@beq_iff_eq
theorem YT:type_of% @Bool.true_and:=@Bool.true_and
theorem YU:type_of% @decide_eq_false_iff_not:=@decide_eq_false_iff_not
theorem YV:type_of% @Prod.mk.injEq:=@Prod.mk.injEq
theorem YW:type_of% @Nat.mul_le_mul_right:=@Nat.mul_le_mul_right
theorem YX:type_of% @Nat.le_trans:=@Nat.le_trans
theorem YY:type_of% @Nat.lt_or_ge:=@Nat.lt_or_ge
theorem YZ:type_of% @Option.map_some:=@Option.map_some
theorem Z_:type_of% @Option.getD_some:=@Option.getD_some
theorem Za:type_of% @ne_eq:=@ne_eq
theorem Zb:type_of% @not_true_eq_false:=@not_true_eq_false
theorem Zc:type_of% @if_true:=@if_true
theorem Zd:type_of% @if_false:=@if_false
end Go.Proofs
namespace Go.Proofs.YtnbaflecdkgihaaGreatDoor
open Tryz
set_option maxRecDepth 20000
set_option maxHeartbeats 4000000
section
open Go
inductive AVal where
 |bool (b:Bool)
 |int (k:IntKind) (n:Int)
 |str (s:List UInt8)
 |raw (v:Value)
 |list (sz n:Nat) (f:Nat->AVal)
 |rop (cs:List AVal) (off:Nat)
 |agg (cs:List AVal)
 |tuple (cs:List AVal)
 |iface (t:TypeId) (v:AVal)
 |func (fn:Fn) (first captured:List AVal)
 |own (i:Nat) (v:Value)
def AVal.isAgg:AVal->Bool
 |.agg _=>true
 |.raw (.agg _)=>true
 |_=>false
def dc:Value->Bool
 |.agg _=>true
 |_=>false
def AVal.cells:AVal->List AVal
 |.agg cs=>cs
 |v=>[v]
abbrev Seal:=Nat->Option Obj
mutual
def bJ (R:Seal):AVal->List Value->Prop
 |.bool b,vs=>vs=[.bool b]
 |.int k n,vs=>vs=[.int k n]
 |.str s,vs=>vs=[.string ⟨s.toArray⟩]
 |.raw x,vs=>vs=x.cells.toList
 | .list sz n f,vs=>∃a cap,vs=[.slice a n cap]/\n<=cap/\(n=0\/∃b o C e fz,a=some ⟨b,o,none⟩/\R b=some (.cells C e fz)/\
   ∀i,i<n->bJ R (f i) ((C.toList.drop (o+i*sz)).take sz))
 | .rop cs off,vs=>∃b o C e fz,vs=[.pointer (some ⟨b,o,none⟩)]/\off<=o/\R b=some (.cells C e fz)/\
   bX R cs ((C.toList.drop (o-off)).take cs.length)
 |.agg cs,vs=>bX R cs vs
 |.tuple cs,vs=>∃ws,vs=[.tuple ws]/\dO R cs ws.toList
 |.iface t v,vs=>∃w,vs=[.iface t w]/\bJ R v w.cells.toList/\v.isAgg=dc w
 |.func fn l1 l2,vs=>∃a b,vs=[.func fn a b]/\dO R l1 a.toList/\dO R l2 b.toList
 |.own _ x,vs=>vs=[x]/\dc x=false
def bX (R:Seal):List AVal->List Value->Prop
 |[],vs=>vs=[]
 |c::cs,vs=>∃v t,vs=v::t/\bJ R c [v]/\bX R cs t
def dO (R:Seal):List AVal->List Value->Prop
 |[],vs=>vs=[]
 |c::cs,vs=>∃v t,vs=v::t/\(bJ R c v.cells.toList/\c.isAgg=dc v)/\dO R cs t
end
def bx (R:Seal)(a:AVal)(v:Value):Prop:=bJ R a v.cells.toList/\a.isAgg=dc v
def Seal.le (R R':Seal):Prop:=∀b o,R b=some o->R' b=some o
theorem Seal.le_refl (R:Seal):R.le R:=λ_ _ h=>h
theorem Seal.le_trans {R R' R'':Seal}(h:R.le R')(k:R'.le R''):R.le R'':=λb o x=>k b o (h b o x)
mutual
theorem mP {R R':Seal}(h:R.le R'):∀(a:AVal) (vs:List Value),bJ R a vs->bJ R' a vs
 |.bool _,_,x=>x
 |.int _ _,_,x=>x
 |.str _,_,x=>x
 |.raw _,_,x=>x
 |.list sz n f,vs,x=>by
  obtain⟨a,cap,e,hle,y⟩:=x;refine⟨a,cap,e,hle,?_⟩;rcases y with y|⟨b,o,C,el,fz,ha,hR,hi⟩
  ·exact .inl y
  ·exact .inr ⟨b,o,C,el,fz,ha,h _ _ hR,λi hn=>mP h (f i) _ (hi i hn)⟩
 |.rop cs off,vs,x=>by
  obtain⟨b,o,C,e,fz,hv,ho,hR,hl⟩:=x;exact⟨b,o,C,e,fz,hv,ho,h _ _ hR,dZ h cs _ hl⟩
 |.agg cs,vs,x=>dZ h cs vs x
 |.tuple cs,vs,x=>by
  obtain⟨ws,e,y⟩:=x;exact⟨ws,e,pG h cs _ y⟩
 |.iface t v,vs,x=>by
  obtain⟨w,e,y,z⟩:=x;exact⟨w,e,mP h v _ y,z⟩
 |.func fn l1 l2,vs,x=>by
  obtain⟨a,b,e,y,z⟩:=x;exact⟨a,b,e,pG h l1 _ y,pG h l2 _ z⟩
 |.own _ _,_,x=>x
theorem dZ {R R':Seal}(h:R.le R'):∀(a:List AVal) (vs:List Value),bX R a vs->bX R' a vs
 |[],_,x=>x
 |c::cs,_,x=>by
  obtain⟨v,t,e,y,z⟩:=x;exact⟨v,t,e,mP h c _ y,dZ h cs _ z⟩
theorem pG {R R':Seal}(h:R.le R'):∀(a:List AVal) (vs:List Value),dO R a vs->dO R' a vs
 |[],_,x=>x
 |c::cs,_,x=>by
  obtain⟨v,t,e,y,z⟩:=x;exact⟨v,t,e,⟨mP h c _ y.1,y.2⟩,pG h cs _ z⟩
end
theorem fm {R R':Seal}(h:R.le R'){a:AVal}{v:Value}(x:bx R a v):bx R' a v:=⟨mP h a _ x.1,x.2⟩
theorem bE {R:Seal}{a:AVal}{v:Value}(x:bx R a v)(ha:a.isAgg=false):bJ R a [v]:=by
 obtain⟨x,y⟩:=x
 rw[ha] at y;cases v<;>first|exact x|(simp[dc] at y)
theorem wJ {R:Seal}{a:AVal}{v:Value}(x:bJ R a [v])(ha:a.isAgg=false)(hv:dc v=false):bx R a v:=by
 refine⟨?_,by rw[ha,hv]⟩;cases v<;>first|exact x|(simp[dc] at hv)
theorem aO {R:Seal}{b:Bool}{v:Value}:bx R (.bool b) v↔v= .bool b:=by
 constructor
 ·intro x;have:=bE x rfl;simpa[bJ] using this
 ·rintro rfl;exact⟨rfl,rfl⟩
theorem aq {R:Seal}{k:IntKind}{n:Int}{v:Value}:bx R (.int k n) v↔v= .int k n:=by
 constructor
 ·intro x;have:=bE x rfl;simpa[bJ] using this
 ·rintro rfl;exact⟨rfl,rfl⟩
theorem aD {R:Seal}{s:List UInt8}{v:Value}:bx R (.str s) v↔v= .string ⟨s.toArray⟩:=by
 constructor
 ·intro x;have:=bE x rfl;simpa[bJ] using this
 ·rintro rfl;exact⟨rfl,rfl⟩
theorem ar {R:Seal}{x v:Value}:bx R (.raw x) v↔v=x:=by
 constructor
 ·rintro⟨h,k⟩
  cases v<;>cases x<;>simp_all [bJ,AVal.isAgg,dc,Value.cells]
 ·rintro rfl;exact⟨rfl,by cases v<;>rfl⟩
theorem aG {R:Seal}{i:Nat}{x v:Value}:bx R (.own i x) v↔v=x/\dc x=false:=by
 constructor
 ·intro h;have:=bE h rfl;simp only[bJ,o_,and_true] at this;exact this
 ·rintro⟨rfl,h⟩;refine⟨?_,h.symm⟩;cases v<;>first|exact⟨rfl,rfl⟩|(simp[dc] at h)
def byteA (c:UInt8):AVal:=.int .u8 (c.toNat:Int)
def gg (s:List UInt8)(cap:Nat):List AVal:=s.map byteA++List.replicate (cap-s.length) (.int .u8 0)
def eZ (R:Seal)(w:World):Prop:=∀b o,R b=some o->w.heap[b]? =some o
def n8 (fz:Nat×Nat)(n:Nat):Prop:=fz.2<=fz.1\/n<=fz.1
def mA (R:Seal):List (AVal×AVal)->List MapEntry->Prop
 |[],es=>es=[]
 |a::l,es=>∃e t,es=e::t/\(bx R a.1 e.key/\bx R a.2 e.val)/\mA R l t
theorem uu {R R':Seal}(h:R.le R'):∀(l:List (AVal×AVal)) (es:List MapEntry),mA R l es->mA R' l es
 |[],_,x=>x
 |a::l,_,x=>by
  obtain⟨e,t,q,y,z⟩:=x;exact⟨e,t,q,⟨fm h y.1,fm h y.2⟩,uu h l _ z⟩
inductive HEnt where
 |cells (b:Nat) (e:Option TypeId) (cs:List AVal)
 |row (v:Value) (e:Option TypeId) (sz n:Nat) (cs:List AVal)
 |iter (b:Nat) (s:List UInt8) (pos:Nat)
 |buf (b:Nat) (s:List UInt8) (cap:Nat)
 |mp (b:Nat) (es:List (AVal×AVal))
 |obj (b:Nat) (o:Obj)
def HEnt.blk:HEnt->Option Nat
 |.cells b _ _=>some b
 |.row (.slice (some a) _ _) _ _ _ _=>some a.block
 |.row _ _ _ _ _=>none
 |.iter b _ _=>some b
 |.buf b _ _=>some b
 |.mp b _=>some b
 |.obj b _=>some b
def HEnt.holds (R:Seal)(w:World):HEnt->Prop
 |.cells b eT cs=>∃C e fz,w.heap[b]? =some (.cells C e fz)/\bX R cs C.toList/\n8 fz C.size/\∀t,eT=some t->e=t
 | .row v eT sz n cs=>cs.length=n*sz/\((v= .slice none 0 0/\n=0)\/
   ∃b cap C e fz,v= .slice (some ⟨b,0,none⟩) n cap/\w.heap[b]? =some (.cells C e fz)/\C.size=cap*sz/\n<=cap/\
    bX R cs (C.toList.take (n*sz))/\n8 fz C.size/\∀t,eT=some t->e=t)
 |.iter b s pos=>w.heap[b]? =some (.stringIter ⟨s.toArray⟩ pos)
 |.buf b s cap=>s.length<=cap/\∃C e fz,w.heap[b]? =some (.cells C e fz)/\bX R (gg s cap) C.toList/\n8 fz C.size
 |.mp b es=>∃E cl,w.heap[b]? =some (.map E cl)/\mA R es E.toList
 |.obj b o=>w.heap[b]? =some o
abbrev Heap:=List HEnt
structure C4 (R:Seal) (w:World) (H:Heap):Prop where
 holds:∀h∈H,h.holds R w
 nodup:(H.filterMap HEnt.blk).Nodup
 apart:∀h∈H,∀b,h.blk=some b->R b=none
theorem HEnt.holds_mono {R R':Seal}{w w':World}{h:HEnt}(x:h.holds R w)(hR:R.le R')
  (hw:∀b,h.blk=some b->w'.heap[b]? =w.heap[b]?):h.holds R' w':=by
 cases h with
 |cells b eT cs=>
  obtain⟨C,e,fz,hb,hl,hf⟩:=x;exact⟨C,e,fz,by rw[hw b rfl];exact hb,dZ hR _ _ hl,hf⟩
 |row v eT sz n cs=>
  obtain⟨hlen,y⟩:=x;refine⟨hlen,?_⟩
  rcases y with y|⟨b,cap,C,e,fz,rfl,hb,hs,hn,hl,hf⟩
  ·exact .inl y
  ·exact .inr ⟨b,cap,C,e,fz,rfl,by rw[hw b rfl];exact hb,hs,hn,dZ hR _ _ hl,hf⟩
 |iter b s pos=>simp only[HEnt.holds] at*;rw[hw b rfl];exact x
 |buf b s cap=>
  obtain⟨hc,C,e,fz,hb,hl,hf⟩:=x
  exact⟨hc,C,e,fz,by rw[hw b rfl];exact hb,dZ hR _ _ hl,hf⟩
 |mp b es=>
  obtain⟨E,cl,hb,hl⟩:=x
  exact⟨E,cl,by rw[hw b rfl];exact hb,uu hR _ _ hl⟩
 |obj b o=>simp only[HEnt.holds] at*;rw[hw b rfl];exact x
theorem HEnt.blk_lt {R:Seal}{w:World}{h:HEnt}(x:h.holds R w){b:Nat}(hb:h.blk=some b):b<w.heap.size:=by
 have key:∀(o:Obj),w.heap[b]? =some o->b<w.heap.size:=by
  intro o ho;rcases YY b w.heap.size with h|h
  ·exact h
  ·simp[Array.getElem?_eq_none h] at ho
 cases h with
 |cells b' eT cs=>
  obtain⟨C,e,fz,hb',_⟩:=x;simp only[HEnt.blk,g_] at hb;subst hb;exact key _ hb'
 |row v eT sz n cs=>
  obtain⟨_,y⟩:=x;rcases y with⟨rfl,_⟩|⟨b',cap,C,e,fz,rfl,hb',_⟩
  ·simp[HEnt.blk] at hb
  ·simp only[HEnt.blk,g_] at hb;subst hb;exact key _ hb'
 |iter b' s pos=>
  simp only[HEnt.blk,g_] at hb;subst hb;exact key _ x
 |buf b' s cap=>
  obtain⟨_,C,e,fz,hb',_⟩:=x;simp only[HEnt.blk,g_] at hb;subst hb;exact key _ hb'
 |mp b' es=>
  obtain⟨E,cl,hb',_⟩:=x;simp only[HEnt.blk,g_] at hb;subst hb;exact key _ hb'
 |obj b' o=>
  simp only[HEnt.blk,g_] at hb;subst hb;exact key _ x
structure Glo where
 p:Seal->Prop
 mono:∀R R':Seal,R.le R'->p R->p R'
structure Ctx where
 w0:World
 R0:Seal
 B0:List Nat
 G:Glo
 hG:G.p R0
 D:List Deferred
structure MT (w0:World) (B0:List Nat) (w:World):Prop where
 os:w.os=w0.os
 tape:w.tape=w0.tape
 output:w.output=w0.output
 size:w0.heap.size<=w.heap.size
 block:∀b,b<w0.heap.size->b∉B0->w.heap[b]? =w0.heap[b]?
theorem MT.refl (w:World)(B:List Nat):MT w B w:=⟨rfl,rfl,rfl,Nat.le_refl _,λ_ _ _=>rfl⟩
structure MS (C:Ctx) (R:Seal) (H:Heap) (w:World):Prop where
 sealed:eZ R w
 ge:C.R0.le R
 fresh:∀b,R b≠none->C.R0 b≠none\/C.w0.heap.size<=b\/b∈C.B0
 heap:C4 R w H
 own:∀h∈H,∀b,h.blk=some b->C.w0.heap.size<=b\/b∈C.B0
 ext:MT C.w0 C.B0 w
abbrev Env:=List (Nat×AVal)
def Env.get:Env->Nat->Option AVal
 |[],_=>none
 |(k,v)::t,n=>match Nat.beq k n with
  |true=>some v
  |false=>Env.get t n
structure FS (D:List Deferred) (n:Nat) (R:Seal) (env:Env) (a:Act):Prop where
 fr:∀k v,Env.get env k=some v->∃x,a.tmps[k]? =some x/\bx R v x
 size:a.tmps.size=n
 defers:a.defers=D
theorem FS.mono {D:List Deferred}{n:Nat}{R R':Seal}{env:Env}{a:Act}(h:FS D n R env a)(hR:R.le R'):FS D n R' env a:=
 ⟨λk v x=>let ⟨y,hy,hr⟩:=h.fr k v x;⟨y,hy,fm hR hr⟩,h.size,h.defers⟩
theorem FS.put {D:List Deferred}{n:Nat}{R:Seal}{env:Env}{a:Act}(h:FS D n R env a){d:Nat}(hd:Nat.ble (d+1) n=true){av:AVal}{v:Value}(hv:bx R av v):
  FS D n R ((d,av)::env) (a.put (some d) v):=by
 have hd:d<n:=by have:=v_ hd;omega
 refine⟨λk x hk=> ?_,by simp[Act.put,h.size],h.defers⟩;simp only[Env.get] at hk;by_cases e:d=k
 ·subst e;rw[Nat.beq_refl] at hk;simp only[g_] at hk;subst hk;exact⟨v,by simp[Act.put,h.size,hd],hv⟩
 ·have hb:Nat.beq d k=false:=by
   cases hb:Nat.beq d k with
   |false=>rfl
   |true=>exact absurd (m_ hb) e
  rw[hb] at hk;obtain⟨y,hy,hr⟩:=h.fr k x hk;refine⟨y,?_,hr⟩;simp only[Act.put];rw[Array.getElem?_setIfInBounds_ne e];exact hy
def JI:Value->AVal
 |.bool b=>.bool b
 |.int k n=>.int k n
 |.string s=>.str s.data.toList
 |v=>.raw v
def Ib {β:Type}:List UInt8->(List UInt8->β)->β
 |[],k=>k []
 |c::cs,k=>Ib cs (λr=>k (c::r))
theorem tM {β:Type}:∀(l:List UInt8) (k:List UInt8->β),Ib l k=k l
 |[],_=>rfl
 |_::cs,k=>tM cs _
def ai (env:Env):Operand->Option AVal
 |.tmp t=>Env.get env t
 |.const (.string s)=>Ib s.data.toList λl=>some (.str l)
 |.const v=>some (JI v)
 |.global g=>some (.raw (.pointer (some ⟨g,0,none⟩)))
 |.func f=>some (.func (.func f) [] [])
theorem vj (R:Seal)(v:Value):bx R (JI v) v:=by
 cases v<;>first|exact ar.2 rfl|exact aO.2 rfl|exact aq.2 rfl|skip
 exact aD.2 rfl
theorem gt (env:Env)(v:Value):ai env (.const v)=some (JI v):=by cases v<;>first|rfl|(simp only[ai,tM];rfl)
theorem FS.eval {D:List Deferred}{n:Nat}{R:Seal}{env:Env}{a:Act}(h:FS D n R env a){x:Operand}{av:AVal}(hx:ai env x=some av):bx R av (a.eval x):=by
 cases x with
 |tmp t=>
  obtain⟨y,hy,hr⟩:=h.fr t av hx;simp only[Act.eval,Array.getD_eq_getD_getElem?,hy];exact hr
 |const v=>
  rw[gt] at hx;simp only[g_] at hx;subst hx;exact vj R v
 |global g=>simp only[ai,g_] at hx;subst hx;exact ar.2 rfl
 |func f=>
  simp only[ai,g_] at hx;subst hx;exact⟨⟨#[],#[],rfl,rfl,rfl⟩,rfl⟩
inductive aM where
 |normal
 |exit (id:Nat)
 |goto (l:Nat)
 |ret
 |panic (v:AVal)
def aH (R:Seal):aM->Exit->Prop
 |.normal,e=>e= .normal
 |.exit i,e=>e= .exit i
 |.goto i,e=>e= .goto i
 |.ret,e=>e= .ret
 |.panic v,e=>∃x,e= .panic [{v:=x,recovered:=false}]/\bx R v x
def lO (C:Ctx)(n:Nat)(Q:aM->Env->Heap->Prop)(e:Exit)(a:Act)(w:World):Prop:=
 ∃x env H R,Q x env H/\aH R x e/\MS C R H w/\FS C.D n R env a
def bG (P:Program)(C:Ctx)(n:Nat)(c:Code)(env:Env)(H:Heap)(Q:aM->Env->Heap->Prop):Prop:=
 ∀R a w,MS C R H w->FS C.D n R env a->c.wp P (lO C n Q) a w
def au (P:Program)(C:Ctx)(n:Nat)(ops:Array Oper)(l:List Oper)(env:Env)(H:Heap)(Q:aM->Env->Heap->Prop):Prop:=
 ∀R a w,MS C R H w->FS C.D n R env a->wpList P ops (lO C n Q) l a w
section
variable {P:Program} {C:Ctx} {n:Nat} {env:Env} {H:Heap} {Q:aM->Env->Heap->Prop}
theorem bG.mono {c:Code}{Q':aM->Env->Heap->Prop}(h:bG P C n c env H Q)(hq:∀x e h,Q x e h->Q' x e h):bG P C n c env H Q':=
 λR a w hm hf=>wp_mono (h R a w hm hf) λ_ _ _ ⟨x,en,H',R',q,r⟩=>⟨x,en,H',R',hq _ _ _ q,r⟩
theorem Tw (h:Q .normal env H):bG P C n .skip env H Q:=
 λR _ _ hm hf=>wp_skip ⟨.normal,env,H,R,h,rfl,hm,hf⟩
theorem Tx {id:Nat}(h:Q (.exit id) env H):bG P C n (.exit id) env H Q:=
 λR _ _ hm hf=>wp_exit ⟨.exit id,env,H,R,h,rfl,hm,hf⟩
theorem WI (h:Q .ret env H):bG P C n .ret env H Q:=
 λR _ _ hm hf=>wp_ret ⟨.ret,env,H,R,h,rfl,hm,hf⟩
def iG (K:Env->Heap->Prop)(Q:aM->Env->Heap->Prop):aM->Env->Heap->Prop
 |.normal,e,h=>K e h
 |x,e,h=>Q x e h
theorem kI {x y:Code}(h:bG P C n x env H (iG (λe h=>bG P C n y e h Q) Q)):bG P C n (.seq x y) env H Q:=by
 intro R a w hm hf;refine wp_seq (wp_mono (h R a w hm hf) ?_);rintro e a' w' ⟨x',en,H',R',q,er,hm',hf'⟩;cases x' with
 |normal=>simp only[aH] at er;subst er;exact q R' a' w' hm' hf'
 |exit i=>simp only[aH] at er;subst er;exact⟨.exit i,en,H',R',q,rfl,hm',hf'⟩
 |goto i=>simp only[aH] at er;subst er;exact⟨.goto i,en,H',R',q,rfl,hm',hf'⟩
 |ret=>simp only[aH] at er;subst er;exact⟨.ret,en,H',R',q,rfl,hm',hf'⟩
 |panic v=>obtain⟨y,rfl,hr⟩:=er;exact⟨.panic v,en,H',R',q,⟨y,rfl,hr⟩,hm',hf'⟩
theorem Ty {c:Operand}{x y:Code}{b:Bool}(hc:ai env c=some (.bool b))(ht:b=true->bG P C n x env H Q)(hf:b=false->bG P C n y env H Q):
  bG P C n (.cond c x y) env H Q:=by
 intro R a w hm hfr;exact wp_cond_split (aO.1 (hfr.eval hc)) (λe=>ht e R a w hm hfr) (λe=>hf e R a w hm hfr)
def CM (id:Nat)(Q:aM->Env->Heap->Prop):aM->Env->Heap->Prop
 |.exit i,e,h=>(i=id->Q .normal e h)/\(i≠id->Q (.exit i) e h)
 |x,e,h=>Q x e h
theorem m7 {id:Nat}{c:Code}(h:bG P C n c env H (CM id Q)):bG P C n (.block id c) env H Q:=by
 intro R a w hm hf;refine wp_block (wp_mono (h R a w hm hf) ?_);rintro e a' w' ⟨x',en,H',R',q,er,hm',hf'⟩
 cases x' with
 |normal=>simp only[aH] at er;subst er;exact⟨.normal,en,H',R',q,rfl,hm',hf'⟩
 |exit i=>
  simp only[aH] at er;subst er
  simp only[Exit.inBlock]
  by_cases e:i=id
  ·rw[if_pos e];exact⟨.normal,en,H',R',q.1 e,rfl,hm',hf'⟩
  ·rw[if_neg e];exact⟨.exit i,en,H',R',q.2 e,rfl,hm',hf'⟩
 |goto i=>simp only[aH] at er;subst er;exact⟨.goto i,en,H',R',q,rfl,hm',hf'⟩
 |ret=>simp only[aH] at er;subst er;exact⟨.ret,en,H',R',q,rfl,hm',hf'⟩
 |panic v=>obtain⟨y,rfl,hr⟩:=er;exact⟨.panic v,en,H',R',q,⟨y,rfl,hr⟩,hm',hf'⟩
def Env.sub (env:Env):Env->Prop
 |[]=>True
 |(k,v)::t=>Env.get env k=some v/\Env.sub env t
theorem Env.sub_get {env:Env}:∀{t:Env},Env.sub env t->∀k v,Env.get t k=some v->Env.get env k=some v
 |[],_,k,v,h=>by simp[Env.get] at h
 |(j,x)::t,hs,k,v,h=>by
  simp only[Env.get] at h
  cases hb:Nat.beq j k with
  |true=>
   rw[hb] at h
   simp only[g_] at h
   subst h
   have:=m_ hb
   subst this
   exact hs.1
  |false=>rw[hb] at h;exact Env.sub_get hs.2 k v h
theorem FS.sub {D:List Deferred}{R:Seal}{a:Act}{t:Env}(h:FS D n R env a)(hs:Env.sub env t):FS D n R t a:=
 ⟨λk v x=>h.fr k v (Env.sub_get hs k v x),h.size,h.defers⟩
theorem QS {c:Code}{env':Env}(hs:Env.sub env env')(h:bG P C n c env' H Q):bG P C n c env H Q:=
 λR a w hm hf=>h R a w hm (hf.sub hs)
def vI (P:Program)(C:Ctx)(n:Nat)(c:Code)(Q:aM->Env->Heap->Prop):Nat->Env->Heap->Prop
 |0,_,_=>False
 |k+1,e,h=>bG P C n c e h (iG (vI P C n c Q k) Q)
theorem MJ {c:Code}(k:Nat)(h:vI P C n c Q k env H):bG P C n (.loop c) env H Q:=by
 intro R a w hm hf;refine wp_loop_rounds k ?_;induction k generalizing env H R a w with
 |zero=>exact h.elim
 |succ k ih=>
  rw[rounds_succ]
  refine wp_mono (h R a w hm hf) ?_
  rintro e a' w' ⟨x',en,H',R',q,er,hm',hf'⟩
  cases x' with
  |normal=>simp only[aH] at er;subst er;exact ih q R' a' w' hm' hf'
  |exit i=>simp only[aH] at er;subst er;exact⟨.exit i,en,H',R',q,rfl,hm',hf'⟩
  |goto i=>simp only[aH] at er;subst er;exact⟨.goto i,en,H',R',q,rfl,hm',hf'⟩
  |ret=>simp only[aH] at er;subst er;exact⟨.ret,en,H',R',q,rfl,hm',hf'⟩
  |panic v=>obtain⟨y,rfl,hr⟩:=er;exact⟨.panic v,en,H',R',q,⟨y,rfl,hr⟩,hm',hf'⟩
theorem TB {c:Code}{k:Nat}(h:bG P C n c env H (iG (vI P C n c Q k) Q)):vI P C n c Q (k+1) env H:=h
end
end
section
open Go
theorem pY {w:World}{b:Nat}{o:Obj}(h:w.heap[b]? =some o):b<w.heap.size:=by
 rcases YY b w.heap.size with k|k
 ·exact k
 ·simp[Array.getElem?_eq_none k] at h
def grow (w:World)(o:Obj):World:={w with heap:=w.heap.push o}
theorem gf (w:World)(o:Obj):(grow w o).heap[w.heap.size]? =some o:=by
 show(w.heap.push o)[w.heap.size]? =some o;simp
theorem vq {w:World}{o:Obj}{b:Nat}(h:b<w.heap.size):(grow w o).heap[b]? =w.heap[b]? :=by
 simp only[grow,Array.getElem?_push];rw[if_neg a_]
theorem MT.grow {w0 w:World}{B:List Nat}(h:MT w0 B w)(o:Obj):MT w0 B (grow w o):=
  ⟨h.os,h.tape,h.output,by have:=h.size;simp only[Go.Proofs.YtnbaflecdkgihaaGreatDoor.grow,Array.size_push];omega,
   λb hb hB=>by rw[vq (by have:=h.size;omega)];exact h.block b hb hB⟩
theorem eZ.grow {R:Seal}{w:World}(h:eZ R w)(o:Obj):eZ R (grow w o):=λb o' hb=>by
 have:=h b o' hb;rw[vq (pY this)];exact this
theorem C4.blk_lt {R:Seal}{w:World}{H:Heap}(h:C4 R w H){b:Nat}(hb:b∈H.filterMap HEnt.blk):b<w.heap.size:=by
 obtain⟨e,he,hb⟩:=List.mem_filterMap.1 hb;exact HEnt.blk_lt (h.holds e he) hb
theorem MS.alloc {C:Ctx}{R:Seal}{H:Heap}{w:World}(h:MS C R H w)(o:Obj)(x:HEnt)(hb:x.blk=some w.heap.size)
  (hx:x.holds R (grow w o)):MS C R (x::H) (grow w o) where
 sealed:=h.sealed.grow o
 ge:=h.ge
 fresh:=h.fresh
 heap:=by
  refine⟨λy hy=> ?_,?_,λy hy b hyb=> ?_⟩
  ·rcases List.mem_cons.1 hy with rfl|hy
   ·exact hx
   ·refine HEnt.holds_mono (h.heap.holds y hy) (Seal.le_refl R) λb hyb=> ?_;exact vq (HEnt.blk_lt (h.heap.holds y hy) hyb)
  ·simp only[List.filterMap_cons,hb];refine List.nodup_cons.2 ⟨λhm=> ?_,h.heap.nodup⟩;exact absurd (h.heap.blk_lt hm) (Nat.lt_irrefl _)
  ·rcases List.mem_cons.1 hy with rfl|hy
   ·rw[hb] at hyb;simp only[g_] at hyb;subst hyb;cases hR:R w.heap.size with
    |none=>rfl
    |some o'=>exact absurd (pY (h.sealed _ _ hR)) (Nat.lt_irrefl _)
   ·exact h.heap.apart y hy b hyb
 own:=λy hy b hyb=>by
  rcases List.mem_cons.1 hy with rfl|hy
  ·rw[hb] at hyb;simp only[g_] at hyb;subst hyb;exact .inl h.ext.size
  ·exact h.own y hy b hyb
 ext:=h.ext.grow o
def Seal.put (R:Seal)(b:Nat)(o:Obj):Seal:=λk=>if k=b then some o else R k
theorem Seal.put_le {R:Seal}{b:Nat}{o:Obj}(h:R b=none):R.le (R.put b o):=λk o' hk=>by
 simp only[Seal.put]
 by_cases e:k=b
 ·subst e;rw[h] at hk;cases hk
 ·rw[if_neg e];exact hk
theorem Seal.put_at (R:Seal)(b:Nat)(o:Obj):R.put b o b=some o:=by simp[Seal.put]
theorem MS.seal_free {C:Ctx}{R:Seal}{H:Heap}{w:World}(h:MS C R H w):R w.heap.size=none:=by
 cases hR:R w.heap.size with
 |none=>rfl
 |some o'=>exact absurd (pY (h.sealed _ _ hR)) (Nat.lt_irrefl _)
theorem MS.alloc_sealed {C:Ctx}{R:Seal}{H:Heap}{w:World}(h:MS C R H w)(o:Obj):MS C (R.put w.heap.size o) H (grow w o) where
 sealed:=λb o' hb=>by
  simp only[Seal.put] at hb;by_cases e:b=w.heap.size
  ·subst e;rw[if_pos rfl] at hb;rw[gf];exact hb
  ·rw[if_neg e] at hb;exact h.sealed.grow o b o' hb
 ge:=Seal.le_trans h.ge (Seal.put_le h.seal_free)
 fresh:=λb hb=>by
  simp only[Seal.put] at hb;by_cases e:b=w.heap.size
  ·subst e;exact .inr (.inl h.ext.size)
  ·rw[if_neg e] at hb;exact h.fresh b hb
 heap:=by
  refine⟨λy hy=> ?_,h.heap.nodup,λy hy b hyb=> ?_⟩
  ·refine HEnt.holds_mono (h.heap.holds y hy) (Seal.put_le h.seal_free) λb hyb=> ?_;exact vq (HEnt.blk_lt (h.heap.holds y hy) hyb)
  ·have:=HEnt.blk_lt (h.heap.holds y hy) hyb;simp only[Seal.put];rw[if_neg a_];exact h.heap.apart y hy b hyb
 own:=h.own
 ext:=h.ext.grow o
structure nU (w:World) (b:Nat) (o:Obj) (w':World):Prop where
 os:w'.os=w.os
 tape:w'.tape=w.tape
 output:w'.output=w.output
 size:w'.heap.size=w.heap.size
 at_:w'.heap[b]? =some o
 other:∀k,k≠b->w'.heap[k]? =w.heap[k]?
theorem pD {α:Type}{l:List α}{i:Nat}{x y:α}(h:l[i]? =some x):∃a c,l=a++x::c/\l.set i y=a++y::c:=by
 induction l generalizing i with
 |nil=>simp at h
 |cons z t ih=>
  cases i with
  |zero=>simp only[I_,g_] at h;subst h;exact⟨[],t,rfl,rfl⟩
  |succ i=>
   simp only[J_] at h;obtain⟨a,c,h1,h2⟩:=ih h;exact⟨z::a,c,by rw[h1];rfl,by simp[h2]⟩
theorem MS.write {C:Ctx}{R:Seal}{H:Heap}{w w':World}{i b:Nat}{x y:HEnt}{o:Obj}(h:MS C R H w)(hi:H[i]? =some x)(hb:x.blk=some b)
  (hw:nU w b o w') (hyb:y.blk=some b) (hy:y.holds R w'):MS C R (H.set i y) w':=by
 obtain⟨a,c,rfl,hset⟩:=pD (y:=y) hi;rw[hset];have hx:x∈a++x::c:=by simp
 have hlt:=HEnt.blk_lt (h.heap.holds x hx) hb;have hRb:=h.heap.apart x hx b hb;have hnd:=h.heap.nodup;rw[List.filterMap_append,List.filterMap_cons,hb] at hnd;have hother:∀z,z∈a\/z∈c->∀k,z.blk=some k->k≠b:=by
  rintro z hz k hk rfl;have hd:=List.nodup_append.1 hnd;rcases hz with hz|hz
  ·exact hd.2.2 k (List.mem_filterMap.2 ⟨z,hz,hk⟩) k (by simp) rfl
  ·exact(List.nodup_cons.1 hd.2.1).1 (List.mem_filterMap.2 ⟨z,hz,hk⟩)
 have hmem:∀z,z∈a++y::c->z=y\/((z∈a\/z∈c)/\z∈a++x::c):=by
  intro z hz;simp only[List.mem_append,p_] at hz ⊢;rcases hz with hz|hz|hz
  ·exact .inr ⟨.inl hz,.inl hz⟩
  ·exact .inl hz
  ·exact .inr ⟨.inr hz,.inr (.inr hz)⟩
 refine⟨?_,h.ge,h.fresh,⟨?_,?_,?_⟩,?_,?_⟩
 ·intro k o' hk;rw[hw.other k (by rintro rfl;rw[hRb] at hk;cases hk)];exact h.sealed k o' hk
 ·intro z hz;rcases hmem z hz with rfl|⟨hz',hz''⟩
  ·exact hy
  ·exact HEnt.holds_mono (h.heap.holds z hz'') (Seal.le_refl R) λk hk=>hw.other k (hother z hz' k hk)
 ·rw[List.filterMap_append,List.filterMap_cons,hyb];exact hnd
 ·intro z hz k hk;rcases hmem z hz with rfl|⟨_,hz''⟩
  ·rw[hyb] at hk;simp only[g_] at hk;subst hk;exact hRb
  ·exact h.heap.apart z hz'' k hk
 ·intro z hz k hk;rcases hmem z hz with rfl|⟨_,hz''⟩
  ·rw[hyb] at hk;simp only[g_] at hk;subst hk;exact h.own x hx b hb
  ·exact h.own z hz'' k hk
 ·have hob:=h.own x hx b hb;refine⟨hw.os.trans h.ext.os,hw.tape.trans h.ext.tape,hw.output.trans h.ext.output,by rw[hw.size];exact h.ext.size,λk hk hB=> ?_⟩;rw[hw.other k (by rintro rfl;rcases hob with h1|h1;omega;exact hB h1)];exact h.ext.block k hk hB
theorem MS.drop {C:Ctx}{R:Seal}{H H':Heap}{w:World}(h:MS C R H w)(hs:H'.Sublist H):MS C R H' w:=
  ⟨h.sealed,h.ge,h.fresh,⟨λy hy=>h.heap.holds y (hs.subset hy),h.heap.nodup.sublist (hs.filterMap _),λy hy=>h.heap.apart y (hs.subset hy)⟩,
   λy hy=>h.own y (hs.subset hy),h.ext⟩
theorem MS.perm {C:Ctx}{R:Seal}{H H':Heap}{w:World}(h:MS C R H w)(hs:H.Perm H'):MS C R H' w:=
  ⟨h.sealed,h.ge,h.fresh,⟨λy hy=>h.heap.holds y (hs.mem_iff.2 hy),(hs.filterMap _).nodup_iff.1 h.heap.nodup,λy hy=>h.heap.apart y (hs.mem_iff.2 hy)⟩,
   λy hy=>h.own y (hs.mem_iff.2 hy),h.ext⟩
theorem MS.fixed {C:Ctx}{R:Seal}{H:Heap}{w:World}{x:HEnt}{b:Nat}{o:Obj}(h:MS C R (x::H) w)(hb:x.blk=some b)(ho:w.heap[b]? =some o):
  MS C (R.put b o) H w/\R.le (R.put b o):=by
 have hx:x∈x::H:=by simp
 have hRb:=h.heap.apart x hx b hb;have hle:=Seal.put_le (o:=o) hRb;have hnd:=h.heap.nodup;rw[List.filterMap_cons,hb] at hnd;refine⟨⟨?_,Seal.le_trans h.ge hle,?_,⟨λy hy=> ?_,(List.nodup_cons.1 hnd).2,λy hy k hk=> ?_⟩,λy hy=>h.own y (by simp[hy]),h.ext⟩,hle⟩
 ·intro k o' hk;simp only[Seal.put] at hk;by_cases e:k=b
  ·subst e;rw[if_pos rfl] at hk;rw[ho];exact hk
  ·rw[if_neg e] at hk;exact h.sealed k o' hk
 ·intro k hk;simp only[Seal.put] at hk;by_cases e:k=b
  ·subst e;exact .inr (h.own x hx k hb)
  ·rw[if_neg e] at hk;exact h.fresh k hk
 ·exact HEnt.holds_mono (h.heap.holds y (by simp[hy])) hle λ_ _=>rfl
 ·have:k≠b:=by
   rintro rfl;exact(List.nodup_cons.1 hnd).1 (List.mem_filterMap.2 ⟨y,hy,hk⟩)
  simp only[Seal.put];rw[if_neg this];exact h.heap.apart y (by simp[hy]) k hk
def eG (H:Heap):List Nat:=H.filterMap HEnt.blk
theorem MS.glo {C:Ctx}{R:Seal}{H:Heap}{w:World}(h:MS C R H w):C.G.p R:=C.G.mono _ _ h.ge C.hG
theorem MS.call {C:Ctx}{R R':Seal}{H1 H1' H2:Heap}{w w':World}{G:Glo}{hG:G.p R}(h:MS C R (H1++H2) w)(h':MS ⟨w,R,eG H1,G,hG,[]⟩ R' H1' w'):MS C R' (H1'++H2) w':=by
 have hnd:=h.heap.nodup;rw[List.filterMap_append] at hnd;have hd:=List.nodup_append.1 hnd;have hB1:∀b,b∈eG H1->C.w0.heap.size<=b\/b∈C.B0:=by
  intro b hb;obtain⟨e,he,hb⟩:=List.mem_filterMap.1 hb;exact h.own e (by simp[he]) b hb
 have h2:∀z∈H2,∀b,z.blk=some b->b<w.heap.size/\b∉eG H1:=by
  intro z hz b hb;refine⟨HEnt.blk_lt (h.heap.holds z (by simp[hz])) hb,λhm=> ?_⟩;exact hd.2.2 b hm b (List.mem_filterMap.2 ⟨z,hz,hb⟩) rfl
 refine⟨h'.sealed,Seal.le_trans h.ge h'.ge,?_,⟨?_,?_,?_⟩,?_,?_⟩
 ·intro b hb;rcases h'.fresh b hb with h1|h1|h1
  ·exact h.fresh b h1
  ·exact .inr (.inl (YX h.ext.size h1))
  ·exact .inr (hB1 b h1)
 ·intro z hz;rcases List.mem_append.1 hz with hz|hz
  ·exact h'.heap.holds z hz
  ·exact HEnt.holds_mono (h.heap.holds z (by simp[hz])) h'.ge λb hb=>h'.ext.block b (h2 z hz b hb).1 (h2 z hz b hb).2
 ·rw[List.filterMap_append];refine List.nodup_append.2 ⟨h'.heap.nodup,hd.2.1,?_⟩;rintro b hb k hk rfl;obtain⟨e,he,hb⟩:=List.mem_filterMap.1 hb;obtain⟨z,hz,hk⟩:=List.mem_filterMap.1 hk;have:=h2 z hz b hk;rcases h'.own e he b hb with h1|h1
  ·exact absurd (show w.heap.size<=b from h1) (by have:=this.1;omega)
  ·exact this.2 h1
 ·intro z hz b hb;rcases List.mem_append.1 hz with hz|hz
  ·exact h'.heap.apart z hz b hb
  ·cases hR:R' b with
   |none=>rfl
   |some o=>
    have:=h2 z hz b hb;rcases h'.fresh b (by simp[hR]) with h1|h1|h1
    ·exact absurd (h.heap.apart z (by simp[hz]) b hb) h1
    ·exact absurd h1 (by have:=this.1;show ¬w.heap.size<=b;omega)
    ·exact absurd h1 this.2
 ·intro z hz b hb;rcases List.mem_append.1 hz with hz|hz
  ·rcases h'.own z hz b hb with h1|h1
   ·exact .inl (YX h.ext.size h1)
   ·exact hB1 b h1
  ·exact h.own z (by simp[hz]) b hb
 ·refine⟨h'.ext.os.trans h.ext.os,h'.ext.tape.trans h.ext.tape,h'.ext.output.trans h.ext.output,YX h.ext.size h'.ext.size,λb hb hB=> ?_⟩;rw[h'.ext.block b (Nat.lt_of_lt_of_le hb h.ext.size) (λhm=>by rcases hB1 b hm with h1|h1;omega;exact hB h1)];exact h.ext.block b hb hB
theorem MS.enter {C:Ctx}{R:Seal}{H1 H2:Heap}{w:World}{G:Glo}{hG:G.p R}(h:MS C R (H1++H2) w):MS ⟨w,R,eG H1,G,hG,[]⟩ R H1 w:=
 have hd:=h.drop (H':=H1) (by simp)
 ⟨h.sealed,Seal.le_refl R,λ_ hb=>.inl hb,hd.heap,λz hz b hb=>.inr (List.mem_filterMap.2 ⟨z,hz,hb⟩),MT.refl w _⟩
end
section
open Go
section
variable {P:Program} {C:Ctx} {n:Nat} {env:Env} {H:Heap} {Q:aM->Env->Heap->Prop} {ops:Array Oper} {rest:List Oper}
theorem MK {id:Nat}{l:List Oper}(h:au P C n l.toArray l env H Q):bG P C n (.region id l.toArray false) env H Q:=
 λR a w hm hf=>wp_region_lit (h R a w hm hf)
theorem WO (h:Q .normal env H):au P C n ops [] env H Q:=
 λR _ _ hm hf=>wpList_nil ⟨.normal,env,H,R,h,rfl,hm,hf⟩
def aQ (ops:Array Oper)(env:Env):Option (Nat×Bool)->Option (Bool×Bool)
 |none=>some (true,true)
 |some (j,want)=>
  match ops[j]? with
  |some o=>match o.dst with
   |some d=>match Env.get env d with
    |some (.bool b)=>some (b,want)
    |_=>none
   |none=>none
  |none=>none
theorem cB {D:List Deferred}{R:Seal}{a:Act}{o:Oper}{b want:Bool}(hf:FS D n R env a)(hg:aQ ops env o.guard=some (b,want)):
  Region.wanted o (yielded ops a.tmps)=(b==want):=by
 unfold aQ at hg;unfold Region.wanted;split at hg
 ·rename_i h;rw[h];simp only[g_,YV] at hg;simp[hg.1.symm,hg.2.symm]
 ·rename_i j wt h;rw[h];split at hg
  ·rename_i o' ho;split at hg
   ·rename_i d hd;split at hg
    ·rename_i b' hb;simp only[g_,YV] at hg;obtain⟨rfl,rfl⟩:=hg;obtain⟨x,hx,hr⟩:=hf.fr d _ hb;rw[aO.1 hr] at hx;simp[yielded,ho,hd,hx]
    ·simp at hg
   ·simp at hg
  ·simp at hg
def cF (ops:Array Oper):Option (Nat×Bool)->Option Nat
 |some (j,_)=>match ops[j]? with
  |some o=>o.dst
  |none=>none
 |none=>none
theorem TD {o:Oper}{d:Nat}(hg:aQ ops env o.guard=some (true,false))(hd:o.dst=some d)(hdn:Nat.ble (d+1) n=true)
  (h:au P C n ops rest ((d,.raw undef)::env) H Q):au P C n ops (o::rest) env H Q:=by
 intro R a w hm hf;refine wpList_step λK hK=> ?_;rw[cB hf hg,if_neg (by simp),hd];exact hK _ _ (h R _ w hm (hf.put hdn (ar.2 rfl)))
theorem QZ {o:Oper}{d:Nat}(hg:aQ ops env o.guard=some (false,true))(hd:o.dst=some d)(hdn:Nat.ble (d+1) n=true)
  (h:au P C n ops rest ((d,.raw undef)::env) H Q):au P C n ops (o::rest) env H Q:=by
 intro R a w hm hf;refine wpList_step λK hK=> ?_;rw[cB hf hg,if_neg (by simp),hd];exact hK _ _ (h R _ w hm (hf.put hdn (ar.2 rfl)))
theorem sJ {o:Oper}{b want:Bool}(hg:aQ ops env o.guard=some (b,want))(hb:(b==want)=false)(hd:o.dst=none)
  (h:au P C n ops rest env H Q):au P C n ops (o::rest) env H Q:=by
 intro R a w hm hf;refine wpList_step λK hK=> ?_;rw[cB hf hg,hb,if_neg (by simp),hd];exact hK _ _ (h R _ w hm hf)
theorem zE {o:Oper}{d e:Nat}(hs:cF ops o.guard=some e)(hv:Env.get env e=some (.raw undef))(hd:o.dst=some d)(hdn:Nat.ble (d+1) n=true)
  (h:au P C n ops rest ((d,.raw undef)::env) H Q):au P C n ops (o::rest) env H Q:=by
 intro R a w hm hf;refine wpList_step λK hK=> ?_;have hw:Region.wanted o (yielded ops a.tmps)=false:=by
  unfold cF at hs;unfold Region.wanted;split at hs
  ·rename_i j want h;rw[h];split at hs
   ·rename_i o' ho;obtain⟨x,hx,hr⟩:=hf.fr e _ hv;rw[ar.1 hr] at hx;simp[yielded,ho,hs,hx,undef]
   ·cases hs
  ·cases hs
 rw[hw,if_neg (by simp),hd];exact hK _ _ (h R _ w hm (hf.put hdn (ar.2 rfl)))
theorem Ge {o:Oper}{b want:Bool}{d:Nat}(_hg:aQ ops env o.guard=some (b,want))(_hs:cF ops o.guard=some d)(hv:Env.get env d=some (.bool b))
  (ht:b=true->au P C n ops (o::rest) ((d,.bool true)::env) H Q) (hf:b=false->au P C n ops (o::rest) ((d,.bool false)::env) H Q):
  au P C n ops (o::rest) env H Q:=by
 have key:∀x,b=x->∀{D:List Deferred} R a,FS D n R env a->FS D n R ((d,.bool x)::env) a:=by
  rintro x rfl D R a hfr;refine⟨λk v hk=> ?_,hfr.size,hfr.defers⟩;simp only[Env.get] at hk;cases hb:Nat.beq d k with
  |true=>
   rw[hb] at hk;have:=m_ hb;subst this;simp only[g_] at hk;subst hk;exact hfr.fr d _ hv
  |false=>rw[hb] at hk;exact hfr.fr k v hk
 intro R a w hm hfr;cases hb:b with
 |true=>exact ht hb R a w hm (key true hb R a hfr)
 |false=>exact hf hb R a w hm (key false hb R a hfr)
def qF (R:Seal)(env:Env)(ρ:Operand->Value):Prop:=∀x av,ai env x=some av->bx R av (ρ x)
theorem tZ {o:Oper}{d:Nat}{av:AVal}{H':Heap}{b:Bool}(hg:aQ ops env o.guard=some (b,b))(hd:o.dst=some d)(hdn:Nat.ble (d+1) n=true)
  (hx:∀R ρ w,MS C R H w->qF R env ρ->∃v w' R',(execOp ρ o).run P w= .ok (.value v) w'/\R.le R'/\bx R' av v/\MS C R' H' w')
  (h:au P C n ops rest ((d,av)::env) H' Q):au P C n ops (o::rest) env H Q:=by
 intro R a w hm hf;refine wpList_step λK hK=> ?_;rw[cB hf hg,if_pos (by simp)];obtain⟨v,w',R',hr,hR,hv,hm'⟩:=hx R a.eval w hm (λx av h=>hf.eval h);rw[Oper.wp,hr,Oper.upon_value,hd];exact hK _ _ (h R' _ w' hm' ((hf.mono hR).put hdn hv))
theorem gF {X:Type}{o:Oper}{d:Nat}{av:X->AVal}{H':X->Heap}{b:Bool}(hg:aQ ops env o.guard=some (b,b))(hd:o.dst=some d)(hdn:Nat.ble (d+1) n=true)
  (hx:∀R ρ w,MS C R H w->qF R env ρ->∃x v w' R',(execOp ρ o).run P w= .ok (.value v) w'/\R.le R'/\bx R' (av x) v/\MS C R' (H' x) w')
  (h:∀x,au P C n ops rest ((d,av x)::env) (H' x) Q):au P C n ops (o::rest) env H Q:=by
 intro R a w hm hf;refine wpList_step λK hK=> ?_;rw[cB hf hg,if_pos (by simp)];obtain⟨x,v,w',R',hr,hR,hv,hm'⟩:=hx R a.eval w hm (λx av h=>hf.eval h);rw[Oper.wp,hr,Oper.upon_value,hd];exact hK _ _ (h x R' _ w' hm' ((hf.mono hR).put hdn hv))
theorem KL {o:Oper}{d:Nat}{av:AVal}{b:Bool}(hg:aQ ops env o.guard=some (b,b))(hd:o.dst=some d)(hdn:Nat.ble (d+1) n=true)
  (hx:∀R ρ w,MS C R H w->qF R env ρ->∃v,(execOp ρ o).run P w= .ok (.value v) w/\bx R av v)
  (h:au P C n ops rest ((d,av)::env) H Q):au P C n ops (o::rest) env H Q:=
 tZ hg hd hdn (λR ρ w hm hf=>let ⟨v,hr,hv⟩:=hx R ρ w hm hf;⟨v,w,R,hr,Seal.le_refl R,hv,hm⟩) h
variable {d:Nat} {t:TypeId} {p:String} {af:Array Edge} {g:Option (Nat×Bool)} {b:Bool} {av:AVal}
def nY (x y:Int):Bool:=decide (x<y)
def bU (x y:Int):Bool:=decide (x=y)
theorem nX {x y:Int}:nY x y=true↔x<y:=by simp[nY]
theorem oP {x y:Int}:nY x y=false↔y<=x:=by simp[nY]
theorem fA {x y:Int}:bU x y=true↔x=y:=by simp[bU]
theorem lK {x y:Int}:bU x y=false↔x≠y:=by simp[bU]
theorem Sy {x y:Int}:nY x y=decide (x<y):=rfl
theorem S3 {x y:Int}:bU x y=decide (x=y):=rfl
theorem VH {x y:Int}:decide (x<=y)= !nY y x:=by rw[w_];simp[nY]
theorem VQ {x y:Int}:decide (x≥y)= !nY x y:=by rw[w_];simp[nY]
attribute [irreducible] nY bU
def lB (op:BinOp)(k:IntKind)(x y:Int):Option AVal:=
 match op with
 |.add=>some (.int k (k.wrap (x+y)))
 |.sub=>some (.int k (k.wrap (x-y)))
 |.mul=>some (.int k (k.wrap (x*y)))
 |.and=>some (.int k (k.wrap (BitVec.ofInt k.bits x&&& BitVec.ofInt k.bits y).toNat))
 |.or=>some (.int k (k.wrap (BitVec.ofInt k.bits x|||BitVec.ofInt k.bits y).toNat))
 |.xor=>some (.int k (k.wrap (BitVec.ofInt k.bits x^^^BitVec.ofInt k.bits y).toNat))
 |.andNot=>some (.int k (k.wrap (BitVec.ofInt k.bits x&&& ~~~ BitVec.ofInt k.bits y).toNat))
 |.eql=>some (.bool (bU x y))
 |.neq=>some (.bool (!bU x y))
 |.lss=>some (.bool (nY x y))
 |.leq=>some (.bool (!nY y x))
 |.gtr=>some (.bool (nY y x))
 |.geq=>some (.bool (!nY x y))
 |_=>none
theorem Ha {op:BinOp}{k:IntKind}{m q:Int}{tx:TypeId}{x y:Operand}{w:World}(ho:lB op k m q=some av):
  ∃v,Sem.run P (do eqGuard op tx x y (.int k m) (.int k q);Go.binOp op tx (.int k m) (.int k q)) w= .ok v w/\∀R,bx R av v:=by
 cases op<;>simp only[lB,g_] at ho<;>
  first
   |(cases ho;done)
   |(subst ho;refine⟨.int k _,?_,λ_=>aq.2 rfl⟩;simp only[Go.binOp,eqGuard,Za,Zb,Zd,Op.intArith,Op.intBits,Op.intCmp];rfl)
   |(subst ho;refine⟨.bool _,?_,λ_=>aO.2 rfl⟩;simp only[Go.binOp,eqGuard,Za,Zb,Zd,Op.intArith,Op.intBits,Op.intCmp,Sy,S3];rfl)
   |(subst ho;refine⟨.bool _,?_,λ_=>aO.2 rfl⟩;simp only[Go.binOp,eqGuard,Za,Zb,Zd,Op.intArith,Op.intBits,Op.intCmp,VH,VQ];rfl)
end
end
section
open Go
structure TI where
 desc:TypeDesc
 size:Nat
 bytes:Nat
 zero:Option Value
 cmp:Bool
def Bd (P:Program):List TI->Nat->Prop
 |[],_=>True
 |x::r,t=>(P.underlying t=some x.desc/\∃i,P.info? t=some i/\i.size=x.size/\i.bytes=x.bytes/\i.zero=x.zero/\i.comparable=x.cmp)/\Bd P r (t+1)
class Tab (P:Program) where
 list:List TI
 ok:Bd P list 0
def B3 {α:Type}:List α->Nat->Option α
 |[],_=>none
 |x::_,0=>some x
 |_::r,n+1=>B3 r n
def bi (P:Program)[T:Tab P](t:Nat):Option TI:=B3 T.list t
theorem sU {P:Program}:∀{l:List TI} {t k:Nat} {x:TI},Bd P l t->B3 l k=some x->
  P.underlying (t+k)=some x.desc/\∃i,P.info? (t+k)=some i/\i.size=x.size/\i.bytes=x.bytes/\i.zero=x.zero/\i.comparable=x.cmp
 |[],_,_,_,_,h=>by simp[B3] at h
 |y::r,t,0,x,ho,h=>by simp only[B3,g_] at h;subst h;exact ho.1
 |y::r,t,k+1,x,ho,h=>by
  have:=sU (l:=r) (t:=t+1) (k:=k) ho.2 h;rw[show t+(k+1)=t+1+k by omega];exact this
section
variable {P:Program} [T:Tab P] {t:TypeId} {x:TI} (h:bi P t=some x)
include h
theorem bN:P.underlying t=some x.desc:=by have:=(sU T.ok h).1;rwa [Nat.zero_add] at this
theorem gQ:∃i,P.info? t=some i/\i.size=x.size/\i.bytes=x.bytes/\i.zero=x.zero/\i.comparable=x.cmp:=by
 have:=(sU T.ok h).2;rwa [Nat.zero_add] at this
theorem ap (w:World):(underlying t).run P w= .ok x.desc w:=run_underlying (bN h) w
theorem rt (w:World):∃i,(typeInfo t).run P w= .ok i w/\i.size=x.size/\i.bytes=x.bytes/\i.zero=x.zero/\i.comparable=x.cmp:=by
 obtain⟨i,hi,r⟩:=gQ h;refine⟨i,?_,r⟩;simp only[typeInfo,e_,run_program,c_,hi,h_]
theorem aN (w:World):(sizeOf t).run P w= .ok x.size w:=by
 obtain⟨i,hi,hs,_⟩:=rt h w;simp only[sizeOf,e_,hi,c_,h_,hs]
theorem dQ {v:Value}(hz:x.zero=some v)(w:World):(zeroValue t).run P w= .ok v w:=by
 obtain⟨i,hi,_,_,h0,_⟩:=rt h w;simp only[zeroValue,e_,hi,c_,h0,hz,h_]
def co:TypeDesc->Bool
 |.struct _=>true
 |.array _ _=>true
 |_=>false
theorem dS (w:World):(isAgg t).run P w= .ok (co x.desc) w:=by
 simp only[isAgg,e_,ap h w,c_];cases x.desc<;>rfl
end
inductive ct where
 |ret (v:AVal)
 |panic (v:AVal)
def iD (R:Seal):ct->Ending->Prop
 |.ret v,e=>∃x,e= .returned x/\bx R v x
 |.panic v,e=>∃x,e= .panicked [{v:=x,recovered:=false}]/\bx R v x
def WV (P:Program)(f:FuncId)(args:Array Value)(w:World)(R:Ending->World->Prop):Prop:=
 ((callFunc f args).run P w= .ok (.enter f args) w/\Calls P f args w R)\/∃v w',(callFunc f args).run P w= .ok (.value v) w'/\R (.returned v) w'
def ad (P:Program)(G:Glo)(f:FuncId)(avs:List AVal)(H:Heap)(Qf:ct->Heap->Prop):Prop:=
 ∀R w args (hG:G.p R),MS ⟨w,R,eG H,G,hG,[]⟩ R H w->dO R avs args.toList->
  WV P f args w λe w'=>∃res H' R',Qf res H'/\iD R' res e/\MS ⟨w,R,eG H,G,hG,[]⟩ R' H' w'
theorem ad.mono {P:Program}{G:Glo}{f:FuncId}{avs:List AVal}{H:Heap}{Qf Qf':ct->Heap->Prop}(h:ad P G f avs H Qf)(hq:∀r H',Qf r H'->Qf' r H'):
  ad P G f avs H Qf':=by
 intro R w args hG hm ha;rcases h R w args hG hm ha with⟨h1,h2⟩|⟨v,w',h1,res,H',R',q,r⟩
 ·exact .inl ⟨h1,h2.mono λe w' ⟨res,H',R',q,r⟩=>⟨res,H',R',hq _ _ q,r⟩⟩
 ·exact .inr ⟨v,w',h1,res,H',R',hq _ _ q,r⟩
theorem je {P:Program}{w:World}{b:Nat}{C:Array Value}{e:TypeId}{fz:Nat×Nat}(hb:w.heap[b]? =some (.cells C e fz))(o:Nat):
  ∀(n i:Nat) (acc:Array Value),o+i+n<=C.size->(loadCellsFrom ⟨b,o,none⟩ i n acc).run P w= .ok (acc.toList++(C.toList.drop (o+i)).take n).toArray w
 |0,i,acc,_=>by simp[loadCellsFrom]
 |n+1,i,acc,h=>by
  have hc:w.cell? ((⟨b,o,none⟩:Addr).add i)=some C[o+i]:=by
   simp only[World.cell?,Addr.add];by_cases hi:i=0
   ·subst hi;simp[hb]
   ·simp[hi,hb]
  simp only[loadCellsFrom,e_,run_load,hc,c_];rw[je hb o n (i+1) _ a_];have:(C.toList.drop (o+i)).take (n+1)=C[o+i]::(C.toList.drop (o+(i+1))).take n:=by
   rw[A_ (by simp;omega),YR];simp[Nat.add_assoc]
  rw[this];simp
theorem aJ {R:Seal}:∀{cs:List AVal} {vs:List Value},bX R cs vs->vs.length=cs.length
 |[],_,h=>by simp only[bX] at h;subst h;rfl
 |c::cs,_,h=>by
  obtain⟨v,t,rfl,_,h⟩:=h;simp[aJ h]
theorem fo {R:Seal}:∀{cs:List AVal} {vs:List Value} {i:Nat} {c:AVal},bX R cs vs->cs[i]? =some c->∃v,vs[i]? =some v/\bJ R c [v]
 |[],_,_,_,_,h=>by simp at h
 |c::cs,_,0,x,h,hi=>by
  obtain⟨v,t,rfl,hv,h⟩:=h;simp only[I_,g_] at hi;subst hi;exact⟨v,rfl,hv⟩
 |c::cs,_,i+1,x,h,hi=>by
  obtain⟨v,t,rfl,_,h⟩:=h;exact fo (cs:=cs) (vs:=t) (i:=i) h (by simpa using hi)
theorem ck {R:Seal}:∀{a b:List AVal} {vs ws:List Value},bX R a vs->bX R b ws->bX R (a++b) (vs++ws)
 |[],_,_,_,h,k=>by simp only[bX] at h;subst h;exact k
 |c::cs,_,_,_,h,k=>by
  obtain⟨v,t,rfl,hv,h⟩:=h;exact⟨v,_,rfl,hv,ck h k⟩
theorem di {R:Seal}:∀{a:List AVal} {vs:List Value} (n:Nat),bX R a vs->bX R (a.take n) (vs.take n)
 |[],_,n,h=>by simp only[bX] at h;subst h;simp[bX]
 |c::cs,_,0,h=>by simp[bX]
 |c::cs,_,n+1,h=>by
  obtain⟨v,t,rfl,hv,h⟩:=h;exact⟨v,_,rfl,hv,di n h⟩
theorem dy {R:Seal}:∀{a:List AVal} {vs:List Value} (n:Nat),bX R a vs->bX R (a.drop n) (vs.drop n)
 |[],_,n,h=>by simp only[bX] at h;subst h;simp[bX]
 |c::cs,_,0,h=>h
 |c::cs,_,n+1,h=>by
  obtain⟨v,t,rfl,hv,h⟩:=h;exact dy n h
theorem Eb {R:Seal}{a:AVal}{v:Value}(h:bJ R a [v])(ha:a.isAgg=false):dc v=false:=by
 cases a<;>simp only[bJ] at h
 case bool=>simp only[o_] at h;rw[h.1];rfl
 case int=>simp only[o_] at h;rw[h.1];rfl
 case str=>simp only[o_] at h;rw[h.1];rfl
 case raw x=>cases x<;>simp_all [Value.cells,dc,AVal.isAgg]
 case list=>obtain⟨_,_,h,_⟩:=h;simp only[o_] at h;rw[h.1];rfl
 case rop=>obtain⟨_,_,_,_,_,h,_⟩:=h;simp only[o_] at h;rw[h.1];rfl
 case agg=>simp[AVal.isAgg] at ha
 case tuple=>obtain⟨_,h,_⟩:=h;simp only[o_] at h;rw[h.1];rfl
 case iface=>obtain⟨_,h,_⟩:=h;simp only[o_] at h;rw[h.1];rfl
 case func=>obtain⟨_,_,h,_⟩:=h;simp only[o_] at h;rw[h.1];rfl
 case own=>obtain⟨h,h2⟩:=h;simp only[o_] at h;rw[h.1];exact h2
theorem cT {R:Seal}{a:AVal}{v:Value}(h:bJ R a [v])(ha:a.isAgg=false):bx R a v:=wJ h ha (Eb h ha)
def eY:Nat->List AVal->Env
 |_,[]=>[]
 |i,a::t=>(i,a)::eY (i+1) t
theorem ri {R:Seal}:∀{avs:List AVal} {vs:List Value} {i k:Nat} {v:AVal},dO R avs vs->Env.get (eY i avs) k=some v->i<=k/\∃x,vs[k-i]? =some x/\bx R v x
 |[],_,_,_,_,_,h=>by simp[eY,Env.get] at h
 |a::t,_,i,k,v,hr,h=>by
  obtain⟨x,s,rfl,hx,hr⟩:=hr;simp only[eY,Env.get] at h;cases hb:Nat.beq i k with
  |true=>
   rw[hb] at h
   have:=m_ hb
   subst this
   simp only[g_] at h
   subst h
   exact⟨Nat.le_refl _,x,by simp,hx⟩
  |false=>
   rw[hb] at h
   obtain⟨h1,y,hy,hr⟩:=ri hr h
   refine⟨a_,y,?_,hr⟩
   rw[show k-i=(k-(i+1))+1 by omega]
   exact hy
theorem lW {R:Seal}:∀{cs:List AVal} {vs:List Value},dO R cs vs->vs.length=cs.length
 |[],_,h=>by simp only[dO] at h;subst h;rfl
 |c::cs,_,h=>by
  obtain⟨v,t,rfl,_,h⟩:=h;simp[lW h]
def Oe (P:Program)[Tab P](env:Env)(H:Heap):ResultVar->AVal->Prop
 |.tmp t,v=>Env.get env t=some v
 | .cell a ty,v=>∃(b i:Nat) (eT:Option TypeId) (cs:List AVal) (x:TI),(Env.get env a=some (.raw (.pointer (some ⟨b,0,none⟩)))\/∃j,Env.get env a=some (.own j (.pointer (some ⟨b,0,none⟩))))/\H[i]? =some (HEnt.cells b eT cs)/\bi P ty=some x/\x.size=cs.length/\
   ((co x.desc=true/\v= .agg cs)\/(co x.desc=false/\cs=[v]/\v.isAgg=false))
def tb (P:Program)[Tab P](env:Env)(H:Heap):List ResultVar->List AVal->Prop
 |[],vs=>vs=[]
 |r::rs,vs=>∃v t,vs=v::t/\Oe P env H r v/\tb P env H rs t
def BP:List AVal->AVal
 |[v]=>v
 |vs=>.tuple vs
def TL (P:Program)[Tab P](rs:List ResultVar)(Qf:ct->Heap->Prop):aM->Env->Heap->Prop
 |.ret,env,H|.normal,env,H=>∃vs H',tb P env H rs vs/\H'.Sublist H/\Qf (.ret (BP vs)) H'
 |.panic v,_,H=>∃H',H'.Sublist H/\Qf (.panic v) H'
 |_,_,_=>False
def xl (tmps:Array Value):ResultVar->Sem Value
 |.tmp t=>pure (tmps.getD t undef)
 |.cell a t=>do loadVar t (<-asAddr (tmps.getD a undef))
theorem He (fn:Func)(tmps:Array Value):results fn tmps=(do
  let vs <-fn.results.mapM (xl tmps)
  pure (if h:vs.size=1 then vs[0] else .tuple vs)):=rfl
theorem Hg {P:Program}{D:List Deferred}[Tab P]{C:Ctx}{n:Nat}{env:Env}{H:Heap}{R:Seal}{w:World}{a:Act}{r:ResultVar}{v:AVal}(hm:MS C R H w)(hf:FS D n R env a)
  (h:Oe P env H r v):∃x,(xl a.tmps r).run P w= .ok x w/\bx R v x:=by
 cases r with
 |tmp t=>
  obtain⟨x,hx,hr⟩:=hf.fr t v h;exact⟨x,by simp[xl,hx],hr⟩
 |cell c ty=>
  obtain⟨b,i,eT,cs,x,hc,hi,ht,hs,hk⟩:=h;have hc':∃y,a.tmps[c]? =some y/\y= .pointer (some ⟨b,0,none⟩):=by
   rcases hc with hc|⟨j,hc⟩
   ·obtain⟨y,hy,hr⟩:=hf.fr c _ hc;exact⟨y,hy,ar.1 hr⟩
   ·obtain⟨y,hy,hr⟩:=hf.fr c _ hc;exact⟨y,hy,(aG.1 hr).1⟩
  obtain⟨y,hy,hr⟩:=hc';subst hr;obtain⟨Cs,e,fz,hb,hl,_⟩:=hm.heap.holds _ (q_ hi);have hlen:=aJ hl;simp only[xl,Array.getD_eq_getD_getElem?,hy,Z_,e_,asAddr,h_,c_,loadVar,dS ht];rcases hk with⟨ha,rfl⟩|⟨ha,rfl,hv⟩
  ·rw[ha];simp only[Zc,e_,aN ht,c_,loadCells];rw[je hb 0 x.size 0 _ (by simp at hlen;omega)];refine⟨_,rfl,?_,rfl⟩;simp at hlen;simp only[Value.cells,bJ];rw[u_ (by simp;omega)];simpa using hl
  ·rw[ha];simp only[Bu,Zd,run_load];obtain⟨z,hz,hrz⟩:=fo hl (i:=0) (c:=v) rfl;have:w.cell? ⟨b,0,none⟩=some z:=by simp only[World.cell?,hb];simpa using hz
   simp only[this];exact⟨z,rfl,cT hrz hv⟩
theorem wI {P:Program}{D:List Deferred}[Tab P]{C:Ctx}{n:Nat}{env:Env}{H:Heap}{R:Seal}{w:World}{a:Act}(hm:MS C R H w)(hf:FS D n R env a):
  ∀{rs:List ResultVar} {vs:List AVal},tb P env H rs vs->∃xs:List Value,(rs.mapM (xl a.tmps)).run P w= .ok xs w/\dO R vs xs
 |[],vs,h=>by simp only[tb] at h;subst h;exact⟨[],rfl,rfl⟩
 |r::rs,vs,h=>by
  obtain⟨v,t,rfl,h1,h2⟩:=h;obtain⟨x,hx,hr⟩:=Hg (P:=P) hm hf h1;obtain⟨xs,hxs,hrs⟩:=wI hm hf h2;refine⟨x::xs,?_,x,xs,rfl,hr,hrs⟩;simp only[List.mapM_cons,e_,hx,c_,hxs,h_]
theorem dT {P:Program}{D:List Deferred}[Tab P]{C:Ctx}{n:Nat}{env:Env}{H:Heap}{R:Seal}{w:World}{a:Act}{fn:Func}{vs:List AVal}(hm:MS C R H w)(hf:FS D n R env a)
  (h:tb P env H fn.results.toList vs):∃x,(results fn a.tmps).run P w= .ok x w/\bx R (BP vs) x:=by
 obtain⟨xs,hxs,hr⟩:=wI hm hf h;have hlen:=lW hr;refine⟨_,by rw[He];simp only[e_,Array.mapM_eq_mapM_toList,Sem.run_map,hxs,c_,h_];rfl,?_⟩
 match vs,xs,hlen,hr with
 |[],[],_,_=>exact⟨⟨#[],rfl,rfl⟩,rfl⟩
 |[v],[x],_,hr=>
  obtain⟨y,t,e,hy,_⟩:=hr;simp only[o_] at e;obtain⟨rfl,rfl⟩:=e;exact hy
 |v::v'::t,x::x'::s,_,hr=>exact⟨⟨_,by simp[Value.cells],hr⟩,rfl⟩
theorem p7 {P:Program}[Tab P]{G:Glo}{f:FuncId}{fn:Func}{c:Code}{avs:List AVal}{H:Heap}{Qf:ct->Heap->Prop}{n:Nat}{rs:List ResultVar}(hf:P.funcs[f]? =some fn)
  (hb:fn.body=some c) (hc:∀args w,(callFunc f args).run P w= .ok (.enter f args) w) (hn:fn.ntmps=n) (hrs:fn.results=rs.toArray) (hlen:Nat.ble avs.length n=true)
  (h:∀w0 R0 hG,bG P ⟨w0,R0,eG H,G,hG,[]⟩ n c (eY 0 avs) H (TL P rs Qf)):ad P G f avs H Qf:=by
 intro R w args hG hm ha;refine .inl ⟨hc args w,calls_of_wp hf hb ?_⟩;have hl:=lW ha;have hlen:=v_ hlen;simp only[r_] at hl;refine wp_mono (h w R hG R _ w hm ⟨λk v hk=> ?_,?_,rfl⟩) ?_
 ·obtain⟨_,x,hx,hr⟩:=ri ha hk;refine⟨x,?_,hr⟩;simp only[Nat.sub_zero,Array.getElem?_toList] at hx;have:=Array.getElem?_eq_some_iff.1 hx;rw[Array.getElem?_append_left this.1];exact hx
 ·simp only[Array.size_append,Array.size_replicate];omega
 ·rintro e a' w' ⟨x,env',H',R',q,er,hm',hf'⟩;have hrs':fn.results.toList=rs:=by rw[hrs]
  cases x with
  |normal=>
   simp only[aH] at er;subst er;obtain⟨vs,H'',hv,hs,q⟩:=q;obtain⟨y,hy,hr⟩:=dT (fn:=fn) hm' hf' (by rw[hrs'];exact hv);exact⟨hf'.defers,y,hy,_,H'',R',q,⟨y,rfl,hr⟩,hm'.drop hs⟩
  |ret=>
   simp only[aH] at er;subst er;obtain⟨vs,H'',hv,hs,q⟩:=q;obtain⟨y,hy,hr⟩:=dT (fn:=fn) hm' hf' (by rw[hrs'];exact hv);exact⟨hf'.defers,y,hy,_,H'',R',q,⟨y,rfl,hr⟩,hm'.drop hs⟩
  |panic v=>
   obtain⟨y,rfl,hr⟩:=er;obtain⟨H'',hs,q⟩:=q;exact⟨hf'.defers,_,H'',R',q,⟨y,rfl,hr⟩,hm'.drop hs⟩
  |exit i=>exact q.elim
  |goto i=>exact q.elim
def kj (env:Env):List Operand->Option (List AVal)
 |[]=>some []
 |x::t=>match ai env x,kj env t with
  |some v,some r=>some (v::r)
  |_,_=>none
theorem iO {R:Seal}{env:Env}{ρ:Operand->Value}(hf:∀x av,ai env x=some av->bx R av (ρ x)):
  ∀{l:List Operand} {avs:List AVal},kj env l=some avs->dO R avs (l.map ρ)
 |[],avs,h=>by simp only[kj,g_] at h;subst h;rfl
 |x::t,avs,h=>by
  simp only[kj] at h;split at h
  ·rename_i v r hv hr;simp only[g_] at h;subst h;exact⟨_,_,rfl,hf x v hv,iO hf hr⟩
  ·cases h
theorem j7 {R:Seal}:∀{a b:List AVal} {vs ws:List Value},dO R a vs->dO R b ws->dO R (a++b) (vs++ws)
 |[],_,_,_,h,k=>by simp only[dO] at h;subst h;exact k
 |c::cs,_,_,_,h,k=>by
  obtain⟨v,t,rfl,hv,h⟩:=h;exact⟨v,_,rfl,hv,j7 h k⟩
section
variable {P:Program} {C:Ctx} {n:Nat} {env:Env} {H:Heap} {Q:aM->Env->Heap->Prop} {ops:Array Oper} {rest:List Oper}
variable {d:Nat} {t:TypeId} {p:String} {af:Array Edge} {g:Option (Nat×Bool)} {b:Bool}
theorem TF {fv:Operand}{args:List Operand}{ts:Array TypeId}{f:FuncId}{l1 l2 avs:List AVal}{H1 H2:Heap}{Qf:ct->Heap->Prop}
  (hg:aQ ops env g=some (b,b)) (hdn:Nat.ble (d+1) n=true) (hfv:ai env fv=some (.func (.func f) l1 l2)) (ha:kj env args=some avs)
  (hs:ad P C.G f (l1++(avs++l2)) H1 Qf) (hH:H=H1++H2)
  (hret:∀v H',Qf (.ret v) H'->au P C n ops rest ((d,v)::env) (H'++H2) Q)
  (hpan:∀v H',Qf (.panic v) H'->Q (.panic v) env (H'++H2)):
  au P C n ops ({dst:=some d,op:=.call {callee:=.value fv,args:=args.toArray,argTypes:=ts},type:=t,pos:=p,after:=af,guard:=g}::rest) env H Q:=by
 subst hH;intro R a w hm hf;refine wpList_step λK hK=> ?_;rw[cB hf hg,if_pos (by simp)];obtain⟨⟨x1,x2,e,r1,r2⟩,_⟩:=bE (hf.eval hfv) rfl,trivial;simp only[o_,and_true] at e;have hrel:dO R (l1++(avs++l2)) (x1++args.toArray.map a.eval++x2).toList:=by
  have:=j7 r1 (j7 (iO (λx av h=>hf.eval h) ha) r2);simpa using this
 have hrun:(execOp a.eval {dst:=some d,op:=.call {callee:=.value fv,args:=args.toArray,argTypes:=ts},type:=t,pos:=p,after:=af,guard:=g:Oper}).run P w=
   (callFunc f (x1++args.toArray.map a.eval++x2)).run P w:=by
  simp only[execOp,resolve,e,Deferred.ofValue,e_,h_,c_,invoke]
 rcases hs R w _ hm.glo hm.enter hrel with⟨h1,h2⟩|⟨v,w',h1,res,H',R',q,er,hm'⟩
 ·rw[Oper.wp,hrun,h1,Oper.upon_enter];refine h2.mono ?_;rintro en w' ⟨res,H',R',q,er,hm'⟩;have hm'':=hm.call hm';have hf':=hf.mono hm'.ge;cases res with
  |ret v=>
   obtain⟨y,rfl,hr⟩:=er;exact hK _ _ (hret v H' q R' _ w' hm'' (hf'.put hdn hr))
  |panic v=>
   obtain⟨y,rfl,hr⟩:=er;exact⟨.panic v,env,_,R',hpan v H' q,⟨y,rfl,hr⟩,hm'',hf'⟩
 ·rw[Oper.wp,hrun,h1,Oper.upon_value];have hm'':=hm.call hm';have hf':=hf.mono hm'.ge;cases res with
  |ret v'=>
   obtain⟨y,e,hr⟩:=er;simp only[Ending.returned.injEq] at e;subst e;exact hK _ _ (hret v' H' q R' _ w' hm'' (hf'.put hdn hr))
  |panic v'=>obtain⟨y,e,_⟩:=er;cases e
end
end
section
open Go
set_option maxRecDepth 100000
def aw (d i:TypeInfo):TI:=⟨d.desc,i.size,i.bytes,i.zero,i.comparable⟩
theorem ae {P:Program}{l:List TI}{t:Nat}{d i:TypeInfo}(h:P.underlying t=some d.desc)(k:P.info? t=some i)(r:Bd P l (t+1)):Bd P (aw d i::l) t:=⟨⟨h,i,k,rfl,rfl,rfl,rfl⟩,r⟩
noncomputable def Jd:List TI:=[aw t0 t0,aw t1 t1,aw t2 t2,aw t3 t3,aw t4 t4,aw t5 t5,aw t5 t6,aw t7 t7,aw t7 t8,aw t9 t9,aw t9 t10,aw t9 t11,aw t12 t12,aw t13 t13,aw t13 t14,aw t15 t15,aw t16 t16,aw t17 t17,aw t18 t18,aw t18 t19,aw t20 t20,aw t21 t21,aw t22 t22,aw t23 t23,aw t23 t24,aw t3 t25,aw t26 t26,aw t26 t27,aw t28 t28,aw t29 t29,aw t30 t30,aw t30 t31,aw t32 t32,aw t33 t33,aw t34 t34,aw t35 t35,aw t36 t36,aw t37 t37,aw t38 t38,aw t39 t39,aw t40 t40,aw t41 t41,aw t42 t42,aw t43 t43,aw t44 t44,aw t45 t45,aw t46 t46,aw t47 t47,aw t48 t48,aw t49 t49,aw t49 t50,aw t51 t51,aw t51 t52,aw t53 t53,aw t53 t54,aw t55 t55,aw t56 t56,aw t57 t57,aw t57 t58,aw t59 t59,aw t60 t60,aw t61 t61,aw t62 t62,aw t63 t63,aw t64 t64,aw t65 t65,aw t65 t66,aw t67 t67,aw t68 t68,aw t69 t69,aw t70 t70,aw t71 t71,aw t72 t72,aw t73 t73,aw t74 t74,aw t75 t75,aw t75 t76,aw t77 t77,aw t78 t78,aw t79 t79,aw t80 t80,aw t81 t81,aw t82 t82,aw t83 t83,aw t84 t84,aw t85 t85,aw t86 t86,aw t86 t87,aw t88 t88,aw t89 t89,aw t90 t90,aw t91 t91,aw t91 t92,aw t93 t93,aw t94 t94,aw t95 t95,aw t96 t96,aw t97 t97,aw t98 t98,aw t99 t99,aw t100 t100,aw t101 t101,aw t102 t102,aw t103 t103,aw t104 t104,aw t104 t105,aw t106 t106,aw t107 t107,aw t108 t108,aw t109 t109,aw t110 t110,aw t110 t111,aw t112 t112,aw t113 t113,aw t114 t114,aw t115 t115,aw t116 t116,aw t117 t117,aw t118 t118,aw t119 t119,aw t120 t120,aw t121 t121,aw t122 t122,aw t123 t123,aw t124 t124,aw t125 t125,aw t126 t126,aw t127 t127,aw t128 t128,aw t128 t129,aw t130 t130,aw t131 t131,aw t132 t132,aw t133 t133,aw t134 t134,aw t135 t135,aw t136 t136,aw t137 t137,aw t138 t138,aw t139 t139,aw t140 t140,aw t141 t141,aw t142 t142,aw t143 t143,aw t144 t144,aw t145 t145,aw t146 t146,aw t147 t147,aw t148 t148,aw t149 t149,aw t150 t150,aw t151 t151,aw t152 t152,aw t153 t153,aw t154 t154,aw t155 t155,aw t155 t156,aw t157 t157,aw t158 t158,aw t159 t159,aw t160 t160,aw t161 t161,aw t162 t162,aw t163 t163,aw t164 t164,aw t165 t165,aw t166 t166,aw t166 t167,aw t168 t168,aw t169 t169,aw t170 t170,aw t170 t171,aw t172 t172,aw t173 t173,aw t174 t174,aw t175 t175,aw t176 t176,aw t177 t177,aw t178 t178,aw t179 t179,aw t180 t180,aw t181 t181,aw t181 t182,aw t183 t183,aw t184 t184,aw t185 t185,aw t186 t186,aw t187 t187,aw t188 t188,aw t189 t189,aw t190 t190,aw t191 t191,aw t192 t192,aw t193 t193,aw t12 t194,aw t195 t195,aw t195 t196,aw t197 t197,aw t198 t198,aw t198 t199,aw t200 t200,aw t5 t201,aw t202 t202,aw t203 t203,aw t204 t204,aw t205 t205,aw t206 t206,aw t207 t207,aw t208 t208,aw t209 t209,aw t210 t210,aw t211 t211,aw t212 t212,aw t213 t213,aw t214 t214,aw t215 t215,aw t216 t216,aw t217 t217,aw t218 t218,aw t219 t219,aw t220 t220,aw t221 t221,aw t222 t222,aw t223 t223,aw t224 t224,aw t225 t225,aw t226 t226,aw t227 t227,aw t228 t228,aw t229 t229,aw t230 t230,aw t231 t231,aw t232 t232,aw t233 t233,aw t234 t234,aw t235 t235,aw t236 t236,aw t237 t237,aw t238 t238,aw t239 t239,aw t239 t240,aw t241 t241,aw t242 t242,aw t243 t243,aw t244 t244,aw t245 t245,aw t246 t246,aw t247 t247,aw t248 t248,aw t249 t249,aw t250 t250,aw t251 t251,aw t252 t252,aw t253 t253,aw t254 t254,aw t255 t255,aw t256 t256,aw t257 t257,aw t258 t258,aw t259 t259,aw t260 t260,aw t261 t261,aw t262 t262,aw t263 t263,aw t264 t264,aw t265 t265,aw t266 t266,aw t267 t267,aw t268 t268,aw t269 t269,aw t270 t270,aw t271 t271,aw t272 t272,aw t273 t273,aw t274 t274,aw t275 t275,aw t276 t276,aw t277 t277,aw t278 t278,aw t279 t279,aw t280 t280,aw t281 t281,aw t282 t282,aw t282 t283,aw t284 t284,aw t285 t285,aw t286 t286,aw t3 t287,aw t288 t288,aw t289 t289,aw t290 t290,aw t291 t291,aw t292 t292,aw t293 t293,aw t293 t294,aw t295 t295,aw t296 t296,aw t297 t297,aw t298 t298,aw t299 t299,aw t300 t300,aw t301 t301,aw t302 t302,aw t303 t303,aw t304 t304,aw t305 t305,aw t305 t306,aw t305 t307,aw t308 t308,aw t308 t309,aw t310 t310,aw t310 t311,aw t312 t312,aw t312 t313,aw t314 t314,aw t314 t315,aw t316 t316,aw t316 t317,aw t318 t318,aw t318 t319,aw t320 t320,aw t321 t321,aw t322 t322,aw t323 t323,aw t323 t324,aw t325 t325,aw t326 t326,aw t326 t327,aw t328 t328,aw t329 t329,aw t329 t330,aw t331 t331,aw t332 t332,aw t333 t333,aw t334 t334,aw t335 t335,aw t335 t336,aw t337 t337,aw t337 t338,aw t339 t339,aw t339 t340,aw t341 t341,aw t342 t342,aw t343 t343,aw t344 t344,aw t345 t345,aw t346 t346,aw t347 t347,aw t348 t348,aw t349 t349,aw t350 t350,aw t350 t351,aw t352 t352,aw t353 t353,aw t354 t354,aw t355 t355,aw t356 t356,aw t357 t357,aw t358 t358,aw t359 t359,aw t360 t360,aw t361 t361,aw t362 t362,aw t363 t363,aw t364 t364,aw t236 t365,aw t366 t366,aw t367 t367,aw t368 t368,aw t368 t369,aw t370 t370,aw t371 t371,aw t372 t372,aw t373 t373,aw t374 t374,aw t375 t375,aw t376 t376,aw t377 t377,aw t378 t378,aw t379 t379,aw t380 t380,aw t380 t381,aw t382 t382,aw t383 t383,aw t384 t384,aw t384 t385,aw t386 t386,aw t386 t387,aw t388 t388,aw t389 t389,aw t390 t390,aw t391 t391,aw t392 t392,aw t393 t393,aw t394 t394,aw t395 t395,aw t396 t396,aw t397 t397,aw t397 t398,aw t399 t399,aw t400 t400,aw t401 t401,aw t402 t402,aw t403 t403,aw t404 t404,aw t404 t405,aw t406 t406,aw t407 t407,aw t407 t408,aw t409 t409,aw t5 t410,aw t411 t411,aw t21 t412,aw t21 t413,aw t414 t414,aw t414 t415,aw t416 t416,aw t417 t417,aw t418 t418,aw t418 t419,aw t420 t420,aw t89 t421,aw t422 t422,aw t423 t423,aw t423 t424,aw t425 t425,aw t425 t426,aw t427 t427,aw t428 t428,aw t429 t429,aw t430 t430,aw t431 t431,aw t431 t432,aw t433 t433,aw t434 t434,aw t435 t435,aw t436 t436,aw t436 t437,aw t438 t438,aw t21 t439,aw t440 t440,aw t440 t441,aw t442 t442]
theorem GR:Bd prog Jd 0:=ae underlying0 type0 <| ae underlying1 type1 <| ae underlying2 type2 <| ae underlying3 type3 <| ae underlying4 type4 <| ae underlying5 type5 <| ae underlying6 type6 <| ae underlying7 type7 <| ae underlying8 type8 <| ae underlying9 type9 <| ae underlying10 type10 <| ae underlying11 type11 <| ae underlying12 type12 <| ae underlying13 type13 <| ae underlying14 type14 <| ae underlying15 type15 <| ae underlying16 type16 <| ae underlying17 type17 <| ae underlying18 type18 <| ae underlying19 type19 <| ae underlying20 type20 <| ae underlying21 type21 <| ae underlying22 type22 <| ae underlying23 type23 <| ae underlying24 type24 <| ae underlying25 type25 <| ae underlying26 type26 <| ae underlying27 type27 <| ae underlying28 type28 <| ae underlying29 type29 <| ae underlying30 type30 <| ae underlying31 type31 <| ae underlying32 type32 <| ae underlying33 type33 <| ae underlying34 type34 <| ae underlying35 type35 <| ae underlying36 type36 <| ae underlying37 type37 <| ae underlying38 type38 <| ae underlying39 type39 <| ae underlying40 type40 <| ae underlying41 type41 <| ae underlying42 type42 <| ae underlying43 type43 <| ae underlying44 type44 <| ae underlying45 type45 <| ae underlying46 type46 <| ae underlying47 type47 <| ae underlying48 type48 <| ae underlying49 type49 <| ae underlying50 type50 <| ae underlying51 type51 <| ae underlying52 type52 <| ae underlying53 type53 <| ae underlying54 type54 <| ae underlying55 type55 <| ae underlying56 type56 <| ae underlying57 type57 <| ae underlying58 type58 <| ae underlying59 type59 <| ae underlying60 type60 <| ae underlying61 type61 <| ae underlying62 type62 <| ae underlying63 type63 <| ae underlying64 type64 <| ae underlying65 type65 <| ae underlying66 type66 <| ae underlying67 type67 <| ae underlying68 type68 <| ae underlying69 type69 <| ae underlying70 type70 <| ae underlying71 type71 <| ae underlying72 type72 <| ae underlying73 type73 <| ae underlying74 type74 <| ae underlying75 type75 <| ae underlying76 type76 <| ae underlying77 type77 <| ae underlying78 type78 <| ae underlying79 type79 <| ae underlying80 type80 <| ae underlying81 type81 <| ae underlying82 type82 <| ae underlying83 type83 <| ae underlying84 type84 <| ae underlying85 type85 <| ae underlying86 type86 <| ae underlying87 type87 <| ae underlying88 type88 <| ae underlying89 type89 <| ae underlying90 type90 <| ae underlying91 type91 <| ae underlying92 type92 <| ae underlying93 type93 <| ae underlying94 type94 <| ae underlying95 type95 <| ae underlying96 type96 <| ae underlying97 type97 <| ae underlying98 type98 <| ae underlying99 type99 <| ae underlying100 type100 <| ae underlying101 type101 <| ae underlying102 type102 <| ae underlying103 type103 <| ae underlying104 type104 <| ae underlying105 type105 <| ae underlying106 type106 <| ae underlying107 type107 <| ae underlying108 type108 <| ae underlying109 type109 <| ae underlying110 type110 <| ae underlying111 type111 <| ae underlying112 type112 <| ae underlying113 type113 <| ae underlying114 type114 <| ae underlying115 type115 <| ae underlying116 type116 <| ae underlying117 type117 <| ae underlying118 type118 <| ae underlying119 type119 <| ae underlying120 type120 <| ae underlying121 type121 <| ae underlying122 type122 <| ae underlying123 type123 <| ae underlying124 type124 <| ae underlying125 type125 <| ae underlying126 type126 <| ae underlying127 type127 <| ae underlying128 type128 <| ae underlying129 type129 <| ae underlying130 type130 <| ae underlying131 type131 <| ae underlying132 type132 <| ae underlying133 type133 <| ae underlying134 type134 <| ae underlying135 type135 <| ae underlying136 type136 <| ae underlying137 type137 <| ae underlying138 type138 <| ae underlying139 type139 <| ae underlying140 type140 <| ae underlying141 type141 <| ae underlying142 type142 <| ae underlying143 type143 <| ae underlying144 type144 <| ae underlying145 type145 <| ae underlying146 type146 <| ae underlying147 type147 <| ae underlying148 type148 <| ae underlying149 type149 <| ae underlying150 type150 <| ae underlying151 type151 <| ae underlying152 type152 <| ae underlying153 type153 <| ae underlying154 type154 <| ae underlying155 type155 <| ae underlying156 type156 <| ae underlying157 type157 <| ae underlying158 type158 <| ae underlying159 type159 <| ae underlying160 type160 <| ae underlying161 type161 <| ae underlying162 type162 <| ae underlying163 type163 <| ae underlying164 type164 <| ae underlying165 type165 <| ae underlying166 type166 <| ae underlying167 type167 <| ae underlying168 type168 <| ae underlying169 type169 <| ae underlying170 type170 <| ae underlying171 type171 <| ae underlying172 type172 <| ae underlying173 type173 <| ae underlying174 type174 <| ae underlying175 type175 <| ae underlying176 type176 <| ae underlying177 type177 <| ae underlying178 type178 <| ae underlying179 type179 <| ae underlying180 type180 <| ae underlying181 type181 <| ae underlying182 type182 <| ae underlying183 type183 <| ae underlying184 type184 <| ae underlying185 type185 <| ae underlying186 type186 <| ae underlying187 type187 <| ae underlying188 type188 <| ae underlying189 type189 <| ae underlying190 type190 <| ae underlying191 type191 <| ae underlying192 type192 <| ae underlying193 type193 <| ae underlying194 type194 <| ae underlying195 type195 <| ae underlying196 type196 <| ae underlying197 type197 <| ae underlying198 type198 <| ae underlying199 type199 <| ae underlying200 type200 <| ae underlying201 type201 <| ae underlying202 type202 <| ae underlying203 type203 <| ae underlying204 type204 <| ae underlying205 type205 <| ae underlying206 type206 <| ae underlying207 type207 <| ae underlying208 type208 <| ae underlying209 type209 <| ae underlying210 type210 <| ae underlying211 type211 <| ae underlying212 type212 <| ae underlying213 type213 <| ae underlying214 type214 <| ae underlying215 type215 <| ae underlying216 type216 <| ae underlying217 type217 <| ae underlying218 type218 <| ae underlying219 type219 <| ae underlying220 type220 <| ae underlying221 type221 <| ae underlying222 type222 <| ae underlying223 type223 <| ae underlying224 type224 <| ae underlying225 type225 <| ae underlying226 type226 <| ae underlying227 type227 <| ae underlying228 type228 <| ae underlying229 type229 <| ae underlying230 type230 <| ae underlying231 type231 <| ae underlying232 type232 <| ae underlying233 type233 <| ae underlying234 type234 <| ae underlying235 type235 <| ae underlying236 type236 <| ae underlying237 type237 <| ae underlying238 type238 <| ae underlying239 type239 <| ae underlying240 type240 <| ae underlying241 type241 <| ae underlying242 type242 <| ae underlying243 type243 <| ae underlying244 type244 <| ae underlying245 type245 <| ae underlying246 type246 <| ae underlying247 type247 <| ae underlying248 type248 <| ae underlying249 type249 <| ae underlying250 type250 <| ae underlying251 type251 <| ae underlying252 type252 <| ae underlying253 type253 <| ae underlying254 type254 <| ae underlying255 type255 <| ae underlying256 type256 <| ae underlying257 type257 <| ae underlying258 type258 <| ae underlying259 type259 <| ae underlying260 type260 <| ae underlying261 type261 <| ae underlying262 type262 <| ae underlying263 type263 <| ae underlying264 type264 <| ae underlying265 type265 <| ae underlying266 type266 <| ae underlying267 type267 <| ae underlying268 type268 <| ae underlying269 type269 <| ae underlying270 type270 <| ae underlying271 type271 <| ae underlying272 type272 <| ae underlying273 type273 <| ae underlying274 type274 <| ae underlying275 type275 <| ae underlying276 type276 <| ae underlying277 type277 <| ae underlying278 type278 <| ae underlying279 type279 <| ae underlying280 type280 <| ae underlying281 type281 <| ae underlying282 type282 <| ae underlying283 type283 <| ae underlying284 type284 <| ae underlying285 type285 <| ae underlying286 type286 <| ae underlying287 type287 <| ae underlying288 type288 <| ae underlying289 type289 <| ae underlying290 type290 <| ae underlying291 type291 <| ae underlying292 type292 <| ae underlying293 type293 <| ae underlying294 type294 <| ae underlying295 type295 <| ae underlying296 type296 <| ae underlying297 type297 <| ae underlying298 type298 <| ae underlying299 type299 <| ae underlying300 type300 <| ae underlying301 type301 <| ae underlying302 type302 <| ae underlying303 type303 <| ae underlying304 type304 <| ae underlying305 type305 <| ae underlying306 type306 <| ae underlying307 type307 <| ae underlying308 type308 <| ae underlying309 type309 <| ae underlying310 type310 <| ae underlying311 type311 <| ae underlying312 type312 <| ae underlying313 type313 <| ae underlying314 type314 <| ae underlying315 type315 <| ae underlying316 type316 <| ae underlying317 type317 <| ae underlying318 type318 <| ae underlying319 type319 <| ae underlying320 type320 <| ae underlying321 type321 <| ae underlying322 type322 <| ae underlying323 type323 <| ae underlying324 type324 <| ae underlying325 type325 <| ae underlying326 type326 <| ae underlying327 type327 <| ae underlying328 type328 <| ae underlying329 type329 <| ae underlying330 type330 <| ae underlying331 type331 <| ae underlying332 type332 <| ae underlying333 type333 <| ae underlying334 type334 <| ae underlying335 type335 <| ae underlying336 type336 <| ae underlying337 type337 <| ae underlying338 type338 <| ae underlying339 type339 <| ae underlying340 type340 <| ae underlying341 type341 <| ae underlying342 type342 <| ae underlying343 type343 <| ae underlying344 type344 <| ae underlying345 type345 <| ae underlying346 type346 <| ae underlying347 type347 <| ae underlying348 type348 <| ae underlying349 type349 <| ae underlying350 type350 <| ae underlying351 type351 <| ae underlying352 type352 <| ae underlying353 type353 <| ae underlying354 type354 <| ae underlying355 type355 <| ae underlying356 type356 <| ae underlying357 type357 <| ae underlying358 type358 <| ae underlying359 type359 <| ae underlying360 type360 <| ae underlying361 type361 <| ae underlying362 type362 <| ae underlying363 type363 <| ae underlying364 type364 <| ae underlying365 type365 <| ae underlying366 type366 <| ae underlying367 type367 <| ae underlying368 type368 <| ae underlying369 type369 <| ae underlying370 type370 <| ae underlying371 type371 <| ae underlying372 type372 <| ae underlying373 type373 <| ae underlying374 type374 <| ae underlying375 type375 <| ae underlying376 type376 <| ae underlying377 type377 <| ae underlying378 type378 <| ae underlying379 type379 <| ae underlying380 type380 <| ae underlying381 type381 <| ae underlying382 type382 <| ae underlying383 type383 <| ae underlying384 type384 <| ae underlying385 type385 <| ae underlying386 type386 <| ae underlying387 type387 <| ae underlying388 type388 <| ae underlying389 type389 <| ae underlying390 type390 <| ae underlying391 type391 <| ae underlying392 type392 <| ae underlying393 type393 <| ae underlying394 type394 <| ae underlying395 type395 <| ae underlying396 type396 <| ae underlying397 type397 <| ae underlying398 type398 <| ae underlying399 type399 <| ae underlying400 type400 <| ae underlying401 type401 <| ae underlying402 type402 <| ae underlying403 type403 <| ae underlying404 type404 <| ae underlying405 type405 <| ae underlying406 type406 <| ae underlying407 type407 <| ae underlying408 type408 <| ae underlying409 type409 <| ae underlying410 type410 <| ae underlying411 type411 <| ae underlying412 type412 <| ae underlying413 type413 <| ae underlying414 type414 <| ae underlying415 type415 <| ae underlying416 type416 <| ae underlying417 type417 <| ae underlying418 type418 <| ae underlying419 type419 <| ae underlying420 type420 <| ae underlying421 type421 <| ae underlying422 type422 <| ae underlying423 type423 <| ae underlying424 type424 <| ae underlying425 type425 <| ae underlying426 type426 <| ae underlying427 type427 <| ae underlying428 type428 <| ae underlying429 type429 <| ae underlying430 type430 <| ae underlying431 type431 <| ae underlying432 type432 <| ae underlying433 type433 <| ae underlying434 type434 <| ae underlying435 type435 <| ae underlying436 type436 <| ae underlying437 type437 <| ae underlying438 type438 <| ae underlying439 type439 <| ae underlying440 type440 <| ae underlying441 type441 <| ae underlying442 type442 <| trivial
noncomputable instance theTab:Tab prog:=⟨Jd,GR⟩
end
section
open Go
def aa (s:List UInt8)(k:Nat):Nat:=(s.getD k 0).toNat
theorem bu (s:List UInt8)(k:Nat):aa s k<256:=UInt8.toNat_lt _
def bW (s:List UInt8)(k:Nat):Bool:=decide (k<s.length)&&(aa s k/64==2)
def kY (r:Nat):Bool:=decide (r<=1114111)&&(decide (r<55296)||decide (57343<r))
def A1 (s:List UInt8):Nat:=aa s 0%32*64+aa s 1%64
def A0 (s:List UInt8):Nat:=(aa s 0%16*64+aa s 1%64)*64+aa s 2%64
def AZ (s:List UInt8):Nat:=((aa s 0%8*64+aa s 1%64)*64+aa s 2%64)*64+aa s 3%64
def aC (s:List UInt8):Nat×Nat:=
 if s.length=0 then(0,0)
 else if aa s 0<128 then(aa s 0,1)
 else if aa s 0/32=6 then(if bW s 1&&decide (128<=A1 s)&&kY (A1 s) then(A1 s,2) else(0,0))
 else if aa s 0/16=14 then(if bW s 1&&bW s 2&&decide (2048<=A0 s)&&kY (A0 s) then(A0 s,3) else(0,0))
 else if aa s 0/8=30 then(if bW s 1&&bW s 2&&bW s 3&&decide (65536<=AZ s)&&kY (AZ s) then(AZ s,4) else(0,0))
 else(0,0)
theorem rZ (s:List UInt8):(aC s).2<=s.length/\(aC s).2<=4/\(aC s).1<=1114111:=by
 have h:=bu s 0
 unfold aC
 split
 ·simp
 split
 ·simp only[];omega
 split
 ·split
  ·rename_i h;simp only[l_,bW,kY,n_] at h;simp only[];omega
  ·simp
 split
 ·split
  ·rename_i h;simp only[l_,bW,kY,n_] at h;simp only[];omega
  ·simp
 split
 ·split
  ·rename_i h;simp only[l_,bW,kY,n_] at h;simp only[];omega
  ·simp
 ·simp
def tW:Nat->List UInt8->Option Nat
 |0,_=>none
 |k+1,s=>if s.length=0 then none else if(aC s).2=0 then some 0 else(tW k (s.drop (aC s).2)).map (· +(aC s).2)
def kH (s:List UInt8):Option Nat:=tW s.length s
def dm (s:List UInt8):Int:=match kH s with|some i=>(i:Int)|none=> -1
theorem A8:∀(k:Nat) (s:List UInt8),s.length<=k->tW k s=tW s.length s:=by
  intro k
  induction k using Nat.strongRecOn with
  | _ k ih=>
    intro s hs
    cases k with
    | zero => have:s.length=0:=by omega
              rw[this]
    | succ k=>
      by_cases h0:s.length=0
      · rw[h0];simp[tW,h0]
      · obtain⟨m,hm⟩:∃m,s.length=m+1:=⟨s.length-1,a_⟩;rw[hm];simp only[tW,if_neg h0];by_cases hn:(aC s).2=0
        · rw[if_pos hn,if_pos hn]
        · rw[if_neg hn,if_neg hn];have hl:(s.drop (aC s).2).length<=m:=by rw[k_];omega
          rw[ih k a_ _ a_,ih m a_ _ hl]
theorem qd (s:List UInt8)(h0:s.length≠0):kH s=if(aC s).2=0 then some 0 else(kH (s.drop (aC s).2)).map (· +(aC s).2):=by
 obtain⟨m,hm⟩:∃m,s.length=m+1:=⟨s.length-1,a_⟩;unfold kH;rw[hm];simp only[tW,if_neg h0];by_cases hn:(aC s).2=0
 ·rw[if_pos hn,if_pos hn]
 ·rw[if_neg hn,if_neg hn,A8];rw[k_];omega
theorem F6 (s:List UInt8)(h0:s.length=0):kH s=none:=by unfold kH;rw[h0];rfl
def eN (s:List UInt8):Nat:=if(aC s).2=0 then 1 else(aC s).2
def fk (s:List UInt8):Nat:=if(aC s).2=0 then 65533 else(aC s).1
theorem cm (s:List UInt8)(p k:Nat):aa (s.drop p) k=aa s (p+k):=by
 simp[aa,List.getElem?_drop]
theorem H7 (s:List UInt8)(i:Nat):((⟨s.toArray⟩:ByteArray).get! i).toNat=aa s i:=by
 simp only[aa,ByteArray.get!];congr 1
 simp[List.getD];rfl
theorem GE (c:Nat):Utf8.valid (c:Int)=kY c:=by
 rw[w_];simp only[Utf8.valid,kY,Wk,l_,n_];omega
theorem FT (s:List UInt8)(p k:Nat):bW (s.drop p) k=(decide (p+k<s.length)&&(aa s (p+k)/64==2)):=by
 rw[w_];simp only[bW,cm,k_,l_,n_];constructor<;>rintro⟨h1,h2⟩<;>exact⟨a_,h2⟩
theorem YB (a b c d:Nat):a*262144+b*4096+c*64+d=((a*64+b)*64+c)*64+d:=by omega
theorem YC (a b c:Nat):a*4096+b*64+c=(a*64+b)*64+c:=by omega
theorem so (s:List UInt8)(p:Nat)(hp:p<s.length):
  Utf8.decode ⟨s.toArray⟩ p=if(aC (s.drop p)).2=0 then(65533,1) else aC (s.drop p):=by
 have hsz:(⟨s.toArray⟩:ByteArray).size=s.length:=by simp[ByteArray.size]
 have h0:¬(s.drop p).length=0:=by rw[k_];omega
 simp only[Utf8.decode,H7,hsz,Utf8.runeError,aC,if_neg h0,FT,A1,A0,AZ,cm,Nat.add_zero,YC,YB,GE];generalize aa s p=b0;generalize (decide (p+1<s.length)&&(aa s (p+1)/64==2))=k1;generalize (decide (p+2<s.length)&&(aa s (p+2)/64==2))=k2;generalize (decide (p+3<s.length)&&(aa s (p+3)/64==2))=k3;generalize aa s (p+1)=b1;generalize aa s (p+2)=b2;generalize aa s (p+3)=b3;by_cases c1:b0<128
 ·simp only[if_pos c1];rfl
 simp only[if_neg c1];by_cases c2:b0/32=6
 ·have c3:¬b0/16=14:=by omega
  have c4:¬b0/8=30:=by omega
  have hm:128<=b0%32*64+b1%64->kY (b0%32*64+b1%64)=true:=by
   intro h;simp only[kY,l_,Wk,n_];omega
  cases k1<;>by_cases h:128<=b0%32*64+b1%64<;>simp[c2,c3,c4,h,hm]
 by_cases c3:b0/16=14
 ·have c4:¬b0/8=30:=by omega
  generalize (b0%16*64+b1%64)*64+b2%64=r;cases k1<;>cases k2<;>cases hm:kY r<;>by_cases h:2048<=r<;>simp[c2,c3,c4,h,hm]
 by_cases c4:b0/8=30
 ·generalize ((b0%8*64+b1%64)*64+b2%64)*64+b3%64=r;cases k1<;>cases k2<;>cases k3<;>cases hm:kY r<;>by_cases h:65536<=r<;>simp[c2,c3,c4,h,hm]
 ·simp[c2,c3,c4]
end
section
open Go
theorem Bn (b:ByteArray):(⟨b.data.toList.toArray⟩:ByteArray)=b:=by cases b;simp
theorem bH (l:List UInt8):(⟨l.toArray⟩:ByteArray).size=l.length:=by simp[ByteArray.size]
theorem GT (a b:List UInt8):(⟨a.toArray⟩:ByteArray)++⟨b.toArray⟩=⟨(a++b).toArray⟩:=by
 ext1;simp
theorem DD (l:List UInt8)(i j:Nat):(⟨l.toArray⟩:ByteArray).extract i j=⟨((l.take j).drop i).toArray⟩:=by
 apply ByteArray.ext;simp[List.drop_take]
theorem RL (l:List UInt8)(i:Nat)(h:i<l.length):(⟨l.toArray⟩:ByteArray)[i]? =some l[i]:=by
 have hs:i<(⟨l.toArray⟩:ByteArray).size:=by rw[bH];exact h
 rw[getElem?_pos _ i hs];exact congrArg some (show l.toArray[i]=l[i] by simp)
def MX:List Int:=[1,2,4,8,16,32,64,128,256,512,1024,2048,4096,8192,16384,32768,65536,131072,262144,524288,1048576,2097152,4194304,8388608,16777216,33554432,67108864,134217728,268435456,536870912,1073741824,2147483648,4294967296]
def Jw:List Int->Nat->Bool
 |[],_=>true
 |c::r,i=>decide (((2^i:Nat):Int)=c)&&Jw r (i+1)
theorem z8:∀{l:List Int} {i k:Nat} {c:Int},Jw l i=true->B3 l k=some c->((2^(i+k):Nat):Int)=c
 |[],_,_,_,_,h=>by simp[B3] at h
 |x::r,i,0,c,ho,h=>by
  simp only[B3,g_] at h;subst h;simp only[Jw,l_,n_] at ho;exact ho.1
 |x::r,i,k+1,c,ho,h=>by
  simp only[Jw,l_] at ho;rw[show i+(k+1)=(i+1)+k by omega];exact z8 ho.2 h
theorem Ej {e:Nat}{c:Int}(h:B3 MX e=some c):((2^e:Nat):Int)=c:=by
 have:=z8 (l:=MX) (i:=0) (by decide+kernel) h;rwa [Nat.zero_add] at this
def gN:IntKind->Int->Prop
 |.i8,n=> -128<=n/\n<=127
 |.i16,n=> -32768<=n/\n<=32767
 |.i32,n=> -2147483648<=n/\n<=2147483647
 |.i64,n=> -9223372036854775808<=n/\n<=9223372036854775807
 |.u8,n=>0<=n/\n<=255
 |.u16,n=>0<=n/\n<=65535
 |.u32,n=>0<=n/\n<=4294967295
 |.u64,n=>0<=n/\n<=18446744073709551615
theorem iF {k:IntKind}{n:Int}(h:gN k n):k.wrap n=n:=by
 cases k
 ·exact IntWalk.i8_in n h
 ·exact IntWalk.i16_in n h
 ·exact IntWalk.i32_in n h
 ·exact IntWalk.i64_in n h
 ·exact IntWalk.u8_in n h
 ·exact IntWalk.u16_in n h
 ·exact IntWalk.u32_in n h
 ·exact IntWalk.u64_in n h
def fe:IntKind->Int×Int
 |.i8=>(-128,127)
 |.i16=>(-32768,32767)
 |.i32=>(-2147483648,2147483647)
 |.i64=>(-9223372036854775808,9223372036854775807)
 |.u8=>(0,255)
 |.u16=>(0,65535)
 |.u32=>(0,4294967295)
 |.u64=>(0,18446744073709551615)
theorem XQ {k:IntKind}{n lo hi:Int}(hk:fe k=(lo,hi))(h1:lo<=n)(h2:n<=hi):gN k n:=by
 cases k<;>(simp only[fe,YV] at hk;obtain⟨rfl,rfl⟩:=hk;exact⟨h1,h2⟩)
section
variable {P:Program} {C:Ctx} {n:Nat} {env:Env} {H:Heap} {Q:aM->Env->Heap->Prop} {ops:Array Oper} {rest:List Oper}
variable {d:Nat} {t:TypeId} {p:String} {af:Array Edge} {g:Option (Nat×Bool)} {b:Bool} {av:AVal}
variable {x y:Operand} {tx ty:TypeId}
theorem CN {k:IntKind}{m q:Int}(f:(w:Nat)->BitVec w->BitVec w->BitVec w)(f':Nat->Nat->Nat)
  (hff:∀a c,(f k.bits (BitVec.ofNat k.bits a) (BitVec.ofNat k.bits c)).toNat=f' (a%2^k.bits) (c%2^k.bits))
  (hlt:∀a c e,a<2^e->c<2^e->f' a c<2^e) (hm:0<=m) (hq:0<=q) (hm':gN k m) (hq':gN k q):
  k.wrap ((f k.bits (BitVec.ofInt k.bits m) (BitVec.ofInt k.bits q)).toNat:Int)=(f' m.toNat q.toNat:Nat):=by
 obtain⟨a,rfl⟩:=Int.eq_ofNat_of_zero_le hm;obtain⟨c,rfl⟩:=Int.eq_ofNat_of_zero_le hq;have h1:∀a:Nat,BitVec.ofInt k.bits (a:Int)=BitVec.ofNat k.bits a:=λa=>by simp
 rw[h1,h1,hff];have key:∀e,e<=k.bits->(∀z:Nat,z<2^e->gN k z)->a<2^e->c<2^e->
   k.wrap ((f' (a%2^k.bits) (c%2^k.bits):Nat):Int)=(f' a c:Nat):=by
  intro e he hz ha hc;have hle:2^e<=2^k.bits:=Nat.pow_le_pow_right a_ he;rw[Nat.mod_eq_of_lt a_,Nat.mod_eq_of_lt a_];exact iF (hz _ (hlt _ _ _ ha hc))
 simp only[B_];cases k<;>simp only[gN] at hm' hq'
 ·exact key 7 b_ (λz hz=>by simp only[gN];omega) a_ a_
 ·exact key 15 b_ (λz hz=>by simp only[gN];omega) a_ a_
 ·exact key 31 b_ (λz hz=>by simp only[gN];omega) a_ a_
 ·exact key 63 b_ (λz hz=>by simp only[gN];omega) a_ a_
 ·exact key 8 b_ (λz hz=>by simp only[gN];omega) a_ a_
 ·exact key 16 b_ (λz hz=>by simp only[gN];omega) a_ a_
 ·exact key 32 b_ (λz hz=>by simp only[gN];omega) a_ a_
 ·exact key 64 b_ (λz hz=>by simp only[gN];omega) a_ a_
def aY (x y:List UInt8):Bool:=x==y
theorem bZ {x y:List UInt8}:aY x y=true↔x=y:=by simp[aY]
theorem ku {x y:List UInt8}:aY x y=false↔x≠y:=by simp[aY]
theorem N0 {x y:List UInt8}:aY x y=(x==y):=rfl
attribute [irreducible] aY
def Ld (x y:List UInt8):Bool:=Op.bytesLess x y
theorem NY {x y:List UInt8}:Ld x y=Op.bytesLess x y:=rfl
attribute [irreducible] Ld
def GU (op:BinOp)(x y:List UInt8):Option AVal:=
 match op with
 |.eql=>some (.bool (aY x y))
 |.neq=>some (.bool (!(aY x y)))
 |.lss=>some (.bool (Ld x y))
 |.leq=>some (.bool (Ld x y||aY x y))
 |.gtr=>some (.bool (!(Ld x y||aY x y)))
 |.geq=>some (.bool (!Ld x y))
 |_=>none
def iC (env:Env)(dflt:Int):Option Operand->Option Int
 |none=>some dflt
 |some x=>match ai env x with
  |some (.int _ i)=>some i
  |_=>none
theorem A5 {R:Seal}{ρ:Operand->Value}(hf:qF R env ρ){dflt i:Int}{lo:Option Operand}(hlo:iC env dflt lo=some i):
  (lo=none/\i=dflt)\/∃z k,lo=some z/\ρ z= .int k i:=by
 cases lo with
 |none=>simp only[iC,g_] at hlo;exact .inl ⟨rfl,hlo.symm⟩
 |some z=>
  simp only[iC] at hlo;split at hlo
  ·rename_i k j hz;simp only[g_] at hlo;subst hlo;exact .inr ⟨z,k,rfl,aq.1 (hf _ _ hz)⟩
  ·cases hlo
theorem yE {P:Program}{R:Seal}{ρ:Operand->Value}(hf:qF R env ρ){isS:Bool}{len cap:Nat}{lo hi:Option Operand}{i j:Int}(hlo:iC env 0 lo=some i)(hhi:iC env len hi=some j)
  (h0:0<=i) (hij:i<=j) (hj:j<=cap) (_hlc:len<=cap) (w:World):
  (Instr.sliceBounds isS len cap (lo.map ρ) (hi.map ρ) none).run P w= .ok (i.toNat,j.toNat,cap) w:=by
 have hb:∀(k:IntKind) (u:Int) (y:Nat) (c:BoundsCode),0<=u->u<=y->(Instr.sliceBound (.int k u) y c).run P w= .ok u.toNat w:=by
  intro k u y c h1 h2;simp only[Instr.sliceBound,asIntOf,e_,h_,c_];rw[if_pos ⟨h1,h2⟩];rfl
 rcases A5 hf hlo with⟨rfl,rfl⟩|⟨z,k,rfl,hz⟩<;>rcases A5 hf hhi with⟨rfl,rfl⟩|⟨z',k',rfl,hz'⟩
 ·simp only[Instr.sliceBounds,Option.map_none,e_,h_,c_];simp
 ·simp only[Instr.sliceBounds,Option.map_none,YZ,hz',e_,h_,c_];rw[hb k' j cap _ a_ hj];simp
 ·simp only[Instr.sliceBounds,Option.map_none,YZ,hz,e_,h_,c_,Option.isSome_none,Bu,Zd];rw[hb k i len _ h0 hij];simp
 ·simp only[Instr.sliceBounds,Option.map_none,YZ,hz,hz',e_,h_,c_,Option.isSome_none,Bu,Zd];rw[hb k' j cap _ a_ hj];simp only[c_];rw[hb k i j.toNat _ h0 a_];simp
end
end
end Go.Proofs.YtnbaflecdkgihaaGreatDoor
