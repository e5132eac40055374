/- Parts of the proof of canonItems_card. -/
import Derived.Test.YtmdhmodenkjmdaaGreatDoorRows
import Derived.ProofKit
import Derived.LaidMore
import Derived.Lay
import Derived.Stop.Joined
import Derived.LaidSub
import Derived.LaidHandle
import Derived.OpenShut
import Derived.Lib.MapLaws
import Derived.Lib.LastIndexByte
import Derived.Lib.Replace
import Derived.Lib.IndexBytes
import Derived.Deep.Strs
import Derived.Shelf.Vars
import Derived.SizedLaws
import Derived.Test.YtmdhmodenkjmdaaGreatDoorBak
set_option linter.unusedVariables false
set_option linter.unusedSimpArgs false
set_option linter.unusedSectionVars false
namespace Go.Proofs.YtmdhmodenkjmdaaGreatDoor
open Go Go.RowKit
open Go.Proofs.Tryz Go.Proofs.YtmdhmodenkjmdaaGreatDoor.Tryz
set_option maxRecDepth 20000
set_option maxHeartbeats 4000000
section
set_option maxHeartbeats 8000000
attribute [local irreducible] bI ap az aW ab ad
theorem zc (n:Int):(fQ n).length=4:=rfl
theorem eY (n:Int):(cg n).length=2:=rfl
theorem Ca (n:Int):(fY n).length<=100:=by
 unfold fY
 (repeat' split)<;>simp[eY]
theorem mU {t:Stm}(hf:t.frm=true){P:Prop}(h:L8 (cZ (ar t.y) (ar t.m) (ar t.d)) (cZ (ar t.h) (ar t.i) (ar t.s))=true->(t.z=true->ar t.h=true)->P):P:=by
 unfold Stm.frm at hf;rw[Bool.and_eq_true] at hf;refine h hf.1 λhz=> ?_;have:=hf.2;rw[hz] at this;exact this
theorem NJ {d t:Int}(h:L8 d t=true):0<=d:=by
 unfold L8 at h;exact(of_decide_eq_true h).1
theorem NI {d t:Int}(h:L8 d t=true):0<=t:=by
 unfold L8 at h;exact(of_decide_eq_true h).2.1
theorem HX (t:Stm):(kT (ar t.y) (ar t.m) (ar t.d) t.y t.m t.d).length<=8:=by
 cases ar t.y<;>cases ar t.m<;>cases ar t.d<;>simp[kT,fQ,cg,bw]
theorem FL (t:Stm):(jT (ar t.h) (ar t.i) (ar t.s) t.h t.i t.s).length<=8:=by
 cases ar t.h<;>cases ar t.i<;>cases ar t.s<;>simp[jT,cg,bw]
def Stm.R (t:Stm):List AVal:=[.int .i64 t.y,.int .i64 t.m,.int .i64 t.d,.int .i64 t.h,.int .i64 t.i,.int .i64 t.s,.bool t.z,.int .i64 t.o]
attribute [local irreducible] fQ cg fY
theorem sD {G:Glo}{m:Int}(hU:ab G (cw m))(t:Stm)(hf:t.frm=true)(hr:t.rng=true)(hE:t.E= .none):an prog G 150 [t.A] (.tuple [.str t.txt,Err.none.A]):=by
 have h0:=jr (G:=G) hU t;rw[hE] at h0
 have h1:=ld (G:=G) t.y t.m t.d
 have h2:=ld (G:=G) t.h t.i t.s
 have h3:=qh (G:=G) t.o
 have hc:=call200
 have k1:=λn a b=>Dv (G:=G) n a b
 have k2:=λn a b=>Fy (G:=G) n a b
 have l1:=zc t.y
 have l2:=eY t.m
 have l3:=eY t.d
 have l4:=eY t.h
 have l5:=eY t.i
 have l6:=eY t.s
 have l7:=Ca t.o
 have r:=hr
 unfold Stm.rng at r
 simp only[Bool.and_eq_true,qk] at r
 obtain⟨r1,r2,r3,r4,r5,r6, -⟩:=r
 have r3':t.d= -1\/1<=t.d/\t.d<=31:=by
  refine r3.imp_right λh=>⟨h.1,?_⟩
  have:=h.2
  unfold Stm.day pL at this
  (repeat' split at this)<;>omega
 clear r3
 have hx:t.txt=kT (ar t.y) (ar t.m) (ar t.d) t.y t.m t.d++jT (ar t.h) (ar t.i) (ar t.s) t.h t.i t.s++(if t.z then fY t.o else[]):=rfl
 have hD:=HX t
 have hT:=FL t
 refine mU hf λk kz=> ?_
 refine jZ func150 call150 λC hC hGL=> ?_
 refine cut hC hGL [(1,.rop t.R 0)] [] True ?_ λ_=> ?_
 ·exact bK
 refine cut hC hGL [(1,.rop t.R 0)] [] True ?_ λ_=> ?_
 ·exact bK
 refine cut hC hGL [(1,.rop t.R 0),(5,.str [])] [] True ?_ λ_=> ?_
 ·exact bK
 refine cut hC hGL [(1,.rop t.R 0),(5,.str (kT (ar t.y) (ar t.m) (ar t.d) t.y t.m t.d))] [] True ?_ λ_=> ?_
 ·clear h0 h2 h3 hx hD hT kz l4 l5 l6 l7 r4 r5 r6
  cases e1:ar t.y
  all_goals cases e2:ar t.m
  all_goals cases e3:ar t.d
  all_goals rw[e1,e2,e3] at k h1
  all_goals try exact absurd (NJ k) (by decide)
  all_goals clear k
  all_goals simp only[sB,No,if_true,Bool.false_eq_true,if_false] at h1
  all_goals simp only[jS,Cm] at e1 e2 e3
  all_goals exact bK
 generalize kT (ar t.y) (ar t.m) (ar t.d) t.y t.m t.d=D at*
 clear h0 h1 l1 l2 l3 r1 r2 r3'
 refine cut hC hGL [(1,.rop t.R 0),(5,.str D),(6,.str (sB (ar t.h) (ar t.i) (ar t.s)))] [] True ?_ λ_=> ?_
 ·exact bK
 refine cut hC hGL [(1,.rop t.R 0),(5,.str D),(6,.str (sB (ar t.h) (ar t.i) (ar t.s)))] [] (sB (ar t.h) (ar t.i) (ar t.s)≠[45,45,45]) ?_ λhn=> ?_
 ·refine xw ?_
  repeat' first|exact .n|apply Lc.mk
  all_goals intros
  all_goals first
   |contradiction
   |(apply aj;refine congrArg (λl=>AVal.tuple [.str l,Err.none.A]) ?_;have hq:=(show sB (ar t.h) (ar t.i) (ar t.s)=[45,45,45] by assumption);rw[hx];revert hq kz;cases ar t.h<;>cases ar t.i<;>cases ar t.s<;>simp[sB,No,jT]<;>(intro a b;rw[a] at b;cases b))
 refine cut hC hGL [(1,.rop t.R 0),(5,.str (D++[84])),(6,.str (sB (ar t.h) (ar t.i) (ar t.s)))] [] True ?_ λ_=> ?_
 ·exact bK
 refine cut hC hGL [(1,.rop t.R 0),(5,.str (D++[84])),(6,.str (sB (ar t.h) (ar t.i) (ar t.s))),(7,.bool false)] [] True ?_ λ_=> ?_
 ·exact bK
 refine ka hC hGL (λq:List UInt8=>[(1,.rop t.R 0),(5,.str q)]) (λ_=>[]) (λq=>q=D++jT (ar t.h) (ar t.i) (ar t.s) t.h t.i t.s) ?_ λq hq=> ?_
 ·clear hx kz hT h3
  cases e4:ar t.h
  all_goals cases e5:ar t.i
  all_goals cases e6:ar t.s
  all_goals rw[e4,e5,e6] at k hn
  all_goals try exact absurd (NI k) (by decide)
  all_goals try exact absurd rfl hn
  all_goals clear k hn
  all_goals simp only[jS,Cm] at e4 e5 e6
  all_goals simp only[sB,No,if_true,Bool.false_eq_true,if_false]
  all_goals
   refine aZ ?_
   refine ja hC hGL 4 ?_
   refine aZ ?_
   intros
   refine aO hC hGL (du (i:=0) rfl rfl rfl rfl rfl rfl rfl (show _<3 by decide) rfl rfl) rfl rfl ?_
   refine aZ ?_
   intros
   refine aO hC hGL (du (i:=1) rfl rfl rfl rfl rfl rfl rfl (show _<3 by decide) rfl rfl) rfl rfl ?_
   refine aZ ?_
   intros
   refine aO hC hGL (du (i:=2) rfl rfl rfl rfl rfl rfl rfl (show _<3 by decide) rfl rfl) rfl rfl ?_
   refine aZ ?_
   intros
   refine cy _ ?_
   simp only[jT,List.append_assoc]
 subst hq
 refine ka hC hGL (λq:List UInt8=>[(1,.rop t.R 0),(5,.str q)]) (λ_=>[]) (λq=>q=t.txt) ?_ λq hq=> ?_
 ·rw[hx]
  refine xw ?_
  repeat' first|exact .n|apply Lc.mk
  all_goals intros
  all_goals first
   |(refine cy _ ?_;rw[if_pos (by assumption)])
   |(refine cy _ ?_;rw[if_neg (by rw[show t.z=false by assumption];decide),List.append_nil])
 subst hq
 exact aI hC hGL bK
theorem zZ {G:Glo}{m:Int}(hU:ab G (cw m))(t:Stm):an prog G 150 [t.A] (.tuple [.str t.T,t.E.A]):=by
 cases hf:t.frm with
 |true=>
  cases hr:t.rng with
  |true=>
   have hE:t.E= .none:=by unfold Stm.E;rw[hf,hr];rfl
   rw[hE,show t.T=t.txt by unfold Stm.T;rw[hf,hr];rfl];exact sD hU t hf hr hE
  |false=>
   have h0:=jr (G:=G) hU t;have hE:t.E= .errno 2:=by unfold Stm.E;rw[hf,hr];rfl
   rw[hE] at h0 ⊢;rw[show t.T=[] by unfold Stm.T;rw[hf,hr];rfl];refine aw func150 call150 λC hC hGL=> ?_;exact bK
 |false=>
  have h0:=jr (G:=G) hU t;have hE:t.E= .errno 3:=by unfold Stm.E;rw[hf];rfl
  rw[hE] at h0 ⊢;rw[show t.T=[] by unfold Stm.T;rw[hf];rfl];refine aw func150 call150 λC hC hGL=> ?_;exact bK
end
section
def KI (i:Nat):List UInt8:=[[],[97],[97,98],[97,98,99],[98],[98,99],[99]].getD i []
def bX (i:Nat):List UInt8:=[[],[57,57,57,57],[57,57,57,57,45,57,57],[57,57,57,57,57,57,57,57],[45,45,57,57],[45,45,57,57,57,57],[45,45,45,57,57]].getD i []
def fB (i:Nat):List UInt8:=[[],[57,57],[57,57,57,57],[57,57,57,57,57,57],[45,57,57],[45,57,57,57,57],[45,45,57,57]].getD i []
def vh (i:Nat):AVal:=.agg [.str (KI i),.str (bX i),.str (fB i)]
def shapesTy:List (Nat×List AVal):=[(4,[.list 3 7 vh])]
set_option maxHeartbeats 8000000
attribute [local irreducible] bI ap az aW ab ad
theorem lm {G:Glo}(hGL:ab G shapesTy)(a b c:Int):an prog G 130 [FN a b c] (.int .i64 (cZ (ar a) (ar b) (ar c))):=by
 by_cases h1:a= -1;all_goals by_cases h2:b= -1
 all_goals by_cases h3:c= -1
 all_goals
  refine pK func130 call130 rfl rfl rfl rfl hGL ?_;intro C hC;refine aZ ?_;intros;refine ja hC hGL 4 ?_;refine aZ ?_;intros;refine ja hC hGL 8 ?_;refine xw ?_;repeat' first|exact .n|apply Lc.mk
  all_goals intros
  all_goals (apply aj;simp only[ar,h1,h2,h3,ne_eq,not_true_eq_false,not_false_eq_true,decide_true,decide_false];rfl)
end
section
def Es (f:Nat->Nat)(s:List UInt8):List UInt8:=s.map λc=>UInt8.ofNat (f c.toNat)
theorem G3 (f:Nat->Nat)(s:List UInt8):(Es f s).length=s.length:=by simp[Es]
theorem zG {f:Nat->Nat}(hf:∀c,c<256->f c<256){s:List UInt8}{j:Nat}(h:j<s.length):aa (Es f s) j=f (aa s j):=by
 have e1:aa (Es f s) j=(UInt8.ofNat (f s[j].toNat)).toNat:=by simp[aa,Es,List.getD,h]
 rw[e1,bU h,UInt8.toNat_ofNat'];have:=hf _ (UInt8.toNat_lt s[j]);omega
def nj (c:Nat):Nat:=if 48<=c/\c<=57 then 57 else c
theorem GP:∀c,c<256->nj c<256:=by intro c h;unfold nj;split<;>omega
def DN (s:List UInt8):List UInt8:=Es nj s
theorem JC {c:Nat}:nj c=57↔(48<=c/\c<=57):=by unfold nj;split<;>omega
theorem JB {c k:Nat}(h:¬(48<=k/\k<=57)):nj c=k↔c=k:=by unfold nj;split<;>omega
theorem LI {s:List UInt8}{j:Nat}(h:j<s.length):aa (DN s) j=nj (aa s j):=zG GP h
attribute [local irreducible] bI ap aa az aW ab ad
attribute [local irreducible] DN
end
section
theorem Cr (s:List UInt8):(DN s).length=s.length:=G3 _ _
theorem F5 {s u:List UInt8}(h:DN s=u):s.length=u.length/\∀i,i<u.length->nj (aa s i)=aa u i:=by
 subst h;refine⟨(Cr s).symm,λi hi=> ?_⟩;rw[Cr] at hi;exact(LI hi).symm
theorem I0 {s:List UInt8}{n i:Nat}(h:i<n):aa (s.take n) i=aa s i:=by
 unfold aa;simp[List.getD,List.getElem?_take_of_lt h]
theorem MY {j:Nat}(h1:1<=j)(h6:j<=6):∀i,i<(fB j).length->aa (fB j) i=57\/(aa (fB j) i=45/\i<2):=by
 rcases(show j=1\/j=2\/j=3\/j=4\/j=5\/j=6 by omega) with rfl|rfl|rfl|rfl|rfl|rfl<;>decide
structure IN (t:List UInt8) (j n:Nat):Prop where
 j1:1<=j
 j6:j<=6
 hn:n<=t.length
 hs:DN (t.take n)=fB j
 hz:n=t.length\/aa t n=90\/aa t n=43\/aa t n=45
theorem IN.len {t:List UInt8}{j n:Nat}(h:IN t j n):n=(fB j).length:=by
 have:=(F5 h.hs).1;rw[List.length_take] at this;have:=h.hn;omega
theorem IN.at {t:List UInt8}{j n:Nat}(h:IN t j n):∀i,i<n->(48<=aa t i/\aa t i<=57)\/(aa t i=45/\i<2):=by
 intro i hi;have h1:=(F5 h.hs).2 i (by rw[<-h.len];exact hi);rw[I0 hi] at h1;rcases MY h.j1 h.j6 i (by rw[<-h.len];exact hi) with k|⟨k,k2⟩
 ·rw[k] at h1;exact .inl (JC.1 h1)
 ·rw[k] at h1;exact .inr ⟨(JB (by omega)).1 h1,k2⟩
instance (t:List UInt8) (j n:Nat):Decidable (IN t j n):=
 if h:1<=j/\j<=6/\n<=t.length/\DN (t.take n)=fB j/\(n=t.length\/aa t n=90\/aa t n=43\/aa t n=45) then isTrue ⟨h.1,h.2.1,h.2.2.1,h.2.2.2.1,h.2.2.2.2⟩ else isFalse λk=>h ⟨k.1,k.2,k.3,k.4,k.5⟩
def Stm.no:Stm:=⟨0,0,0,0,0,0,false,0⟩
end
section
inductive Tk where
 |one (c:UInt8)
 |two (d:UInt8)
def Tk.raw:Tk->List UInt8
 |.one c=>[c]
 |.two d=>[92,d]
def NY (d:UInt8):UInt8:=if d=110\/d=78 then 10 else d
def Tk.val:Tk->UInt8
 |.one c=>c
 |.two d=>NY d
def okE (d:UInt8):Bool:=decide (d=92\/d=44\/d=59\/d=110\/d=78)
def Tk.ok:Tk->Prop
 |.one c=>c≠92
 |.two d=>okE d=true
end
section
end
section
end
section
set_option maxHeartbeats 8000000
attribute [local irreducible] bI ap az aW ab ad aa NY bQ
end
section
set_option maxHeartbeats 8000000
attribute [local irreducible] bI ap az aW ab ad aa
end
section
set_option maxHeartbeats 8000000
attribute [local irreducible] bI ap az aW ab ad aa
theorem HE {G:Glo}(e p:Int):an prog G 31 [.agg [.int .i64 e,.int .i64 p]] (.bool (cY e 0)):=by
 refine aw func31 call31 λC hC hGL=> ?_;exact bK
end
section
def NP (l:List (List UInt8)):AVal:=.list 1 l.length (aE l)
def NE (L:List (List (List UInt8)))(i:Nat):AVal:=NP (L.getD i [])
set_option maxHeartbeats 8000000
attribute [local irreducible] bI ap az aW ab ad aa
end
section
def Vl.no:Vl:=⟨0,[],[],Stm.no,0⟩
end
section
theorem Tryz.own:ownKnob prog.godebug=none:=by kernel_rfl
def aL (W:World)(k:Nat):Seal:=λb=>if b<k then W.heap[b]? else none
theorem vi (W:World)(k:Nat):ea (aL W k) W:=by
 intro b o h;unfold aL at h
 split at h
 ·exact h
 ·cases h
theorem GU (W:World)(R:Seal)(G:Glo)(hG:G.p R)(hs:ea R W):MS ⟨W,R,dk [],G,hG,[]⟩ R [] W:=
 ⟨hs,Seal.le_refl R,λ_ hb=>.inl hb,⟨λ_ h=>absurd h List.not_mem_nil,List.nodup_nil,λ_ h=>absurd h List.not_mem_nil⟩,λ_ h=>absurd h List.not_mem_nil,Fu.refl W _⟩
theorem rz {W W':World}(h:Fu W [] W')(may:MemPlace->Prop):W.keptBut W' may:=by
 refine⟨h.os,h.output,λi hi=> ?_⟩;rw[h.block i hi (by simp)]
 generalize W.heap[i]? =o
 cases o with
 |none=>rfl
 |some o=>
  cases o with
  |cells c t fr=>exact⟨rfl,rfl,rfl,λ_ _=>rfl⟩
  |map es clock=>exact .inr ⟨rfl,rfl⟩
  |_=>rfl
end
section
theorem qm {P:Program}{w:World}{n:String}{g:Nat}{cs:Array Value}(hg:P.globalNamed n=some g)(hv:w.var? P n=some cs):∃e fz,w.heap[g]? =some (.cells cs e fz):=by
 simp only[World.var?,hg,Option.bind_some] at hv;split at hv
 ·rename_i c e fz hh;cases hv;exact⟨_,_,hh⟩
 ·cases hv
def KU (L:List (Nat×List AVal)):Glo:=⟨λR=>∀x,x∈L->di R x.1 0 x.2,λ_ _ hle h x hx=>by
 obtain⟨C,e,fz,h1,h2⟩:=h x hx;exact⟨C,e,fz,hle _ _ h1,cI hle _ _ h2⟩⟩
theorem rM:∀(L:List (Nat×List AVal)) {g:Nat} {cs:List AVal},kN L g=some cs->(g,cs)∈L
 |[],_,_,h=>by simp[kN] at h
 |(k,c)::r,g,cs,h=>by
  unfold kN at h;split at h
  ·rename_i e;obtain rfl:=Nat.eq_of_beq_eq_true e;cases h;exact List.mem_cons_self
  ·exact List.mem_cons_of_mem _ (rM r h)
theorem lz {L L':List (Nat×List AVal)}(h:∀x,x∈L'->x∈L):ab (KU L) L':=λg cs hg R hR=>hR (g,cs) (h _ (rM L' hg))
theorem e7 {W:World}{k g:Nat}{C:Array Value}{e:TypeId}{fz:Nat×Nat}{cs:List AVal}(hk:g<k)(hW:W.heap[g]? =some (.cells C e fz))(h:bA (aL W k) cs (C.toList.take cs.length)):di (aL W k) g 0 cs:=
 ⟨C,e,fz,by unfold aL;rw[if_pos hk];exact hW,by rw[List.drop_zero];exact h⟩
theorem qH:∀ty,ty<prog.types.size->prog.rowNamed ty [101,114,114,111,114]=true->ty=38:=by
 have h:((List.range prog.types.size).all λty=> !prog.rowNamed ty [101,114,114,111,114]||Nat.beq ty 38)=true:=by kernel_rfl
 intro ty h1 h2;have:=List.all_eq_true.1 h ty (List.mem_range.2 h1);rw[h2] at this;exact Nat.eq_of_beq_eq_true (by simpa using this)
theorem BB {W:World}{k:Nat}(hk:3<k){laid:List (String×DataW Unit)}(hL:laidMetH prog laid W)(hm:("errors.errorType",Rows.laid_errors_errorType)∈laid):di (aL W k) 3 0 [rty 38]:=by
 have h:=(laidMetH_iff.1 hL).2 _ (List.mem_filter.2 ⟨hm,by kernel_rfl⟩)
 have h:∃name u ty,(Rows.laid_errors_errorType (H:=Unit)).handleName? =some name∧(prog.cutTypes.find? (·.1== "internal/reflectlite.rtype")).map (·.2)=some u∧ty<prog.types.size∧prog.rowNamed ty name=true∧
   W.var? prog "errors.errorType" =some #[.iface u (.agg #[typeHandle prog ty])]:=h
 obtain⟨name,u,ty,h1,h2,h3,h4,h5⟩:=h
 obtain rfl:[101,114,114,111,114]=name:=Option.some.inj ((show(Rows.laid_errors_errorType (H:=Unit)).handleName? =some [101,114,114,111,114] by kernel_rfl).symm.trans h1)
 obtain rfl:168=u:=Option.some.inj ((show(prog.cutTypes.find? (·.1== "internal/reflectlite.rtype")).map (·.2)=some 168 by kernel_rfl).symm.trans h2)
 obtain rfl:=qH ty h3 h4
 obtain⟨e,fz,hh⟩:=qm (show prog.globalNamed "errors.errorType" =some 3 by kernel_rfl) h5
 exact e7 hk hh ⟨_,_,rfl,(nc _).1,rfl⟩
noncomputable def ik (os:Os):World:=
 let w0:=World.holding prog os ⟨#[],#[],[]⟩
 { w0 with heap:=w0.heap.modify 3 fun
   |.cells _ t frozen=>.cells #[.iface 168 (.agg #[hdl 38])] t frozen
   |o=>o}
def fF (laid:List (String×DataW Unit)):List (String×DataW Unit):=laid.filter λx=>x.2.handleName?.isNone
noncomputable def dX (os:Os)(laid:List (String×DataW Unit)):World:=(ik os).layVars prog (fF laid)
theorem sY (os:Os)(laid:List (String×DataW Unit)):(dX os laid).os=os:=World.layVars_os _ _ _
theorem rK {os:Os}{laid:List (String×DataW Unit)}(args:Array Value)(hf:(ik os).layFits prog (fF laid) []=true)(hi:(ik os).layIfaces prog (fF laid) (dX os laid)=true)
  (hh:((laid.filter λx=>x.2.handleName?.isSome).all (handleAtB prog ((dX os laid).forCall (λ_ _=>0) ⟨#[],args,[]⟩).memory))=true):
  laidMetH prog laid ((dX os laid).forCall (λ_ _=>0) ⟨#[],args,[]⟩).memory:=by
 refine laidMetH_of_parts ?_ hh;have e1:((fF laid).filter λx=>((fF laid).map (·.1)).contains x.1)=fF laid:=List.filter_eq_self.2 λx hx=>List.contains_iff_mem.2 (List.mem_map.2 ⟨x,hx,rfl⟩);have e2:((fF laid).filter λx=> !((fF laid).map (·.1)).contains x.1)=[]:=List.filter_eq_nil_iff.2 λx hx=>by rw[List.contains_iff_mem.2 (List.mem_map.2 ⟨x,hx,rfl⟩)];simp
 have h:laidMet prog (fF laid) (dX os laid):=laidMet_layVars (w0:=ik os) ((fF laid).map (·.1)) [] (by rw[e1];rfl) (by rw[e1];exact hf) (by rw[e1];exact hi) (by rw[e2];exact LaidIn.none);exact h.of_heap (by simp[World.memory,World.forCall,Input.heap])
theorem MF {W:World}{laid:List (String×DataW Unit)}(hL:laidMetH prog laid W)(hm:("errors.errorType",Rows.laid_errors_errorType)∈laid):3<W.heap.size:=by
 have h:=(laidMetH_iff.1 hL).2 _ (List.mem_filter.2 ⟨hm,by kernel_rfl⟩)
 obtain⟨name,u,ty,h1,h2,h3,h4,h5⟩:=h
 obtain⟨e,fz,hh⟩:=qm (show prog.globalNamed "errors.errorType" =some 3 by kernel_rfl) h5
 exact(Array.getElem?_eq_some_iff.1 hh).1
theorem Ez {P:Program}{G:Glo}{f:FuncId}{avs:List AVal}{c:Bool}{args:Array Value}{W:World}{R:Seal}(hs:an P G f avs (.bool c))(hc:(callFunc f args).run P W= .ok (.enter f args) W)
  (hG:G.p R) (hR:ea R W) (ha:cJ R avs args.toList):Calls P f args W λe W'=>e= .returned (.bool c)/\(∀may,W.keptBut W' may)/\Go.RowKit.Below W.heap.size W W':=by
 rcases hs R W args hG (GU W R G hG hR) ha with⟨_,h⟩|⟨v,w',h,_⟩
 ·refine h.mono λe W' ⟨res,H',R',⟨hr,hH⟩,he,hm⟩=> ?_;subst hr;obtain⟨x,rfl,hx⟩:=he;refine⟨by rw[aN.1 hx],λmay=>rz hm.ext may,⟨hm.ext.os,hm.ext.tape,hm.ext.output,hm.ext.size,λk hk=>hm.ext.block k hk (λh=>absurd h List.not_mem_nil)⟩⟩
 ·rw[hc] at h;cases h
end
section
attribute [local irreducible] bI ap aa az aW ab ad
abbrev vlQ (v:Vl)(q:AVal):AVal:=.agg [.int .i64 v.t,.str v.s,q,.int .i64 v.st.y,.int .i64 v.st.m,.int .i64 v.st.d,.int .i64 v.st.h,.int .i64 v.st.i,.int .i64 v.st.s,.bool v.st.z,.int .i64 v.st.o,.int .i64 v.n]
attribute [local irreducible] lR dR fp fZ bM NE NP
end
section
def Vl.R (v:Vl):AVal:=vlQ v (.list 1 v.L.length (NE v.L))
end
section
set_option maxHeartbeats 8000000
attribute [local irreducible] bI ap az aW ab ad
def Ae (t:Stm):Nat->Bool
 |0=>dD t.y 0 9999
 |1=>dD t.m 1 12
 |2=>dD t.d 1 t.day
 |3=>dD t.h 0 23
 |4=>dD t.i 0 59
 |_=>dD t.s 0 59
theorem L2 {t:Stm}(h:∀j,j<6->Ae t j=true)(z:sC t.o=true):t.rng=true:=by
 have h0:dD t.y 0 9999=true:=h 0 (by decide);have h1:dD t.m 1 12=true:=h 1 (by decide);have h2:dD t.d 1 t.day=true:=h 2 (by decide);have h3:dD t.h 0 23=true:=h 3 (by decide);have h4:dD t.i 0 59=true:=h 4 (by decide);have h5:dD t.s 0 59=true:=h 5 (by decide);unfold Stm.rng;rw[h0,h1,h2,h3,h4,h5,z]
 rfl
theorem ou {t:Stm}(j:Nat)(h:Ae t j=false):t.rng=false:=by
 unfold Stm.rng
 match j,h with
 |0,h=>have h:dD t.y 0 9999=false:=h;simp[h]
 |1,h=>have h:dD t.m 1 12=false:=h;simp[h]
 |2,h=>have h:dD t.d 1 t.day=false:=h;simp[h]
 |3,h=>have h:dD t.h 0 23=false:=h;simp[h]
 |4,h=>have h:dD t.i 0 59=false:=h;simp[h]
 |n+5,h=>have h:dD t.s 0 59=false:=h;simp[h]
theorem NB {t:Stm}(z:sC t.o=false):t.rng=false:=by
 unfold Stm.rng;rw[z];simp
theorem e_3 {t:Stm}(h:¬tf t.dn t.tn t.z t.h t.o):t.e=3:=by
 unfold Stm.e;rw[if_neg (λk=>h ((il t).1 k))]
theorem e_2 {t:Stm}(h:tf t.dn t.tn t.z t.h t.o)(k:t.rng=false):t.e=2:=by
 unfold Stm.e;rw[if_pos ((il t).2 h),k];rfl
theorem e_0 {t:Stm}(h:tf t.dn t.tn t.z t.h t.o)(k:t.rng=true):t.e=0:=by
 unfold Stm.e;rw[if_pos ((il t).2 h),k];rfl
theorem iP {t:Stm}{k:Nat}(h:∀j,j<k->Ae t j=true)(hk:Ae t k=true):∀j,j<k+1->Ae t j=true:=by
 intro j hj;rcases Nat.lt_or_ge j k with g|g
 ·exact h j g
 ·rw[show j=k by omega];exact hk
theorem Ng {p q:Prop}[Decidable p][Decidable q]:((decide p&&decide q)=true)↔p/\q:=by simp
theorem Nh {p q:Prop}[Decidable p][Decidable q]:((decide p&&decide q)=false)↔¬(p/\q):=by simp
theorem wT {n lo hi:Int}(h:n= -1\/lo<=n/\n<=hi):dD n lo hi=true:=qk.2 h
theorem wF {n lo hi:Int}(h:¬(n= -1\/lo<=n/\n<=hi)):dD n lo hi=false:=Ld.2 h
attribute [local irreducible] cZ
theorem iA {G:Glo}(hS:ab G shapesTy)(t:Stm):an prog G 76 [t.A] (.int .i64 t.e):=by
 have h1:=lm hS t.y t.m t.d;have h2:=lm hS t.h t.i t.s;have h3:=Gy (G:=G) t.y t.m;have k1:=λn lo hi (_:(0:Int)<=0)=>dV (G:=G) n lo hi;have h5:=iz (G:=G) t.o;have hE3:=e_3 (t:=t);have hE2:=e_2 (t:=t);have hE0:=e_0 (t:=t);unfold tf Stm.dn Stm.tn at hE3 hE2 hE0;refine jZ func76 call76 λC hC hGL=> ?_;refine cut hC hGL [(1,.rop t.R 0),(2,.int .i64 0)] [] True ?_ λ_=> ?_
 ·exact bK
 refine cut hC hGL [(1,.rop t.R 0),(3,.int .i64 (cZ (ar t.y) (ar t.m) (ar t.d))),(4,.int .i64 (cZ (ar t.h) (ar t.i) (ar t.s)))] [] True ?_ λ_=> ?_
 ·refine aT ?_;refine dz mixed hC hGL false (λ(_:Unit)=>[(1,.rop t.R 0),(3,.int .i64 (cZ (ar t.y) (ar t.m) (ar t.d))),(4,.int .i64 (cZ (ar t.h) (ar t.i) (ar t.s)))]) (λ_=>[]) .p4 (by kernel_rfl) ?_ ?_
  ·refine xn ?_;repeat' first|exact .n|apply Lc.mk
   all_goals intros
   all_goals exact⟨(),⟨rfl,rfl,rfl,trivial⟩,rfl⟩
  ·intro _;exact ez
 clear h1 h2;generalize cZ (ar t.y) (ar t.m) (ar t.d)=D at*
 generalize cZ (ar t.h) (ar t.i) (ar t.s)=T at*
 refine cut hC hGL [(1,.rop t.R 0),(3,.int .i64 D),(4,.int .i64 T)] [] (0<=D/\0<=T/\¬(D=0/\T=0)) ?_ λp1=> ?_
 ·clear hE2 hE0;refine xw ?_;repeat' first|exact .n|apply Lc.mk
  all_goals intros
  all_goals first|omega|(apply aj;refine congrArg (AVal.int .i64) ?_;rw[hE3 (λk=>by have:=k.1;omega)])
 refine cut hC hGL [(1,.rop t.R 0),(3,.int .i64 D),(4,.int .i64 T)] [] (0<D/\0<T->(D=3\/D=5\/D=6)/\T<=3) ?_ λp2=> ?_
 ·clear hE2 hE0;refine xw ?_;repeat' first|exact .n|apply Lc.mk
  all_goals intros
  all_goals first|omega|(apply aj;refine congrArg (AVal.int .i64) ?_;rw[hE3 (λk=>by have:=k.1.2.2.2;omega)])
 refine cut hC hGL [(1,.rop t.R 0)] [] ((t.z=true->t.h≠ -1)/\(t.z=false->t.o=0)) ?_ λp3=> ?_
 ·clear hE2 hE0 p1 p2;refine xw ?_;repeat' first|exact .n|apply Lc.mk
  all_goals intros
  all_goals first
   |exact Bool.noConfusion ((show t.z=true by assumption).symm.trans (show t.z=false by assumption))
   |exact⟨λ_=>by assumption,λk=>Bool.noConfusion ((show t.z=true by assumption).symm.trans k)⟩
   |exact⟨λk=>Bool.noConfusion (k.symm.trans (show t.z=false by assumption)),λ_=>by assumption⟩
   |(apply aj;refine congrArg (AVal.int .i64) ?_;rw[hE3 (λk=>by have:=k.2;rw[if_pos (by assumption)] at this;omega)])
   |(apply aj;refine congrArg (AVal.int .i64) ?_;rw[hE3 (λk=>by have:=k.2;rw[if_neg (by rw[show t.z=false by assumption];decide)] at this;omega)])
 have hF:(0<=D/\0<=T/\¬(D=0/\T=0)/\(0<D/\0<T->(D=3\/D=5\/D=6)/\T<=3))/\(if t.z=true then t.h≠ -1 else t.o=0):=by
  refine⟨⟨p1.1,p1.2.1,p1.2.2,p2⟩,?_⟩;split
  ·exact p3.1 (by assumption)
  ·rename_i k;exact p3.2 (by simpa using k)
 have key2:=hE2 hF;have key0:=hE0 hF;clear hE2 hE0 hE3 hF p1 p2 p3;refine cut hC hGL [(1,.rop t.R 0),(5,.int .i64 31)] [] True ?_ λ_=> ?_
 ·exact bK
 refine ka hC hGL (λq:Int=>[(1,.rop t.R 0),(5,.int .i64 q)]) (λ_=>[]) (λq=>q=t.day) ?_ λq hq=> ?_
 ·refine xw ?_;repeat' first|exact .n|apply Lc.mk
  all_goals intros
  all_goals first
   |exact cy _ (by unfold Stm.day;rw[if_neg (by assumption)])
   |exact cy _ (by unfold Stm.day;rw[if_pos (by assumption)])
 subst hq;refine cut hC hGL [(1,.rop t.R 0)] [] (∀j,j<6->Ae t j=true) ?_ λhj=> ?_
 ·refine aZ ?_;refine lp hC hGL (λ(k:Nat)=>[(1,.rop t.R 0),(104,_),(105,.int .i64 6),(106,.int .i64 (k:Nat))]) (λ_=>[]) (λk=>k<=6/\∀j,j<k->Ae t j=true) (λk=>6-k) 0 ?_ ai rfl ?_
  ·exact⟨by omega,λj hj=>absurd hj (by omega)⟩
  rintro k ⟨hk,hj⟩;rcases(show k=0\/k=1\/k=2\/k=3\/k=4\/k=5\/k=6 by omega) with rfl|rfl|rfl|rfl|rfl|rfl|rfl
  all_goals
   refine xw ?_;repeat' first|exact .n|apply Lc.mk
   all_goals intros
   all_goals try simp only[Ng,Nh] at*
   all_goals first
    |exact hj _ (by assumption)
    |exact eg 1 ⟨by decide,iP hj (wT (by omega))⟩ (by decide) ai aH
    |exact eg 2 ⟨by decide,iP hj (wT (by omega))⟩ (by decide) ai aH
    |exact eg 3 ⟨by decide,iP hj (wT (by omega))⟩ (by decide) ai aH
    |exact eg 4 ⟨by decide,iP hj (wT (by omega))⟩ (by decide) ai aH
    |exact eg 5 ⟨by decide,iP hj (wT (by omega))⟩ (by decide) ai aH
    |exact eg 6 ⟨by decide,iP hj (wT (by omega))⟩ (by decide) ai aH
    |(apply aj;refine congrArg (AVal.int .i64) ?_;first
     |rw[key2 (ou 0 (wF (by omega)))]
     |rw[key2 (ou 1 (wF (by omega)))]
     |rw[key2 (ou 2 (wF (by omega)))]
     |rw[key2 (ou 3 (wF (by omega)))]
     |rw[key2 (ou 4 (wF (by omega)))]
     |rw[key2 (ou 5 (wF (by omega)))])
 refine aI hC hGL ?_;refine xw ?_;repeat' first|exact .n|apply Lc.mk
 all_goals intros
 all_goals (apply aj;refine congrArg (AVal.int .i64) ?_;first|rw[key0 (L2 hj (by assumption))]|rw[key2 (NB (by assumption))])
end
section
attribute [local irreducible] bI ap aa az aW ab ad
attribute [local irreducible] escF escS
theorem qP {G:Glo}(s:List UInt8)(hl:s.length<=2000000):an prog G 78 [.str s] (.str (escS s)):=by
 refine aw func78 call78 λC hC hGL=> ?_;refine aZ ?_;intros;refine lp hC hGL (λi:Nat=>[(0,.str s),(3,.str (escS (s.take i))),(6,.int .i64 (s.length:Nat)),(7,.int .i64 (i:Nat))]) (λ_=>[]) (λi=>i<=s.length) (λi=>s.length-i) 0 (Nat.zero_le _) ⟨rfl,?_,rfl,rfl,trivial⟩ rfl ?_
 ·show some (AVal.str [])=some (AVal.str (escS (s.take 0)));rw[List.take_zero,HF]
 ·intro i hi;have e1:=(nF (s.take i)).2;rw[List.length_take,Nat.min_eq_left hi] at e1;by_cases hlt:i<s.length
  ·have et:=ES hlt;have hb0:=E5 hlt;have hby:=bG s i;have hone:(s.take (i+1)).drop i=[s[i]]:=by rw[List.drop_take,show i+1-i=1 by omega,List.drop_eq_getElem_cons hlt];rfl
   have hlo:((s.take (i+1)).drop i).length=1:=by rw[hone];rfl
   rcases(show(aa s i=92\/aa s i=44\/aa s i=59)\/aa s i=10\/(aa s i≠92/\aa s i≠44/\aa s i≠59/\aa s i≠10) by omega) with hk|hk|⟨k1,k2,k3,k4⟩
   ·have he:escF s[i]=[92]++(s.take (i+1)).drop i:=by
     rw[hone];rcases hk with hk|hk|hk
     all_goals rw[(Nu (by decide)).2 (hb0.symm.trans hk)]
     ·exact MA
     ·exact MC
     ·exact MB
    refine xw ?_;repeat' first|exact .n|apply Lc.mk
    all_goals intros
    all_goals first
     |(refine db (i+1) ?_ ?_ ⟨rfl,?_,rfl,rfl,trivial⟩ rfl;exact hlt;(show s.length-(i+1)<s.length-i;omega);(rw[et,he];rfl))
     |skip
   ·have he:escF s[i]=[92,110]:=by rw[(Nu (by decide)).2 (hb0.symm.trans hk)];exact MD
    refine xw ?_;repeat' first|exact .n|apply Lc.mk
    all_goals intros
    all_goals first
     |(refine db (i+1) ?_ ?_ ⟨rfl,?_,rfl,rfl,trivial⟩ rfl;exact hlt;(show s.length-(i+1)<s.length-i;omega);(rw[et,he];rfl))
     |skip
   ·have he:escF s[i]=(s.take (i+1)).drop i:=by
     rw[hone];exact zk (by rw[<-hb0];exact k1) (by rw[<-hb0];exact k2) (by rw[<-hb0];exact k3) (by rw[<-hb0];exact k4)
    refine xw ?_;repeat' first|exact .n|apply Lc.mk
    all_goals intros
    all_goals first
     |(refine db (i+1) ?_ ?_ ⟨rfl,?_,rfl,rfl,trivial⟩ rfl;exact hlt;(show s.length-(i+1)<s.length-i;omega);(rw[et,he];rfl))
     |skip
  ·have h9:escS (s.take i)=escS s:=by rw[List.take_of_length_le (by omega)]
   refine aZ ?_;intros;apply aj;rw[h9]
end
section
theorem Am (t:Stm):td [cY t.y t.y,cY t.m t.m,cY t.d t.d,cY t.h t.h,cY t.i t.i,cY t.s t.s,t.z==t.z,cY t.o t.o]=true:=by
 have e:∀x:Int,cY x x=true:=λx=>fh.2 rfl;simp only[td,e,beq_self_eq_true,Bool.and_self]
attribute [local irreducible] bI ap aa az aW ab ad
end
section
attribute [local irreducible] bI ap aa az aW ab ad
theorem lY {G:Glo}(l:List (List UInt8))(hl:l.length<=2000000):an prog G 29 [.list 1 l.length (aE l),.list 1 l.length (aE l)] (.bool true):=by
 refine aw func29 call29 λC hC hGL=> ?_;refine aZ ?_;intros;refine lp hC hGL (λk:Nat=>[(0,.list 1 l.length (aE l)),(1,.list 1 l.length (aE l)),(12,.int .i64 (l.length:Int)),(13,.int .i64 (k:Int))]) (λ_=>[]) (λk=>k<=l.length) (λk=>l.length-k) 0 (Nat.zero_le _) ?_ ?_ ?_
 ·exact ai
 ·rfl
 intro k hk;by_cases h:k<l.length
 ·refine aZ ?_;intros;exact eg (k+1) h (by omega) ai aH
 ·exact bK
abbrev KY (b:Nat):Value:=.pointer (some ⟨b,0,none⟩)
abbrev sE (x:Itm):List AVal:=[.int .i64 x.2.t,.str x.2.s,.list 1 x.2.L.length (bF x.2.L),.int .i64 x.2.st.y,.int .i64 x.2.st.m,.int .i64 x.2.st.d,.int .i64 x.2.st.h,.int .i64 x.2.st.i,.int .i64 x.2.st.s,.bool x.2.st.z,.int .i64 x.2.st.o,.int .i64 x.2.n]
abbrev nW (v:Int)(l:List Itm):AVal:=.rop [.int .i64 v,.list 15 l.length (Hh l)] 0
def wV.okE (c:wV):Prop:=c.l.length<=1000000/\∀x∈c.l,Small x.2.L/\x.1.ps.length<=10000/\∀j,(x.1.ps.getD j Pr.z).vs.length<=2000000
theorem wV.ok.E {c:wV}(h:c.ok):c.okE:=⟨h.1,λx hx=>⟨(h.2 x hx).L,(h.2 x hx).p.ps,λj=>by have:=((h.2 x hx).p.q j).2.1;have:(x.1.ps.getD j Pr.z).vs.length<=10000:=this;omega⟩⟩
theorem AU {G:Glo}(c:wV)(hf:c.okE):an prog G 9 [c.A,c.A] (.bool true):=by
 obtain⟨v,l⟩:=c;obtain⟨h70,ho⟩:=hf;dsimp only at h70 ho;unfold wV.A;dsimp only
 refine jZ func9 call9 λC hC hGL=> ?_;refine cut hC hGL [(2,nW v l),(3,nW v l)] [] True ?_ λ_=> ?_
 ·exact ez
 refine cut hC hGL [(2,nW v l),(3,nW v l)] [] True ?_ λ_=> ?_
 ·exact ez
 have hcl:=call29;refine cut hC hGL [] [] True ?_ λ_=>aI hC hGL ez
 refine aT ?_
 intros
 refine lpA hC hGL (λk:Nat=>[(2,nW v l),(3,nW v l),(28,.int .i64 (l.length:Int)),(29,.int .i64 (k:Int))]) (λ_=>[]) (λk=>k<=l.length) (λk=>l.length-k) 0 (Nat.zero_le _) ai rfl ?_
 intro k hk
 by_cases h:k<l.length
 case neg=>exact aI hC hGL ez
 have hO:=Hi ho h
 have hL:=hO.1
 have hz:=Am (l.getD k Itm.z).2.st
 refine dZ (aI hC hGL (aT ?_))
 refine dZ (aI hC hGL (aT ?_))
 intros
 refine dZ (jl ?_)
 refine cut hC hGL [(2,nW v l),(3,nW v l),(28,.int .i64 (l.length:Int)),(29,.int .i64 (k:Int)),(5,.int .i64 (k:Int))] [] True ez λ_=> ?_
 refine EZ (λ_:Unit=>[(2,nW v l),(3,nW v l),(28,.int .i64 (l.length:Int)),(29,.int .i64 (k:Int)),(6,.rop (bR (l.getD k Itm.z)) 0),(7,.rop (bR (l.getD k Itm.z)) 0)]) (λ_=>[]) (λ_=>True) (aI hC hGL ?_) ?_
 ·refine aT ?_
  refine dz mixed hC hGL false (λy:Bool×Nat×Nat=>[(2,nW v l),(3,nW v l),(28,.int .i64 (l.length:Int)),(29,.int .i64 (k:Int)),(6,if y.1 then .own 0 (KY y.2.1) else .own 1 (KY y.2.2)),(7,if y.1 then .own 1 (KY y.2.2) else .own 0 (KY y.2.1))]) (λy=>[.cells y.2.1 (some 29) (bR (l.getD k Itm.z)),.cells y.2.2 (some 29) (bR (l.getD k Itm.z))]) (.t 0 (.t 1 (.t 2 (.t 3 (.t 4 (.t 5 (.t 6 (.t 7 (.t 8 (.t 9 (.br 10 (.b 11 (.b 12 (.b 13 .done))) (.b 11 (.b 10 (.b 12 (.b 13 .done))))))))))))))) (by kernel_rfl) ?_ ?_
  ·refine xn ?_
   repeat' first|exact .n|apply Lc.mk
   all_goals intros
   all_goals first
    |exact⟨(true,_,_),⟨rfl,rfl,rfl,rfl,rfl,rfl,trivial⟩,rfl⟩
    |exact⟨(false,_,_),⟨rfl,rfl,rfl,rfl,rfl,rfl,trivial⟩,rfl⟩
  rintro⟨o,b6,b7⟩
  cases o
  ·exact IS () trivial (aX (bZ (i:=1) (k:=6) rfl rfl) (aX (bZ (i:=0) (k:=7) rfl rfl) (cL ai aH)))
  ·exact IS () trivial (aX (bZ (i:=0) (k:=6) rfl rfl) (aX (bZ (i:=1) (k:=7) rfl rfl) (cL ai aH)))
 intro _ _
 generalize l.getD k Itm.z=x at*
 refine EZ (λ_:Unit=>[(2,nW v l),(3,nW v l),(28,.int .i64 (l.length:Int)),(29,.int .i64 (k:Int)),(6,.rop (bR x) 0),(7,.rop (bR x) 0),(8,.rop (sE x) 0),(9,.rop (sE x) 0)]) (λ_=>[]) (λ_=>True) (aI hC hGL ?_) ?_
 ·refine aT ?_
  refine dz mixed hC hGL false (λy:Bool×Nat×Nat=>[(2,nW v l),(3,nW v l),(28,.int .i64 (l.length:Int)),(29,.int .i64 (k:Int)),(6,.rop (bR x) 0),(7,.rop (bR x) 0),(8,if y.1 then .own 0 (KY y.2.1) else .own 1 (KY y.2.2)),(9,if y.1 then .own 1 (KY y.2.2) else .own 0 (KY y.2.1))]) (λy=>[.cells y.2.1 (some 27) (sE x),.cells y.2.2 (some 27) (sE x)]) (.t 0 (.t 1 (.t 2 (.t 3 (.br 4 (.b 5 (.b 6 (.b 7 .done))) (.b 5 (.b 4 (.b 6 (.b 7 .done))))))))) (by kernel_rfl) ?_ ?_
  ·refine xn ?_
   repeat' first|exact .n|apply Lc.mk
   all_goals intros
   all_goals first
    |exact⟨(true,_,_),⟨rfl,rfl,rfl,rfl,rfl,rfl,rfl,rfl,trivial⟩,rfl⟩
    |exact⟨(false,_,_),⟨rfl,rfl,rfl,rfl,rfl,rfl,rfl,rfl,trivial⟩,rfl⟩
  rintro⟨o,b6,b7⟩
  cases o
  ·exact IS () trivial (aX (bZ (i:=1) (k:=8) rfl rfl) (aX (bZ (i:=0) (k:=9) rfl rfl) (cL ai aH)))
  ·exact IS () trivial (aX (bZ (i:=0) (k:=8) rfl rfl) (aX (bZ (i:=1) (k:=9) rfl rfl) (cL ai aH)))
 intro _ _
 refine cut hC hGL [(2,nW v l),(3,nW v l),(28,.int .i64 (l.length:Int)),(29,.int .i64 (k:Int)),(6,.rop (bR x) 0),(7,.rop (bR x) 0),(8,.rop (sE x) 0),(9,.rop (sE x) 0)] [] True ?_ λ_=> ?_
 ·refine aT ?_
  intros
  refine aO hC hGL (oj true rfl rfl rfl rfl (by kernel_rfl) (by kernel_rfl) (by kernel_rfl) rfl hz) rfl rfl ?_
  exact ez
 have hst:=λj=>lY (G:=G) (x.2.L.getD j []) (hL.k j).1
 have hsp:=λj=>lY (G:=G) (x.1.ps.getD j Pr.z).vs (hO.2.2 j)
 have hLn:=hL.n
 have hpn:x.1.ps.length<=10000:=hO.2.1
 refine cut hC hGL [(2,nW v l),(3,nW v l),(28,.int .i64 (l.length:Int)),(29,.int .i64 (k:Int)),(6,.rop (bR x) 0),(7,.rop (bR x) 0)] [] True ?_ λ_=> ?_
 ·refine aT ?_
  intros
  refine lp hC hGL (λj:Nat=>[(2,nW v l),(3,nW v l),(28,.int .i64 (l.length:Int)),(29,.int .i64 (k:Int)),(6,.rop (bR x) 0),(7,.rop (bR x) 0),(8,.rop (sE x) 0),(9,.rop (sE x) 0),(106,.int .i64 (x.2.L.length:Nat)),(107,.int .i64 (j:Nat))]) (λ_=>[]) (λj=>j<=x.2.L.length) (λj=>x.2.L.length-j) 0 (Nat.zero_le _) ai rfl ?_
  intro j hj
  by_cases hjl:j<x.2.L.length
  ·have hst:=hst j
   refine aT ?_
   intros
   refine dz mixed hC hGL false (λ_:Unit=>[(2,nW v l),(3,nW v l),(28,.int .i64 (l.length:Int)),(29,.int .i64 (k:Int)),(6,.rop (bR x) 0),(7,.rop (bR x) 0),(8,.rop (sE x) 0),(9,.rop (sE x) 0),(106,.int .i64 (x.2.L.length:Nat)),(107,.int .i64 (j:Nat)),(121,.bool false)]) (λ_=>[]) (.t 0 (.t 1 (.t 2 (.t 3 (.t 4 (.t 5 (.t 6 (.t 7 (.t 8 (.t 9 (.b 10 (.t 11 .done)))))))))))) (by kernel_rfl) xu ?_
   intro _
   refine aT ?_
   intros
   exact eg (j+1) hjl (by omega) ai aH
  ·exact ez
 refine aI hC hGL (aT ?_)
 intros
 refine lp hC hGL (λj:Nat=>[(2,nW v l),(3,nW v l),(28,.int .i64 (l.length:Int)),(29,.int .i64 (k:Int)),(6,.rop (bR x) 0),(7,.rop (bR x) 0),(125,.int .i64 (x.1.ps.length:Nat)),(126,.int .i64 (j:Nat))]) (λ_=>[]) (λj=>j<=x.1.ps.length) (λj=>x.1.ps.length-j) 0 (Nat.zero_le _) ai rfl ?_
 intro j hj
 by_cases hjl:j<x.1.ps.length
 ·have hsp:=hsp j
  refine aT ?_
  intros
  refine dz mixed hC hGL false (λ_:Unit=>[(2,nW v l),(3,nW v l),(28,.int .i64 (l.length:Int)),(29,.int .i64 (k:Int)),(6,.rop (bR x) 0),(7,.rop (bR x) 0),(125,.int .i64 (x.1.ps.length:Nat)),(126,.int .i64 (j:Nat)),(157,.bool false)]) (λ_=>[]) (.t 0 (.t 1 (.t 2 (.t 3 (.t 4 (.t 5 (.t 6 (.t 7 (.t 8 (.t 9 (.t 10 (.t 11 (.t 12 (.t 13 (.t 14 (.t 15 (.t 16 (.t 17 (.t 18 (.t 19 (.t 20 (.t 21 (.t 22 (.t 23 (.t 24 (.t 25 (.b 26 (.t 27 (.t 28 .done))))))))))))))))))))))))))))) (by kernel_rfl) xu ?_
  intro _
  refine aT ?_
  intros
  exact eg (j+1) hjl (by omega) ai aH
 ·refine aT ?_
  intros
  refine aI hC hGL (aT ?_)
  intros
  exact eg (k+1) h (by omega) ai aH
end
section
theorem pj (L:List (List UInt8)):(Lib.compact L).length<=L.length:=by
 unfold Lib.compact Lib.compactUpTo;rw[List.length_map];have:=List.length_filter_le (Lib.keeps L.toArray) (List.range L.length);rwa [List.length_range] at this
theorem sb {N:Nat}:∀{l:List Pr},(∀q∈l,q.vs.length<=N)->(a8 l).length<=l.length*N
 |[],_=>by simp[a8]
 |q::l,h=>by
  have ih:=sb λq hq=>h q (List.mem_cons_of_mem _ hq);have hq:=h q (List.mem_cons_self ..);unfold a8 at ih ⊢;rw[List.flatMap_cons,List.length_append,List.length_cons,Nat.succ_mul];have:(if ix q.n=nTYP then q.vs.map lowS else[]).length<=N:=by split<;>simp<;>omega
  omega
theorem zB (t r:Int)(l:List Pr):(kX t r l).length<=l.length:=by
 have:=p8 t r l;unfold kX;rw[List.length_append];split at this<;>rename_i h
 ·rw[if_pos h];simp;omega
 ·rw[if_neg h];simp;omega
theorem CG {p:Pr->Prop}{l:List Pr}(hz:p Pr.z)(h:∀q∈l,p q)(j:Nat):p (l.getD j Pr.z):=by
 rw[List.getD_eq_getElem?_getD];rcases Nat.lt_or_ge j l.length with hj|hj
 ·rw[List.getElem?_eq_getElem hj];exact h _ (List.getElem_mem hj)
 ·rw[List.getElem?_eq_none hj];exact hz
theorem Kg {v:Int}{x:Itm}(hx:x.OK 10000)(hw:x.w v=0):Small (x.can v).2.L/\(x.can v).1.ps.length<=10000/\∀j,((x.can v).1.ps.getD j Pr.z).vs.length<=2000000:=by
 have h20:=(kr hw).1;have hq:∀q∈x.1.ps,q.vs.length<=10000:=by
  intro q hq;obtain⟨j,hj,rfl⟩:=List.getElem_of_mem hq;have:=(hx.p.q j).2.1;have e:x.p.ps.getD j Pr.z=x.1.ps[j]:=by
   show x.1.ps.getD j Pr.z=_;rw[List.getD_eq_getElem?_getD,List.getElem?_eq_getElem hj];rfl
  rwa [e] at this
 refine⟨hx.L,?_,λj=> ?_⟩
 ·show(cO _).length<=10000;rw[gC];have:=zB x.2.t (bO v x.1.n).t x.1.ps;omega
 ·refine CG (p:=λq=>q.vs.length<=2000000) (Nat.zero_le _) (λq hq2=> ?_) j;have hq2:q∈cO (kX x.2.t (bO v x.1.n).t x.1.ps):=hq2;rw[GX] at hq2;unfold kX at hq2;rcases List.mem_append.1 hq2 with h|h
  ·unfold bN at h;obtain⟨q0,h0,rfl⟩:=List.mem_map.1 h;have:=hq q0 ((List.mem_filter.1 h0).1);show(s6 x.2.t q0).vs.length<=2000000;unfold s6;dsimp only
   split
   ·simp
   ·split
    ·simp
    ·omega
  ·split at h
   ·cases h
   ·obtain rfl:=List.mem_singleton.1 h;have h1:=pj (eS (a8 x.1.ps));have h2:=sb hq;rw[dS] at h1;have h3:x.1.ps.length*10000<=20*10000:=Nat.mul_le_mul_right _ h20;show(Lib.compact (eS (a8 x.1.ps))).length<=2000000;omega
end
section
theorem vL {L:List Pr}(i:Nat)(h:i<L.length):(dM L i).cells=((da L).drop (i*2)).take 2/\(dM L i).plain=true:=by rw[qY h];exact⟨rfl,rfl⟩
theorem qX (L:List Pr)(w:List UInt8)(vs:List (List UInt8)):da (L++[⟨w,vs⟩])=da L++[.str w,.list 1 vs.length (aE vs)]:=by rw[ic];rfl
theorem Dg {q:Pr}(h:q.fit=true):0<q.vs.length:=by
 apply Nat.pos_of_ne_zero;intro h0;obtain⟨n,vs⟩:=q;obtain rfl:=List.eq_nil_of_length_eq_zero h0;unfold Pr.fit mL at h;dsimp only at h;repeat' split at h
 all_goals simp at h
section
variable {t r:Int} {l:List Pr} {k:Nat}
theorem K1 (hk:k<l.length)(h:ao 97 122 (-32) (l.getD k Pr.z).n=nTYP):bN t r (l.take (k+1))=bN t r (l.take k)/\a8 (l.take (k+1))=a8 (l.take k)++(l.getD k Pr.z).vs.map lowS:=by
 have h:ix (l.getD k Pr.z).n=nTYP:=h;rw[lg hk,oO,uJ,if_pos h];refine⟨?_,rfl⟩;rw[if_neg (by unfold nM;rw[h];simp),List.append_nil]
theorem Do (hk:k<l.length)(h:ix (l.getD k Pr.z).n≠nTYP):a8 (l.take (k+1))=a8 (l.take k):=by
 rw[lg hk,uJ,if_neg h,List.append_nil]
theorem Ih (hk:k<l.length)(h:nM t r (l.getD k Pr.z)=true):bN t r (l.take (k+1))=bN t r (l.take k)++[s6 t (l.getD k Pr.z)]:=by
 rw[lg hk,oO,if_pos h]
theorem Ig (hk:k<l.length)(h:ao 97 122 (-32) (l.getD k Pr.z).n=valN)(hr:r=t):bN t r (l.take (k+1))=bN t r (l.take k)/\a8 (l.take (k+1))=a8 (l.take k):=by
 have h:ix (l.getD k Pr.z).n=valN:=h;refine⟨?_,Do hk (by rw[h];decide)⟩;rw[lg hk,oO,if_neg (by unfold nM;rw[h,decide_eq_true hr];simp),List.append_nil]
theorem If (hk:k<l.length)(h:ao 97 122 (-32) (l.getD k Pr.z).n=valN)(hr:r≠t):bN t r (l.take (k+1))=bN t r (l.take k)++[⟨valN,[jV t]⟩]/\a8 (l.take (k+1))=a8 (l.take k):=by
 have h:ix (l.getD k Pr.z).n=valN:=h;refine⟨?_,Do hk (by rw[h];decide)⟩;rw[Ih hk (by unfold nM;rw[h,decide_eq_false hr];decide)];unfold s6;rw[h,if_pos rfl]
theorem K3 (hk:k<l.length)(h:ao 97 122 (-32) (l.getD k Pr.z).n=nLAN){s:List UInt8}(hs:(l.getD k Pr.z).vs=[s]):bN t r (l.take (k+1))=bN t r (l.take k)++[⟨nLAN,[ii s]⟩]/\a8 (l.take (k+1))=a8 (l.take k):=by
 have h:ix (l.getD k Pr.z).n=nLAN:=h;refine⟨?_,Do hk (by rw[h];decide)⟩;rw[Ih hk (by unfold nM;rw[h];rfl)];unfold s6;rw[h,if_neg (by decide),if_pos rfl,hs];rfl
theorem K2 (hk:k<l.length)(h1:ao 97 122 (-32) (l.getD k Pr.z).n≠nTYP)(h2:ao 97 122 (-32) (l.getD k Pr.z).n≠valN)(h3:ao 97 122 (-32) (l.getD k Pr.z).n≠nLAN):bN t r (l.take (k+1))=bN t r (l.take k)++[⟨ao 97 122 (-32) (l.getD k Pr.z).n,(l.getD k Pr.z).vs⟩]/\a8 (l.take (k+1))=a8 (l.take k):=by
 refine⟨?_,Do hk h1⟩;rw[Ih hk (by unfold nM;rw[decide_eq_false h1,decide_eq_false h2];rfl)];unfold s6;rw[if_neg h2,if_neg h3]
end
def jI (T vs:List (List UInt8))(j:Nat):List (List UInt8):=T++(vs.take j).map lowS
theorem A5 (T vs:List (List UInt8)):jI T vs 0=T:=by simp[jI]
theorem yN (T vs:List (List UInt8)):jI T vs vs.length=T++vs.map lowS:=by simp[jI]
theorem tY (T:List (List UInt8)){vs:List (List UInt8)}{j:Nat}(h:j<vs.length):jI T vs (j+1)=jI T vs j++[ao 65 90 32 (vs.getD j [])]:=by
 unfold jI;rw[List.take_succ_eq_append_getElem h,List.map_append,<-List.append_assoc,List.getD_eq_getElem?_getD,List.getElem?_eq_getElem h];rfl
theorem G7 (T vs:List (List UInt8))(j:Nat):(jI T vs j).length<=T.length+vs.length:=by
 unfold jI;rw[List.length_append,List.length_map,List.length_take];omega
theorem sa {l:List Pr}(hq:∀k,(l.getD k Pr.z).vs.length<=10000)(h20:l.length<=20)(k:Nat):(a8 (l.take k)).length<=200000:=by
 have h:=sb (N:=10000) (l:=l.take k) λq h=>by
  obtain⟨i,hi,rfl⟩:=List.getElem_of_mem (List.mem_of_mem_take h);have:=hq i;rwa [List.getD_eq_getElem?_getD,List.getElem?_eq_getElem hi] at this
 have h1:(l.take k).length<=20:=by rw[List.length_take];omega
 have h2:=Nat.mul_le_mul_right 10000 h1;omega
theorem yf {P:Program}{G:Glo}{f:FuncId}{eT:Option TypeId}{b cap:Nat}{L:List (List UInt8)}{avs:List AVal}(h:ad P G f avs [wU eT b cap L] (λr H=>r= .ret (.tuple [])/\H=[wU eT b cap (eS L)])):ad P G f avs [wU eT b cap L] (λr H=>r= .ret (.tuple [])/\H=[.row (.slice (some ⟨b,0,none⟩) L.length cap) eT 1 L.length (aY (eS L))]):=by
 unfold wU at h ⊢;rwa [dS] at h
theorem H4 {P:Program}[Tab P]{G:Glo}{f:FuncId}{avs:List AVal}{H:Heap}{K Kp:AVal->Heap->Prop}{x:HEnt}{v:AVal}(i:Nat)(hi:H[i]? =some x)(hs:ad P G f avs [x] (λr H'=>r= .ret v/\H'=[]))(k:cn (H.eraseIdx i) (K v)):Cx P G f avs H K Kp:=by
 rw[aP] at k;have hp:=fx hi;refine⟨λr H'=>r= .ret v/\H'=H.eraseIdx i,io (im (H1:=[x]++H.eraseIdx i) (by simpa using hp.symm) (ff (H.eraseIdx i) hs)) ?_,?_,?_⟩
 ·rintro r H' ⟨H1',⟨rfl,rfl⟩,rfl⟩;exact⟨_,List.Perm.refl _,rfl,rfl⟩
 ·rintro v' H' ⟨e,rfl⟩;cases e;exact k
 ·rintro v' H' ⟨e,rfl⟩;cases e
theorem tC {v:Value}{eT:Option TypeId}{sz m:Nat}{cs:List AVal}(fl:Nat->AVal)(hf:∀j,j<m->(fl j).cells=(cs.drop (j*sz)).take sz/\(fl j).plain=true):zV (.ret (.raw v)) [.row v eT sz m cs] (.list sz m fl):=by
 rintro C R w e hm ⟨x,rfl,hx⟩;obtain rfl:=al.1 hx;obtain⟨R2,hle,hm2,hr⟩:=hm.seal_row hf;exact⟨R2,hm2,_,rfl,hr⟩
theorem sS {G:Glo}(L:List Pr)(b cap i:Nat)(hi:i<L.length)(hl:L.length<=10000):ad prog G 43 [.raw (kg b L.length cap),.int .i64 (i:Nat),.int .i64 ((i:Nat)+1:Int)] [jq none b L.length cap L] (λr H=>r= .ret (.list 2 (L.eraseIdx i).length (dM (L.eraseIdx i)))/\H=[]):=by
 have h:=AW (G:=G) L b cap i hi hl;rw[show((i+1:Nat):Int)=(i:Nat)+1 from rfl,show L.length-1=(L.eraseIdx i).length by rw[List.length_eraseIdx_of_lt hi]] at h;exact lC h (by rintro _ _ ⟨rfl,rfl⟩;exact tC _ vL)
theorem zu {G:Glo}(eT:Option TypeId)(b cap:Nat)(L:List (List UInt8))(hl:L.length<=1000000):ad prog G 48 [.raw (.slice (some ⟨b,0,none⟩) L.length cap)] [wU eT b cap L] (λr H=>r= .ret (.list 1 (Lib.compact L).length (aE (Lib.compact L)))/\H=[]):=
 lC (qx eT b cap L hl (pj L)) (by rintro _ _ ⟨rfl,rfl⟩;exact tC _ (iS _))
theorem BF {G:Glo}(eT:Option TypeId)(b cap:Nat)(L:List (List UInt8))(hl:L.length<=1000000):ad prog G 48 [.raw (.slice (some ⟨b,0,none⟩) L.length cap)] [.row (.slice (some ⟨b,0,none⟩) L.length cap) eT 1 L.length (aY (eS L))] (λr H=>r= .ret (.list 1 (Lib.compact (eS L)).length (aE (Lib.compact (eS L))))/\H=[]):=by
 have h:=zu (G:=G) eT b cap (eS L) (by rw[dS];exact hl);unfold wU at h;rwa [dS] at h
theorem Ck {C:Ctx}{n:Nat}{e:Env}{h h':Heap}(hh:h'.Sublist h):To C n e h e h':=λR _ _ hm hf=>⟨R,Seal.le_refl R,hm.drop hh,hf⟩
theorem Cj {C:Ctx}{n:Nat}{e:Env}{va u:Value}{L:List Pr}{w:List UInt8}{vs:List (List UInt8)}{m:Nat}{c1 c2:HEnt}{eT eU:Option TypeId}:To C n e [.row va eT 2 m (da L++([.str w,.own 3 u]:List AVal)),c1,c2,.row u eU 1 vs.length (aY vs)] e
  [.row va eT 2 m (da (L++[⟨w,vs⟩])),c1]:=by
 have hI:=fa L;have e1:(da L++([.str w,.own 3 u]:List AVal)).set (L.length*2+1) (.list 1 vs.length (aE vs))=da (L++[⟨w,vs⟩]):=by
  rw[List.set_append_right _ _ (by omega),hI,Nat.add_sub_cancel_left,qX]
  rfl
 rw[<-e1]
 refine aX (pS (i:=3) (k:=0) (p:=L.length*2+1) (aE vs) rfl rfl (iS vs) (λR hr=>.row (a:=.own 3 u) ?_ λ_=>dx hr)) (Ck ?_)
 ·rw[List.getElem?_append_right (by omega),hI,Nat.add_sub_cancel_left];rfl
 ·exact List.Sublist.cons_cons _ (List.Sublist.cons_cons _ (List.nil_sublist _))
theorem xp {C:Ctx}{n:Nat}{e:Env}{va u:Value}{L:List Pr}{w s:List UInt8}{m:Nat}{c1 c2:HEnt}{eT eU:Option TypeId}:To C n e [.row va eT 2 m (da L++([.str w,.own 3 u]:List AVal)),c1,c2,.row u eU 1 1 [.str s]] e [.row va eT 2 m (da (L++[⟨w,[s]⟩])),c1]:=Cj (vs:=[s])
theorem qt {G:Glo}(s:List UInt8):ad prog G 18 [.list 1 1 (aE [s])] [] (λr H=>∃b cap,r= .ret (.own 0 (.slice (some ⟨b,0,none⟩) 1 cap))/\H=[.row (.slice (some ⟨b,0,none⟩) 1 cap) none 1 1 [.str s]]):=oe [s] Nat.zero_lt_one (show 1<=2000000 by decide)
attribute [local irreducible] bI ap aa az aW ab ad
theorem sU {G:Glo}(f:Nat):an prog G 167 [.raw (.slice none 0 0),.int .i64 0,.int .i64 0,.func (.func f) [] []] (.tuple []):=by
 refine jZ func167 call167 λC hC hGL=> ?_;refine aI hC hGL (aT ?_);refine ja hC hGL 1 ?_;exact ez
theorem Aq {G:Glo}(f:Nat):an prog G 99 [.raw (.slice none 0 0),.int .i64 0,.func (.func f) [] []] (.tuple []):=by
 have hI:=sU (G:=G) f;refine jZ func99 call99 λC hC hGL=> ?_;refine aI hC hGL (aT ?_);refine ja hC hGL 1 ?_;refine aT ?_;intros;refine ja hC hGL 1 ?_;exact ez
theorem F3 {G:Glo}(f:Nat):an prog G 49 [.raw (.slice none 0 0),.func (.func f) [] []] (.tuple []):=by
 have hI:=Aq (G:=G) f;refine jZ func49 call49 λC hC hGL=> ?_;exact aI hC hGL ez
end
section
attribute [local irreducible] bI ap aa az aW ab ad
attribute [local irreducible] bq dp pX isS bY cQ canonP eG fJ ao
theorem rt {G:Glo}{m:Int}(hM:ab G (cw m))(s:List UInt8)(hl:s.length<=10000):an prog G 19 [.str s] (.tuple [.str (ii s),(bM s).A]):=by
 have h1:=mF (G:=G) s (by omega);have h2:=jH (G:=G) s (by omega);refine aw func19 call19 λC hC hGL=> ?_;unfold ii;cases hX:bM s with
 |errno e=>
  rw[hX] at h1;repeat' (first|(conv=>whnf);first|refine .w ?_|refine .v ?_|refine bu ?_ ?_<;>(intro hb;try exact dd hb)|apply au|apply aM|(apply a6<;>intro hb)|(apply ba;intro hbd)|(apply aJ;exact h1)|(apply ax (i:=0) rfl;exact h1)|(apply bc;intro bl)|(apply bh;intro va vk vc hva)|(apply bg;intro v)|(apply bj;intro bl cap hcap)|apply bx|(apply bf<;>intro hnx)|apply ct mixed hC hGL (by kernel_rfl)|(apply cq;assumption;exact h1;exact rfl)|(show Rt _ _ _;exact a7)|fail)
  all_goals try conv=>whnf
 | «at» e p=>
  rw[hX] at h1;repeat' (first|(conv=>whnf);first|refine .w ?_|refine .v ?_|refine bu ?_ ?_<;>(intro hb;try exact dd hb)|apply au|apply aM|(apply a6<;>intro hb)|(apply ba;intro hbd)|(apply aJ;exact h1)|(apply ax (i:=0) rfl;exact h1)|(apply bc;intro bl)|(apply bh;intro va vk vc hva)|(apply bg;intro v)|(apply bj;intro bl cap hcap)|apply bx|(apply bf<;>intro hnx)|apply ct mixed hC hGL (by kernel_rfl)|(apply cq;assumption;exact h1;exact rfl)|(show Rt _ _ _;exact a7)|fail)
  all_goals try conv=>whnf
 |none=>
  rw[hX] at h1;repeat' (first|(conv=>whnf);first|refine .w ?_|refine .v ?_|refine bu ?_ ?_<;>(intro hb;try exact dd hb)|apply au|apply aM|(apply a6<;>intro hb)|(apply ba;intro hbd)|(apply aJ;first|exact h1|exact h2)|(apply ax (i:=0) rfl;first|exact h1|exact h2)|(apply bc;intro bl)|(apply bh;intro va vk vc hva)|(apply bg;intro v)|(apply bj;intro bl cap hcap)|apply bx|(apply bf<;>intro hnx)|apply ct mixed hC hGL (by kernel_rfl)|(apply cq;assumption;(first|exact h1|exact h2);exact rfl)|(show Rt _ _ _;exact a7)|fail)
  all_goals try conv=>whnf
  have h3:=tz (G:=G) hM [] (lowS s) 45 (by rw[eZ];omega);rw[DK] at h3;have hPl:=gv 45 s;generalize bq 45 s=P at*
  have hq:=BN P;have hpl:∀p,p∈P.map lowS->p.length<=10000:=by
   intro p hp;obtain⟨q,hq,rfl⟩:=List.mem_map.1 hp;rw[eZ];exact Nat.le_trans (hPl.2 q hq) hl
  have hn:(P.map lowS).length<=10001:=by rw[List.length_map];omega
  generalize P.map lowS=ps at*
  apply MN h3;repeat' (first|(conv=>whnf);first|refine .w ?_|refine .v ?_|refine bu ?_ ?_<;>(intro hb;try exact dd hb)|apply au|apply aM|(apply a6<;>intro hb)|(apply ba;intro hbd)|(apply bc;intro bl)|(apply bh;intro va vk vc hva)|(apply bg;intro v)|(apply bj;intro bl cap hcap)|apply bx|(apply bf<;>intro hnx)|apply ct mixed hC hGL (by kernel_rfl)|(show Rt _ _ _;exact a7)|fail)
  all_goals try conv=>whnf
  refine lp hC hGL (λ(x:Nat×List (List UInt8))=>[(5,.own 0 (.slice (some ⟨bl,0,none⟩) ps.length ps.length)),(16,.own 0 (.slice (some ⟨bl,0,none⟩) ps.length ps.length)),(17,.int .i64 ps.length),(18,.int .i64 x.1)]) (λx=>[.row (.slice (some ⟨bl,0,none⟩) ps.length ps.length) (some 9) 1 ps.length (aY x.2)]) (λx=>fJ ps x.1 x.2) (λx=>ps.length-x.1) (0,ps) ?_ ai rfl ?_
  ·exact Ke ps
  rintro⟨k,L⟩ hC0;have hC1:L.length=ps.length/\k<=ps.length:=by unfold fJ at hC0;exact⟨hC0.1,hC0.2.1⟩
  dsimp only at hC0 ⊢;by_cases hk:k<ps.length
  ·have hU:=λt (ht:t.length<=10000)=>dW (G:=G) t (by omega);have hxl:(ps.getD k []).length<=10000:=hpl _ (by rw[List.getD_eq_getElem?_getD,List.getElem?_eq_getElem hk];exact List.getElem_mem hk);have hxl1:((ps.getD k []).take 1).length<=10000:=by rw[List.length_take];omega
   repeat' (first|(conv=>whnf);first|refine .w ?_|refine .v ?_|refine bu ?_ ?_<;>(intro hb;try exact dd hb)|apply au|apply aM|(apply a6<;>intro hb)|(apply ba;intro hbd)|(apply bc;intro bl)|(apply bh;intro va vk vc hva)|(apply bg;intro v)|(apply bj;intro bl cap hcap)|apply bx|(apply bf<;>intro hnx)|apply ct mixed hC hGL (by kernel_rfl)|(show Rt _ _ _;exact a7)|fail)
   all_goals try conv=>whnf
   refine nu (oa (by omega)) rfl ?_;rw[Ie hC0 hk];generalize hx:ps.getD k []=x at*
   repeat' (first|(conv=>whnf);first|refine .w ?_|refine .v ?_|refine bu ?_ ?_<;>(intro hb;try exact dd hb)|apply au|apply aM|(apply a6<;>intro hb)|(apply ba;intro hbd)|(apply aJ;first|(exact hU _ (by assumption)))|(apply ax (i:=0) rfl;first|(exact hU _ (by assumption)))|(apply bc;intro bl)|(apply bh;intro va vk vc hva)|(apply bg;intro v)|(apply bj;intro bl cap hcap)|apply bx|(apply bf<;>intro hnx)|exact True.intro|(apply cW;intro C hC)|apply cV|apply cT|(apply cU;exact rfl)|(show Rt _ _ _;exact a7)|fail)
   all_goals try conv=>whnf
   ·refine db (k+1,L.set k (ix x)) (uH hC0 hk ?_) (by dsimp only;omega) ⟨rfl,rfl,rfl,rfl,trivial⟩ ?_
    ·rw[hx,canonP,if_pos ⟨by omega,by omega⟩]
    ·dsimp only
     rw[<-tu _ _ _ (by omega)]
   ·have hl5:(ao 97 122 (-32) (x.take 1)).length<=1:=by rw[eZ,List.length_take];omega
    have hl6:(x.drop 1).length<=10000:=by rw[List.length_drop];omega
    refine dz mixed hC hGL false (λ(_:Unit)=>[(5,.own 0 (.slice (some ⟨bl,0,none⟩) ps.length ps.length)),(16,.own 0 (.slice (some ⟨bl,0,none⟩) ps.length ps.length)),(17,.int .i64 ps.length),(18,.int .i64 k)]) (λ_=>[.row (.slice (some ⟨bl,0,none⟩) ps.length ps.length) (some 9) 1 ps.length (aY (L.set k (ix (x.take 1)++x.drop 1)))]) (.t 0 (.t 1 (.t 2 (.t 3 (.t 5 (.t 6 (.b 4 (.t 7 (.t 8 (.b 9 .done)))))))))) (by kernel_rfl) ?_ ?_
    ·repeat' (first|(conv=>whnf);first|refine .w ?_|refine .v ?_|refine bu ?_ ?_<;>(intro hb;try exact dd hb)|apply au|apply aM|(apply a6<;>intro hb)|(apply ba;intro hbd)|(apply aJ;first|(exact hU _ (by assumption)))|(apply ax (i:=0) rfl;first|(exact hU _ (by assumption)))|(apply bc;intro bl)|(apply bh;intro va vk vc hva)|(apply bg;intro v)|(apply bj;intro bl cap hcap)|apply bx|(apply bf<;>intro hnx)|exact True.intro|(apply cW;intro C hC)|apply cV|apply cT|(apply cU;exact rfl)|(show Rt _ _ _;exact a7)|fail)
     all_goals try conv=>whnf
     refine⟨(),⟨rfl,rfl,rfl,rfl,trivial⟩,?_⟩;rw[<-tu _ _ _ (by omega)]
    ·intro _;repeat' (first|(conv=>whnf);first|refine .w ?_|refine .v ?_|refine bu ?_ ?_<;>(intro hb;try exact dd hb)|apply au|apply aM|(apply a6<;>intro hb)|(apply ba;intro hbd)|(apply bc;intro bl)|(apply bh;intro va vk vc hva)|(apply bg;intro v)|(apply bj;intro bl cap hcap)|apply bx|(apply bf<;>intro hnx)|exact True.intro|(apply cW;intro C hC)|apply cV|apply cT|(apply cU;exact rfl)|(show Rt _ _ _;exact a7)|fail)
     all_goals try conv=>whnf
     refine db (k+1,L.set k (ix (x.take 1)++x.drop 1)) ?_ ?_ ai rfl
     ·exact uH hC0 hk (by rw[hx,canonP,if_neg (by omega),if_pos ⟨by omega,by omega⟩])
     ·dsimp only;omega
   ·refine db (k+1,L) ?_ ?_ ai rfl
    ·exact zy hC0 hk (by rw[hx,canonP,if_neg (by omega),if_neg (by omega)])
    ·dsimp only;omega
   ·refine db (k+1,L) ?_ ?_ ai rfl
    ·exact zy hC0 hk (by rw[hx,canonP,if_neg (by omega),if_neg (by omega)])
    ·dsimp only;omega
  ·repeat' (first|(conv=>whnf);first|refine .w ?_|refine .v ?_|refine bu ?_ ?_<;>(intro hb;try exact dd hb)|apply au|apply aM|(apply a6<;>intro hb)|(apply ba;intro hbd)|(apply bc;intro bl)|(apply bh;intro va vk vc hva)|(apply bg;intro v)|(apply bj;intro bl cap hcap)|apply bx|(apply bf<;>intro hnx)|apply ct mixed hC hGL (by kernel_rfl)|(show Rt _ _ _;exact a7)|fail)
   all_goals try conv=>whnf
   have e:L=eG P:=by rw[<-hq];exact E4 hC0 (by omega)
   have hLl:∀p,p∈L->p.length<=10000:=by
    rw[e,<-hq];intro p hp;obtain⟨j,hj,rfl⟩:=List.getElem_of_mem hp;rw[List.getElem_mapIdx,r8];exact hpl _ (List.getElem_mem _)
   have hjl:=ug 10000 L hLl;have hjl2:L.length*(10000+1)<=10001*10001:=Nat.mul_le_mul (by omega) (Nat.le_refl _);have hJ:=cd (G:=G) (eT:=some 9) L [45] (.slice (some ⟨bl,0,none⟩) ps.length ps.length) (by omega) (by omega);rw[hC1.1] at hJ;apply ax (i:=0) rfl hJ;repeat' (first|(conv=>whnf);first|refine .w ?_|refine .v ?_|refine bu ?_ ?_<;>(intro hb;try exact dd hb)|apply au|apply aM|(apply a6<;>intro hb)|(apply ba;intro hbd)|(apply bc;intro bl)|(apply bh;intro va vk vc hva)|(apply bg;intro v)|(apply bj;intro bl cap hcap)|apply bx|(apply bf<;>intro hnx)|apply ct mixed hC hGL (by kernel_rfl)|(show Rt _ _ _;exact a7)|fail)
   all_goals try conv=>whnf
   apply aj;rw[e];rfl
theorem GD (b:Bool)(a:Nat)(x:List UInt8):cY (cQ b a x).e 0=(cQ b a x).isNone:=by
 unfold cQ
 (repeat' split)<;>first|(exact fh.2 rfl)|(simp only[Err.e,Err.isNone];rw[rQ];omega)
theorem CY:∀(ps:List (List UInt8)) (b:Bool) (a:Nat),cY (dp b a ps).e 0=(dp b a ps).isNone
 |[],b,a=>by rw[dp];exact fh.2 rfl
 |x::xs,b,a=>by
  rw[mG];split
  ·exact CY xs _ _
  ·exact GD b a x
theorem BL {ps:List (List UInt8)}{k:Nat}(h:k<ps.length){y:List UInt8}(hy:y=canonP k (lowS (ps.getD k []))):(eG ps).take k++[y]=(eG ps).take (k+1):=by
 have hl:k<(eG ps).length:=by rw[r9];exact h
 have h1:=BO h;rw[List.getElem?_eq_getElem hl] at h1;rw[List.take_succ_eq_append_getElem hl,Option.some.inj h1,hy]
theorem ma {G:Glo}{m:Int}(hM:ab G (cw m))(s:List UInt8)(hl:s.length<=10000):an prog G 22 [.str s] (.tuple [.str (ii s),.agg [.int .i64 (bM s).e,.int .i64 (bM s).p]]):=by
 have h1:=iB (G:=G) hM s (by omega);have h2:=jE (G:=G) (bM s).e (bM s).p;have h3:=mv (G:=G) hM s 45 (by omega);have hgd:=i7 (G:=G);refine aw func22 call22 λC hC hGL=> ?_;unfold ii;have hE:cY (bM s).e 0=(bM s).isNone:=CY _ _ _;rw[hE] at h2;cases hX:(bM s).isNone with
 |false=>
  rw[hX] at h2;repeat' (first|(conv=>whnf);first|refine .w ?_|refine .v ?_|refine bu ?_ ?_<;>(intro hb;try exact dd hb)|apply au|apply aM|(apply a6<;>intro hb)|(apply ba;intro hbd)|(apply aJ;first|exact h1|exact h2)|(apply ax (i:=0) rfl;first|exact h1|exact h2)|(apply bc;intro bl)|(apply bh;intro va vk vc hva)|(apply bg;intro v)|(apply bj;intro bl cap hcap)|apply bx|(apply bf<;>intro hnx)|exact True.intro|(apply cW;intro C hC)|apply cV|apply cT|(apply cU;exact rfl)|(show Rt _ _ _;exact a7)|fail)
  all_goals try conv=>whnf
  rename_i bl0;refine dz mixed hC hGL false (λ(_:Unit)=>[(2,.str []),(3,.own 0 (.pointer (some ⟨bl0,0,none⟩)))]) (λ_=>[.cells bl0 (some 59) [.int .i64 (bM s).e,.int .i64 (bM s).p],.cells bl (some 59) [.int .i64 (bM s).e,.int .i64 (bM s).p]]) (.t 1 (.b 0 (.b 2 .done))) (by kernel_rfl) ?_ ?_
  ·repeat' (first|(conv=>whnf);first|refine .w ?_|refine .v ?_|refine bu ?_ ?_<;>(intro hb;try exact dd hb)|apply au|apply aM|(apply a6<;>intro hb)|(apply ba;intro hbd)|(apply bc;intro bl)|(apply bh;intro va vk vc hva)|(apply bg;intro v)|(apply bj;intro bl cap hcap)|apply bx|(apply bf<;>intro hnx)|exact True.intro|(apply cW;intro C hC)|apply cV|apply cT|(apply cU;exact rfl)|(show Rt _ _ _;exact a7)|fail)
   all_goals try conv=>whnf
   exact⟨(),⟨rfl,rfl,trivial⟩,rfl⟩
  ·intro _;repeat' (first|(conv=>whnf);first|refine .w ?_|refine .v ?_|refine bu ?_ ?_<;>(intro hb;try exact dd hb)|apply au|apply aM|(apply a6<;>intro hb)|(apply ba;intro hbd)|(apply bc;intro bl)|(apply bh;intro va vk vc hva)|(apply bg;intro v)|(apply bj;intro bl cap hcap)|apply bx|(apply bf<;>intro hnx)|exact True.intro|(apply cW;intro C hC)|apply cV|apply cT|(apply cU;exact rfl)|(show Rt _ _ _;exact a7)|fail)
   all_goals try conv=>whnf
 |true=>
  rw[hX] at h2;repeat' (first|(conv=>whnf);first|refine .w ?_|refine .v ?_|refine bu ?_ ?_<;>(intro hb;try exact dd hb)|apply au|apply aM|(apply a6<;>intro hb)|(apply ba;intro hbd)|(apply aJ;first|exact h1|exact h2|exact h3)|(apply ax (i:=0) rfl;first|exact h1|exact h2|exact h3)|(apply bc;intro bl)|(apply bh;intro va vk vc hva)|(apply bg;intro v)|(apply bj;intro bl cap hcap)|apply bx|(apply bf<;>intro hnx)|exact True.intro|(apply cW;intro C hC)|apply cV|apply cT|(apply cU;exact rfl)|(show Rt _ _ _;exact a7)|fail)
  all_goals try conv=>whnf
  rename_i bl0;have hPl:=gv 45 s;generalize bq 45 s=P at*
  refine kK 5 1 rfl ?_;refine lp hC hGL (λ(x:Nat×List (List UInt8)×Value)=>[(3,.own 0 (.pointer (some ⟨bl0,0,none⟩))),(5,.own 2 x.2.2),(15,.list 1 P.length (aE P)),(16,.int .i64 P.length),(17,.int .i64 x.1)]) (λx=>[.cells bl0 (some 59) [.int .i64 0,.int .i64 0],.cells bl (some 59) [.int .i64 (bM s).e,.int .i64 (bM s).p],.row x.2.2 none 1 x.2.1.length (aY x.2.1)]) (λx=>x.1<=P.length/\x.2.1=(eG P).take x.1) (λx=>P.length-x.1) (0,[],.slice none 0 0) ?_ ai rfl ?_
  ·exact⟨Nat.zero_le _,by simp⟩
  rintro⟨k,out,v⟩ ⟨g1,g2⟩;dsimp only at g1 g2 ⊢;have hol:out.length<=10001:=by rw[g2,List.length_take];omega
  by_cases hk:k<P.length
  ·have hxl:(P.getD k []).length<=10000:=by rw[List.getD_eq_getElem?_getD,List.getElem?_eq_getElem hk];exact Nat.le_trans (hPl.2 _ (List.getElem_mem hk)) hl
   have hL:=gx (G:=G) (P.getD k []) (by omega);have hct:=λy=>BL (y:=y) hk;have hlen:=eZ 65 90 32 (P.getD k []);have hxe:aE P k= .str (P.getD k []):=rfl;generalize P.getD k []=x at*
   generalize hy:ao 65 90 32 x=y at*
   have hU:=i6 (G:=G) y (by omega);have hU1:=i6 (G:=G) (y.take 1) (by rw[List.length_take];omega);have hu1:(ao 97 122 (-32) y).length=y.length:=eZ _ _ _ _;have hu2:(ao 97 122 (-32) (y.take 1)).length<=1:=by rw[eZ,List.length_take];omega
   have hu3:(y.drop 1).length<=10000:=by rw[List.length_drop];omega
   have hcU:=call21;repeat' (first|(conv=>whnf);first|refine .w ?_|refine .v ?_|refine bu ?_ ?_<;>(intro hb;try exact dd hb)|apply au|apply aM|(apply a6<;>intro hb)|(apply ba;intro hbd)|(apply bc;intro bl)|(apply bh;intro va vk vc hva)|(apply bg;intro v)|(apply bj;intro bl cap hcap)|apply bx|(apply bf<;>intro hnx)|apply ct mixed hC hGL (by kernel_rfl)|(show Rt _ _ _;exact a7)|fail)
   all_goals try conv=>whnf
   rw[hxe];repeat' (first|(conv=>whnf);first|refine .w ?_|refine .v ?_|refine bu ?_ ?_<;>(intro hb;try exact dd hb)|apply au|apply aM|(apply a6<;>intro hb)|(apply ba;intro hbd)|(apply aJ;first|exact hL|exact hU|exact hU1)|(apply ax (i:=0) rfl;first|exact hL|exact hU|exact hU1)|(apply bc;intro bl)|(apply bh;intro va vk vc hva)|(apply bg;intro v)|(apply bj;intro bl cap hcap)|apply bx|(apply bf<;>intro hnx)|apply ct mixed hC hGL (by kernel_rfl)|(apply cq;assumption;(first|exact hL|exact hU|exact hU1);exact rfl)|(show Rt _ _ _;exact a7)|fail)
   all_goals try conv=>whnf
   ·refine db (k+1,out++[ix y],.slice va vk vc) ⟨by dsimp only;omega,?_⟩ (by dsimp only;omega) ⟨rfl,rfl,rfl,rfl,rfl,trivial⟩ ?_
    ·dsimp only
     rw[g2];exact hct _ (by rw[show lowS x=y from hy,canonP,if_pos ⟨by omega,by omega⟩])
    ·dsimp only
     rw[<-cM,List.length_append];rfl
   ·refine db (k+1,out++[ix (y.take 1)++y.drop 1],.slice va vk vc) ⟨by dsimp only;omega,?_⟩ (by dsimp only;omega) ⟨rfl,rfl,rfl,rfl,rfl,trivial⟩ ?_
    ·dsimp only
     rw[g2];exact hct _ (by rw[show lowS x=y from hy,canonP,if_neg (by omega),if_pos ⟨by omega,by omega⟩])
    ·dsimp only
     rw[<-cM,List.length_append];rfl
   ·refine db (k+1,out++[y],.slice va vk vc) ⟨by dsimp only;omega,?_⟩ (by dsimp only;omega) ⟨rfl,rfl,rfl,rfl,rfl,trivial⟩ ?_
    ·dsimp only
     rw[g2];exact hct _ (by rw[show lowS x=y from hy,canonP,if_neg (by omega),if_neg (by omega)])
    ·dsimp only
     rw[<-cM,List.length_append];rfl
   ·refine db (k+1,out++[y],.slice va vk vc) ⟨by dsimp only;omega,?_⟩ (by dsimp only;omega) ⟨rfl,rfl,rfl,rfl,rfl,trivial⟩ ?_
    ·dsimp only
     rw[g2];exact hct _ (by rw[show lowS x=y from hy,canonP,if_neg (by omega),if_neg (by omega)])
    ·dsimp only
     rw[<-cM,List.length_append];rfl
  ·have e:out=eG P:=by rw[g2,List.take_of_length_le (by rw[r9];omega)]
   have hLl:∀p,p∈out->p.length<=10000:=by
    rw[e];intro p hp;unfold eG at hp;obtain⟨j,hj,rfl⟩:=List.getElem_of_mem hp;rw[List.getElem_mapIdx,r8,eZ];exact Nat.le_trans (hPl.2 _ (List.getElem_mem _)) hl
   have hjl:=ug 10000 out hLl;have hjl2:out.length*(10000+1)<=10001*10001:=Nat.mul_le_mul hol (Nat.le_refl _);repeat' (first|(conv=>whnf);first|refine .w ?_|refine .v ?_|refine bu ?_ ?_<;>(intro hb;try exact dd hb)|apply au|apply aM|(apply a6<;>intro hb)|(apply ba;intro hbd)|(apply bc;intro bl)|(apply bh;intro va vk vc hva)|(apply bg;intro v)|(apply bj;intro bl cap hcap)|apply bx|(apply bf<;>intro hnx)|apply ct mixed hC hGL (by kernel_rfl)|(show Rt _ _ _;exact a7)|fail)
   all_goals try conv=>whnf
   apply ax (i:=2) rfl (cd out [45] v (by omega) (by omega));repeat' (first|(conv=>whnf);first|refine .w ?_|refine .v ?_|refine bu ?_ ?_<;>(intro hb;try exact dd hb)|apply au|apply aM|(apply a6<;>intro hb)|(apply ba;intro hbd)|(apply aJ;exact hgd)|(apply ax (i:=0) rfl;exact hgd)|(apply bc;intro bl)|(apply bh;intro va vk vc hva)|(apply bg;intro v)|(apply bj;intro bl cap hcap)|apply bx|(apply bf<;>intro hnx)|apply ct mixed hC hGL (by kernel_rfl)|(apply cq;assumption;exact hgd;exact rfl)|(show Rt _ _ _;exact a7)|fail)
   all_goals try conv=>whnf
   apply aj;have hn:bM s= .none:=by cases hh:bM s<;>rw[hh] at hX<;>first|rfl|cases hX
   rw[if_pos rfl,hn,e];rfl
end
section
abbrev LN (va:Option Addr)(vk vc:Nat)(L:List Pr):HEnt:=.row (.slice va vk vc) none 2 L.length (da L)
abbrev Nk (va:Option Addr)(vk vc:Nat)(L:List (List UInt8)):HEnt:=.row (.slice va vk vc) none 1 L.length (aY L)
theorem Jt:da []=[]:=rfl
theorem Je:LN none 0 0 []= .row (.slice none 0 0) none 2 0 []:=rfl
theorem Jd:Nk none 0 0 []= .row (.slice none 0 0) none 1 0 []:=rfl
theorem DH:aY []=[]:=rfl
theorem F1:cO []=[]:=rfl
abbrev cpI (v:Int)(x:Itm)(pa:Option Addr)(pk pc:Nat)(ta:Option Addr)(tk tc k:Nat):Env:=[(1,.int .i64 v),(2,.rop (bR x) 0),(5,.own 0 (.slice pa pk pc)),(6,.own 1 (.slice ta tk tc)),(17,.list 2 x.1.ps.length (dM x.1.ps)),(18,.int .i64 (x.1.ps.length:Int)),(19,.int .i64 (k:Int))]
attribute [local irreducible] bI ap aa az aW ab ad
attribute [local irreducible] da aY cO eS bN a8 ao ii jV bO eK jI
theorem s5 {G:Glo}{m:Int}(hM:ab G (cw m))(hS:kb G)(v:Int)(hv:v=3\/v=4)(x:Itm)(hx:x.OK 10000)(hw:x.w v=0):ad prog G 17 [ij x,.int .i64 v] [] (λr H=>∃i u,r= .ret (.own i u)/\H=[.row u none 2 (kX x.2.t (bO v x.1.n).t x.1.ps).length (da (cO (kX x.2.t (bO v x.1.n).t x.1.ps)))]):=by
 obtain⟨h20,hfit,hdis⟩:=kr hw;have hq:∀k,(x.1.ps.getD k Pr.z).n.length<=1100000/\(x.1.ps.getD k Pr.z).vs.length<=10000/\Lib.lens (x.1.ps.getD k Pr.z).vs<=10000:=hx.p.q;have hxn:x.1.n.length<=10000:=hx.p.n;have hty:=λk hk hn=>AK hv hw (k:=k) hk hn;have hR:=λl h1 h2 h3=>qF (G:=G) hS v x.1.n l (by omega) h1 h2 h3;have hK:=AH (G:=G) x.2.t;rw[show fK v= .none by unfold fK;rw[if_pos hv]] at hR;simp only[Err.A,kS] at hR;have hlen:=p8 x.2.t (bO v x.1.n).t;have hctl:=sa (λk=>(hq k).2.1) h20;obtain⟨r,hr⟩:∃r,r=(bO v x.1.n).t:=⟨_,rfl⟩;rw[<-hr] at hlen hty ⊢;have hcl:∀k,(bN x.2.t r (x.1.ps.take k)).length<=20:=λk=>by
  have:=hlen (x.1.ps.take k);have:=List.length_take_le k x.1.ps;rw[List.length_take] at*
  omega
 unfold ij;refine aw func17 call17 λC hC hGL=> ?_;refine aZ ?_;intros;refine kK 5 2 rfl ?_;refine kK 6 1 rfl ?_;refine lpT hC hGL (λz:Nat×(Option Addr×Nat×Nat)×(Option Addr×Nat×Nat)=>cpI v x z.2.1.1 z.2.1.2.1 z.2.1.2.2 z.2.2.1 z.2.2.2.1 z.2.2.2.2 z.1) (λz=>[LN z.2.1.1 z.2.1.2.1 z.2.1.2.2 (bN x.2.t r (x.1.ps.take z.1)),Nk z.2.2.1 z.2.2.2.1 z.2.2.2.2 (a8 (x.1.ps.take z.1))]) (λz=>z.1<=x.1.ps.length/\mR (bN x.2.t r (x.1.ps.take z.1)).length z.2.1.1 z.2.1.2.1/\mR (a8 (x.1.ps.take z.1)).length z.2.2.1 z.2.2.2.1/\((bN x.2.t r (x.1.ps.take z.1)).length=0->z.2.1=(none,0,0))) (λz=>x.1.ps.length-z.1) (0,(none,0,0),(none,0,0)) ⟨Nat.zero_le _,?_,?_,λ_=>rfl⟩ (cL ai ?_) ?_
 ·intro h;simp[bN] at h
 ·intro h;simp[a8] at h
 ·rw[show bN x.2.t r (x.1.ps.take 0)=[] by simp[bN],show a8 (x.1.ps.take 0)=[] by simp[a8]];show List.Sublist [LN none 0 0 [],Nk none 0 0 []] _;rw[Je,Jd];exact List.Sublist.refl _
 rintro⟨k,⟨pa,pk,pc⟩,ta,tk,tc⟩ ⟨h1,h2,h3,h4⟩;dsimp only at h1 h2 h3 h4 ⊢;have hcl1:=hcl k;have hct1:=hctl k;by_cases hk:k<x.1.ps.length
 ·have hup:=dW (G:=G) (x.1.ps.getD k Pr.z).n (by have:=(hq k).1;omega);have hvl:=Dg (hfit k hk);have hvh:=(hq k).2.1;have hcn:=oe (G:=G) (x.1.ps.getD k Pr.z).vs hvl (by omega);by_cases hT:ao 97 122 (-32) (x.1.ps.getD k Pr.z).n=nTYP
  ·obtain⟨e1,e2⟩:=K1 (t:=x.2.t) (r:=r) hk hT;rw[hT] at hup;have hlo:=λj=>jH (G:=G) ((x.1.ps.getD k Pr.z).vs.getD j []) (by have:=(hq k).2.2;have:=cR (l:=(x.1.ps.getD k Pr.z).vs) (k:=j);omega);refine aZ ?_;intro b8;intros;refine nH hcn λb cap=> ?_;refine aZ ?_;intros;refine lp hC hGL (λz:Nat×Option Addr×Nat×Nat=>cpI v x pa pk pc z.2.1 z.2.2.1 z.2.2.2 k++[(33,.own 3 (.slice (some ⟨b,0,none⟩) (x.1.ps.getD k Pr.z).vs.length cap)),(34,.int .i64 ((x.1.ps.getD k Pr.z).vs.length:Int)),(35,.int .i64 (z.1:Int))]) (λz=>[LN pa pk pc (bN x.2.t r (x.1.ps.take k)),Nk z.2.1 z.2.2.1 z.2.2.2 (jI (a8 (x.1.ps.take k)) (x.1.ps.getD k Pr.z).vs z.1),.cells b8 (some 64) [.str (x.1.ps.getD k Pr.z).n,.list 1 (x.1.ps.getD k Pr.z).vs.length (aE (x.1.ps.getD k Pr.z).vs)],.row (.slice (some ⟨b,0,none⟩) (x.1.ps.getD k Pr.z).vs.length cap) none 1 (x.1.ps.getD k Pr.z).vs.length (aY (x.1.ps.getD k Pr.z).vs)]) (λz=>z.1<=(x.1.ps.getD k Pr.z).vs.length/\mR (jI (a8 (x.1.ps.take k)) (x.1.ps.getD k Pr.z).vs z.1).length z.2.1 z.2.2.1) (λz=>(x.1.ps.getD k Pr.z).vs.length-z.1) (0,ta,tk,tc) ⟨Nat.zero_le _,?_⟩ ai ?_ ?_
   ·rw[A5];exact h3
   ·rw[A5];rfl
   rintro⟨j,ua,uk,uc⟩ ⟨j1,j2⟩;dsimp only at j1 j2 ⊢;have hll:=G7 (a8 (x.1.ps.take k)) (x.1.ps.getD k Pr.z).vs j;by_cases hj:j<(x.1.ps.getD k Pr.z).vs.length
   ·have hg:=oa hj;have hlo:=hlo j;have hs:=tY (a8 (x.1.ps.take k)) hj;have hs2:(jI (a8 (x.1.ps.take k)) (x.1.ps.getD k Pr.z).vs (j+1)).length=(jI (a8 (x.1.ps.take k)) (x.1.ps.getD k Pr.z).vs j).length+1:=by rw[hs,List.length_append];rfl
    refine aZ ?_;intro va vk vc hva _;refine eg (j+1,va,vk,vc) ⟨hj,?_⟩ (by show _-(j+1)<_-j;omega) ai ?_
    ·rw[hs2];exact hva
    ·show List.Sublist [_,Nk va vk vc (jI (a8 (x.1.ps.take k)) (x.1.ps.getD k Pr.z).vs (j+1)),_,_] _;unfold Nk;rw[hs2,hs,<-cM];exact List.Sublist.refl _
   ·obtain rfl:j=(x.1.ps.getD k Pr.z).vs.length:=by omega
    rw[yN,<-e2] at j2 ⊢;refine aZ ?_;intros;refine NN (k+1,(pa,pk,pc),(ua,uk,uc)) ⟨hk,?_,j2,?_⟩ (by show _-(k+1)<_-k;omega) (cL ai ?_)
    ·rw[e1];exact h2
    ·rw[e1];exact h4
    ·dsimp only;rw[e1];exact aH
  by_cases hV:ao 97 122 (-32) (x.1.ps.getD k Pr.z).n=valN
  ·have hty:=hty k hk hV;obtain⟨s0,hs0⟩:=List.length_eq_one_iff.1 (lj hw hk (.inl hV));rw[hV] at hup;unfold valN at hup;have hcp:=El (G:=G) x.1.ps (by omega) (by omega);have hdl:=λb cap=>sS (G:=G) x.1.ps b cap k hk (by omega);have hall:=λj=>CG (l:=x.1.ps.eraseIdx k) (p:=λq=>q.n.length<=1100000/\q.vs.length<=10000/\Lib.lens q.vs<=10000) ⟨Nat.zero_le _,Nat.zero_le _,Nat.zero_le _⟩ (λq h=>by
    obtain⟨i,hi,rfl⟩:=List.getElem_of_mem (List.mem_of_mem_eraseIdx h);have:=hq i;rwa [List.getD_eq_getElem?_getD,List.getElem?_eq_getElem hi] at this) j
   have hR:=hR (x.1.ps.eraseIdx k) (by rw[List.length_eraseIdx_of_lt hk];omega) (λj=>by have:=(hall j).1;omega) (λj=>⟨by have:=(hall j).2.1;omega,by have:=(hall j).2.2;have:=cR (l:=((x.1.ps.eraseIdx k).getD j Pr.z).vs) (k:=0);omega⟩);rw[hty] at hR;have hc1:ad prog G 18 [.list 1 (x.1.ps.getD k Pr.z).vs.length (aE (x.1.ps.getD k Pr.z).vs)] [] (λr H=>∃b cap,r= .ret (.own 0 (.slice (some ⟨b,0,none⟩) 1 cap))/\H=[.row (.slice (some ⟨b,0,none⟩) 1 cap) none 1 1 [.str s0]]):=by rw[hs0];exact qt s0
   refine aZ ?_;intro b8;intros;refine nH hc1 λb cap=> ?_;refine aZ ?_;intros;refine nH hcp λb2 cap2=> ?_;refine aZ ?_;intros;refine H4 4 rfl (hdl b2 cap2) ?_;refine xw ?_;repeat' first|exact .n|apply Lc.mk
   all_goals intros
   ·obtain⟨e1,e2⟩:=Ig (t:=x.2.t) (r:=r) hk hV (by assumption);refine NN (k+1,(pa,pk,pc),(ta,tk,tc)) ⟨hk,?_,?_,?_⟩ (by show _-(k+1)<_-k;omega) (cL ai ?_)
    ·rw[e1];exact h2
    ·rw[e2];exact h3
    ·rw[e1];exact h4
    ·dsimp only;rw[e1,e2];exact aH
   ·refine kp ⟨⟨_,rfl⟩,by decide,by decide⟩ ?_;rw[aP];refine aZ ?_;intro va vk vc hva;obtain⟨e1,e2⟩:=If (t:=x.2.t) (r:=r) hk hV (by assumption);have e3:(bN x.2.t r (x.1.ps.take (k+1))).length=(bN x.2.t r (x.1.ps.take k)).length+1:=by rw[e1,List.length_append];rfl
    refine NN (k+1,(va,vk,vc),(ta,tk,tc)) ⟨hk,?_,?_,?_⟩ (by show _-(k+1)<_-k;omega) (aX xp (cL ai ?_))
    ·rw[e3];exact hva
    ·rw[e2];exact h3
    ·dsimp only;omega
    ·dsimp only[LN];rw[e3,e1,e2];exact aH
  by_cases hG:ao 97 122 (-32) (x.1.ps.getD k Pr.z).n=nLAN
  ·obtain⟨s0,hs0⟩:=List.length_eq_one_iff.1 (lj hw hk (.inr hG));rw[hG] at hup;have hlc:=rt (G:=G) hM s0 (by have:=(hq k).2.2;have:=cR (l:=(x.1.ps.getD k Pr.z).vs) (k:=0);rw[hs0] at*;have:s0.length<=_:=this;omega);have hc1:ad prog G 18 [.list 1 (x.1.ps.getD k Pr.z).vs.length (aE (x.1.ps.getD k Pr.z).vs)] [] (λr H=>∃b cap,r= .ret (.own 0 (.slice (some ⟨b,0,none⟩) 1 cap))/\H=[.row (.slice (some ⟨b,0,none⟩) 1 cap) none 1 1 [.str s0]]):=by rw[hs0];exact qt s0
   obtain⟨e1,e2⟩:=K3 (t:=x.2.t) (r:=r) hk hG hs0;have e3:(bN x.2.t r (x.1.ps.take (k+1))).length=(bN x.2.t r (x.1.ps.take k)).length+1:=by rw[e1,List.length_append];rfl
   refine aZ ?_;intro b8;intros;refine nH hc1 λb cap=> ?_;refine aZ ?_;intros;refine kp ⟨⟨_,rfl⟩,by decide⟩ ?_;refine nu rfl rfl ?_;refine aZ ?_;intros;refine kp ⟨⟨_,rfl⟩,by decide,by decide⟩ ?_;rw[aP];refine aZ ?_;intro va vk vc hva;refine NN (k+1,(va,vk,vc),(ta,tk,tc)) ⟨hk,?_,?_,?_⟩ (by show _-(k+1)<_-k;omega) (aX xp (cL ai ?_))
   ·rw[e3];exact hva
   ·rw[e2];exact h3
   ·dsimp only;omega
   ·dsimp only[LN];rw[e3,e1,e2];exact aH
  ·obtain⟨e1,e2⟩:=K2 (t:=x.2.t) (r:=r) hk hT hV hG;have e3:(bN x.2.t r (x.1.ps.take (k+1))).length=(bN x.2.t r (x.1.ps.take k)).length+1:=by rw[e1,List.length_append];rfl
   refine aZ ?_;intro b8;intros;refine nH hcn λb cap=> ?_;refine aZ ?_;intro va vk vc hva;intros;refine NN (k+1,(va,vk,vc),(ta,tk,tc)) ⟨hk,?_,?_,?_⟩ (by show _-(k+1)<_-k;omega) (aX Cj (cL ai ?_))
   ·rw[e3];exact hva
   ·rw[e2];exact h3
   ·dsimp only;omega
   ·dsimp only[LN];rw[e3,e1,e2];exact aH
 ·obtain rfl:k=x.1.ps.length:=by omega
  rw[List.take_length] at h2 h3 h4 hcl1 hct1 ⊢;obtain⟨L,hL⟩:∃L,L=bN x.2.t r x.1.ps:=⟨_,rfl⟩;have hA:kX x.2.t r x.1.ps=L++if a8 x.1.ps=[] then[] else[⟨nTYP,Lib.compact (eS (a8 x.1.ps))⟩]:=by rw[hL];rfl
  have hln:=hlen x.1.ps;rw[<-hL] at h2 h4 hcl1 hln ⊢;rw[hA];by_cases hT0:a8 x.1.ps=[]
  ·rw[if_pos hT0,List.append_nil];rw[hT0] at h3 hct1 ⊢;by_cases hL0:L.length=0
   ·obtain⟨rfl,rfl,rfl⟩:pa=none/\pk=0/\pc=0:=by have:=h4 hL0;simpa using this
    obtain rfl:=List.eq_nil_of_length_eq_zero hL0;have hsn:=F3 (G:=G) 50;refine aZ ?_;intros;exact⟨[_],List.Sublist.cons_cons _ (List.nil_sublist _),0,_,rfl,by rw[F1]⟩
   ·obtain⟨b,rfl,rfl⟩:=h2 (by omega);have hsp:=xE (G:=G) 50 uI none b L.length pc L rfl (by omega);refine aZ ?_;intros;exact⟨[_],List.Sublist.cons_cons _ (List.nil_sublist _),0,_,rfl,rfl⟩
  ·rw[if_neg hT0] at hln ⊢;have hTp:0<(a8 x.1.ps).length:=List.length_pos_iff.2 hT0;obtain⟨b,rfl,rfl⟩:=h3 hTp;have hs1:=yf (xG (G:=G) none b tc (a8 x.1.ps) (by omega));have hc1:=BF (G:=G) none b tc (a8 x.1.ps) (by omega);have hlA:(L++[(⟨nTYP,Lib.compact (eS (a8 x.1.ps))⟩:Pr)]).length=L.length+1:=by rw[List.length_append];rfl
   refine aZ ?_;intros;refine H4 1 rfl hc1 ?_;refine aZ ?_;intro va vk vc hva;intros;obtain⟨b2,rfl,rfl⟩:=hva (by omega);have hsp:=xE (G:=G) 50 uI none b2 (L.length+1) vc (L++[⟨nTYP,Lib.compact (eS (a8 x.1.ps))⟩]) hlA.symm (by omega);unfold jq at hsp;rw[qX] at hsp;refine ax (i:=0) rfl hsp ?_;refine aZ ?_;intros;exact⟨[_],List.Sublist.cons_cons _ (List.nil_sublist _),0,_,rfl,by rw[hlA]⟩
theorem wA {G:Glo}{m:Int}(hM:ab G (cw m))(hS:kb G)(v:Int)(hv:v=3\/v=4)(x:Itm)(hx:x.OK 10000)(hw:x.w v=0):an prog G 17 [ij x,.int .i64 v] (.list 2 (cO (kX x.2.t (bO v x.1.n).t x.1.ps)).length (dM (cO (kX x.2.t (bO v x.1.n).t x.1.ps)))):=
 p4 (λa=>a) CP (dM _) vL ((s5 hM hS v hv x hx hw).mono λ_ _ ⟨i,u,h1,h2⟩=>⟨i,u,h1,by rw[gC];exact h2⟩)
end
section
attribute [local irreducible] bI ap aa az aW ab ad
theorem pm {G:Glo}(v:Int):an prog G 41 [.int .i64 v] (.bool (cY v 4)):=by
 refine aw func41 call41 λC hC hGL=> ?_;exact bK
end
section
theorem BH {α β:Type}(k:Nat)(E:α->List β)(hE:∀z,(E z).length=k):∀(zs:List α) (cs:List β),cs.length=zs.length*k->
  (∀i z,zs[i]? =some z->(cs.drop (i*k)).take k=E z)->cs=zs.flatMap E
 |[],cs,hl,_=>by
  simp only[List.length_nil,Nat.zero_mul] at hl;simp[List.eq_nil_of_length_eq_zero hl]
 |z::zs,cs,hl,h=>by
  have h0:=h 0 z rfl;simp only[Nat.zero_mul,List.drop_zero] at h0;have hr:=BH k E hE zs (cs.drop k) (by rw[List.length_drop,hl,List.length_cons,Nat.succ_mul];omega) (λi y hy=>by
   have:=h (i+1) y hy;rw[List.drop_drop];rw[Nat.succ_mul,Nat.add_comm] at this;exact this)
  rw[List.flatMap_cons,<-h0,<-hr,List.take_append_drop]
theorem ox {R:Seal}:∀(l:List (IntKind×Int)),bA R (l.map λx=>.int x.1 x.2) (l.map λx=>.int x.1 x.2)
 |[]=>rfl
 |_::l=>⟨_,_,rfl,rfl,ox l⟩
section
variable {P:Program} {H:Type} {enc:TypeId×Value->H} {w:World} {base:Nat} {spare:Nat->Bool} {held:Bool}
theorem nY {t e n fuel:Nat}{k:IntKind}{cs:List Value}{ps:List MemPlace}{zs:List Nat}(ht:P.underlying t=some (.array n e))(he:P.underlying e=some (.int k))(hc:P.cellsOf e=1)(hct:P.cellsOf t=n)
  (h:DataW.trod enc P w base spare held fuel t cs=some (.agg (zs.map λx:Nat=>.lit (.int k (x:Int))),ps)) (hz:zs.length=n):cs=zs.flatMap λx:Nat=>[Value.int k (x:Int)]:=by
 obtain⟨xs,m,_,ex,hl,hxl,hel⟩:=DataW.trod_array ht h;have e3:(xs.map (·.1))=zs.map λx:Nat=>.lit (.int k x):=(DataW.agg.inj (Prod.mk.inj ex).1).symm;refine BH 1 _ (λ_=>rfl) zs cs (by omega) (λi z hi=> ?_)
 have hin:i<zs.length:=(List.getElem?_eq_some_iff.1 hi).1;have hE:=hel i (by omega);rw[hc,List.getElem?_eq_getElem (by omega)] at hE;obtain⟨y,e1,e2,_⟩:=DataW.trod_int he hE;have e4:(xs.map (·.1))[i]? =(zs.map λx:Nat=>(DataW.lit (.int k x):DataW H))[i]? :=by rw[e3]
 rw[List.getElem?_map,List.getElem?_map,List.getElem?_eq_getElem (by omega:i<xs.length),hi,e2] at e4;simp only[Option.map_some,Option.some.injEq,DataW.lit.injEq,Lit.int.injEq,true_and] at e4;rw[e1,e4]
end
theorem jJ {P:Program}{W:World}{laid:List (String×DataW Unit)}(hL:laidMetH P laid W){n:String}{d:DataW Unit}(hm:(n,d)∈laid)(hn:d.handleName?.isNone=true){g:Nat}{t:TypeId}(hg:P.globalNamed n=some g)(ht:(P.globals[g]?).map (·.type)=some t):
  ∃cs e fz fuel p,W.heap[g]? =some (.cells cs e fz)/\DataW.trod (λ_=>()) P W 0 (λ_=>true) false fuel t cs.toList=some (d,p):=by
 have h1:=(laidMetH_iff.1 hL).1;obtain⟨ps,h,_⟩:=h1;have key:∀(l:List (String×DataW Unit)) (ps:List MemPlace),DataW.LaidVars P W l ps->(n,d)∈l->∃cs e fz fuel p,W.heap[g]? =some (.cells cs e fz)/\DataW.trod (λ_=>()) P W 0 (λ_=>true) false fuel t cs.toList=some (d,p):=by
  intro l;induction l with
  |nil=>intro ps _ hm;cases hm
  |cons a r ih=>
   obtain⟨m,b⟩:=a;rintro ps ⟨g',t',cs,fuel,p,q,e1,e2,e3,e4,e5,_⟩ hm;rcases List.mem_cons.1 hm with hm|hm
   ·cases hm;obtain rfl:=Option.some.inj (hg.symm.trans e1);obtain rfl:=Option.some.inj (ht.symm.trans e2);obtain⟨e,fz,hh⟩:=qm hg e3;exact⟨cs,e,fz,fuel,p,hh,e4⟩
   ·exact ih q e5 hm
 exact key _ ps h (List.mem_filter.2 ⟨hm,hn⟩)
theorem G0 {W:World}(h:W.ShapedOpen prog):∃m,W.cell? ⟨1,0,none⟩=some (.int .i64 m):=
 cell_of_shapedOpen_int (t:=3) (zero:=#[.int .i64 0]) h (of_decide_eq_true (by kernel_rfl)) (by kernel_rfl) rfl (by kernel_rfl) (by kernel_rfl) underlying3
theorem A3 {W:World}{k:Nat}(hk:1<k){m:Int}(h:W.cell? ⟨1,0,none⟩=some (.int .i64 m)):di (aL W k) 1 0 [.int .i64 m]:=by
 unfold World.cell? at h;split at h
 ·rename_i C e fz hW;refine e7 hk hW ?_;have h:C[0]? =some (.int .i64 m):=h;have h0:=(Array.getElem?_eq_some_iff.1 h);obtain⟨hlt,h1⟩:=h0;have e1:C.toList.take 1=[.int .i64 m]:=by
   have hl:0<C.toList.length:=by simpa using hlt
   have:=List.take_succ_eq_append_getElem (l:=C.toList) (i:=0) hl;simp at this;rw[show(1:Nat)=0+1 from rfl,List.take_succ_eq_append_getElem hl];simp[h1]
  show bA _ _ (C.toList.take 1);rw[e1];exact⟨_,_,rfl,rfl,rfl⟩
 ·cases h
def wd (A B:Glo):Glo:=⟨λR=>A.p R/\B.p R,λR R' h k=>⟨A.mono R R' h k.1,B.mono R R' h k.2⟩⟩
theorem nv {A B:Glo}{L:List (Nat×List AVal)}(h:ab A L):ab (wd A B) L:=λg cs hg R hR=>h g cs hg R hR.1
def Hv:Glo:=⟨λR=>∃e fz,R 10=some (.cells (Lib.pow10Tab.map λz=>Value.int .u64 z).toArray e fz),λ_ _ hle ⟨e,fz,h⟩=>⟨e,fz,hle _ _ h⟩⟩
theorem GC {W:World}{k:Nat}(hk:10<k){laid:List (String×DataW Unit)}(hL:laidMetH prog laid W)(hm:("internal/strconv.uint64pow10",Rows.laid_internal_strconv_uint64pow10)∈laid):Hv.p (aL W k):=by
 obtain⟨C,e,fz,fuel,p,hW,hd⟩:=jJ hL hm (by kernel_rfl) (g:=10) (t:=340) (by kernel_rfl) (by kernel_rfl)
 have hc:=nY (n:=20) (zs:=(List.range 20).map (10^ ·)) underlying340 underlying207 (by kernel_rfl) (by kernel_rfl) hd (by simp)
 have e1:C=(Lib.pow10Tab.map fun z=>Value.int .u64 z).toArray:=by
  apply Array.ext'
  rw[hc]
  unfold Lib.pow10Tab
  simp
  rfl
 refine⟨e,fz,?_⟩
 unfold aL
 rw[if_pos hk,hW,e1]
theorem kZ {W:World}{g:Nat}{o:Obj}(h:W.heap[g]? =some o):g<W.heap.size:=(Array.getElem?_eq_some_iff.1 h).1
theorem pY {W:World}{laid:List (String×DataW Unit)}(hL:laidMetH prog laid W){n:String}{d:DataW Unit}(hm:(n,d)∈laid)(hn:d.handleName?.isNone=true){g:Nat}{t:TypeId}(hg:prog.globalNamed n=some g)(ht:(prog.globals[g]?).map (·.type)=some t):g<W.heap.size:=by
 obtain⟨_,_,_,_,_,hW,_⟩:=jJ hL hm hn hg ht;exact kZ hW
end
section
section
variable {P:Program} {H:Type} {enc:TypeId×Value->H} {w:World} {base:Nat} {spare:Nat->Bool} {held:Bool}
theorem Af {t e n fuel u:Nat}{k:IntKind}{f0 f1:Field}{cs:List Value}{ps:List MemPlace}{zs:List (Nat×Nat)}(ht:P.underlying t=some (.array n e))(he:P.underlying e=some (.struct #[f0,f1]))(hc:P.cellsOf e=2)(hct:P.cellsOf t=n*2)
  (hf0:f0.type=u) (hf1:f1.type=u) (ho0:f0.offset=0) (ho1:f1.offset=1) (hu:P.underlying u=some (.int k)) (hcu:P.cellsOf u=1)
  (h:DataW.trod enc P w base spare held fuel t cs=some (.agg (zs.map λx:Nat×Nat=>.agg [.lit (.int k (x.1:Int)),.lit (.int k (x.2:Int))]),ps)) (hz:zs.length=n):cs=zs.flatMap λx:Nat×Nat=>[Value.int k (x.1:Int),Value.int k (x.2:Int)]:=by
 obtain⟨xs,m,_,ex,hl,hxl,hel⟩:=DataW.trod_array ht h;have e3:(xs.map (·.1))=zs.map λx:Nat×Nat=>.agg [.lit (.int k x.1),.lit (.int k x.2)]:=(DataW.agg.inj (Prod.mk.inj ex).1).symm;refine BH 2 _ (λ_=>rfl) zs cs (by omega) (λi z hi=> ?_);have hin:i<zs.length:=(List.getElem?_eq_some_iff.1 hi).1;have hE:=hel i (by omega);rw[hc,List.getElem?_eq_getElem (by omega)] at hE;generalize hcc:(cs.drop (i*2)).take 2=c at hE;obtain⟨y0,y1,m',e2,hl2,h0,h1⟩:=Go.ChangeShapes.trod_struct2 he hE;rw[hf0,ho0,hcu] at h0;rw[hf1,ho1,hcu] at h1;obtain⟨a0,c0,d0,_⟩:=DataW.trod_int hu h0;obtain⟨a1,c1,d1,_⟩:=DataW.trod_int hu h1;have e4:(xs.map (·.1))[i]? =(zs.map λx:Nat×Nat=>(DataW.agg [.lit (.int k x.1),.lit (.int k x.2)]:DataW H))[i]? :=by rw[e3]
 rw[List.getElem?_map,List.getElem?_map,List.getElem?_eq_getElem (by omega:i<xs.length),hi,e2,d0,d1] at e4;simp only[Option.map_some,Option.some.injEq,DataW.agg.injEq,List.cons.injEq,DataW.lit.injEq,Lit.int.injEq,true_and,and_true] at e4;rw[hc] at hl2
 match c,hl2 with
 |[x0,x1],_=>
  simp only[List.drop_zero,List.take_succ_cons,List.take_zero,List.cons.injEq,and_true,List.drop_succ_cons] at c0 c1;rw[c0,c1,e4.1,e4.2]
end
theorem Br {W:World}{k:Nat}(hk:6<k){laid:List (String×DataW Unit)}(hL:laidMetH prog laid W)(hm:("unicode/utf8.first",Rows.laid_unicode_utf8_first)∈laid):di (aL W k) 6 0 firstTab:=by
 obtain⟨C,e,fz,fuel,p,hW,hd⟩:=jJ hL hm (by kernel_rfl) (g:=6) (t:=164) (by kernel_rfl) (by kernel_rfl)
 refine e7 hk hW ?_
 have hc:=nY (n:=256) (zs:=Go.Pinned.utf8FirstZ) underlying164 underlying5 (by kernel_rfl) (by kernel_rfl) hd (by kernel_rfl)
 have e1:firstTab=(Go.Pinned.utf8FirstZ.map fun x:Nat=>(IntKind.u8,(x:Int))).map fun x=>.int x.1 x.2:=by simp[firstTab]
 have e2:C.toList.take firstTab.length=(Go.Pinned.utf8FirstZ.map fun x:Nat=>(IntKind.u8,(x:Int))).map fun x=>.int x.1 x.2:=by
  have:C.toList=Go.Pinned.utf8FirstZ.map fun x:Nat=>Value.int .u8 (x:Int):=by
   rw[hc];generalize Go.Pinned.utf8FirstZ=l;induction l<;>simp_all
  rw[this,List.take_of_length_le (by simp[firstTab])]
  simp
 rw[e2,e1]
 exact ox _
def Ds:List (Nat×Nat):=[(128,191),(160,191),(128,159),(144,191),(128,143),(0,0),(0,0),(0,0),(0,0),(0,0),(0,0),(0,0),(0,0),(0,0),(0,0),(0,0)]
theorem zS {W:World}{k:Nat}(hk:7<k){laid:List (String×DataW Unit)}(hL:laidMetH prog laid W)(hm:("unicode/utf8.acceptRanges",Rows.laid_unicode_utf8_acceptRanges)∈laid):di (aL W k) 7 0 acceptTab:=by
 obtain⟨C,e,fz,fuel,p,hW,hd⟩:=jJ hL hm (by kernel_rfl) (g:=7) (t:=305) (by kernel_rfl) (by kernel_rfl)
 refine e7 hk hW ?_
 rw[Af (n:=16) (zs:=Ds) underlying305 underlying304 (by kernel_rfl) (by kernel_rfl) rfl rfl rfl rfl underlying5 (by kernel_rfl) hd (by kernel_rfl)]
 exact ox ((Ds.flatMap fun x:Nat×Nat=>[x.1,x.2]).map fun x:Nat=>(IntKind.u8,(x:Int)))
end
section
attribute [local irreducible] bI ap az aW ab ad
attribute [local irreducible] gZ Lv fC To
abbrev N0 (br vc:Nat):HEnt:=HEnt.row (.slice (some ⟨br,0,none⟩) 8 vc) none 1 8 [.str [92],.str [92,92],.str [44],.str [92,44],.str [59],.str [92,59],.str [10],.str [92,110]]
abbrev OF (br bl vc:Nat)(cs:List AVal)(va:Option Addr)(vk vt bz b1 c1 b2 c2 b3 c3 b4 c4:Nat):Heap:=[N0 br vc,.cells bl (some 253) cs,.row (.slice va vk vt) (some 9) 1 4 [.str [10],.str [59],.str [44],.str [92]],.cells bz (some 333) (lN (.own 4 (.slice (some ⟨b1,0,none⟩) 2 c1)) (.own 5 (.slice (some ⟨b2,0,none⟩) 2 c2)) (.own 6 (.slice (some ⟨b3,0,none⟩) 2 c3)) (.own 7 (.slice (some ⟨b4,0,none⟩) 2 c4)) (.own 2 (.slice va vk vt))),.buf b1 [92,110] c1,.buf b2 [92,59] c2,.buf b3 [92,44] c3,.buf b4 [92,92] c4]
theorem E8 {G:Glo}(br bl vc:Nat):ad prog G 241 [.raw (pv bl 0)] [N0 br vc,.cells bl (some 253) ((gr (.slice (some ⟨br,0,none⟩) 8 vc)).set 1 (.int .i32 1))]
  (λr H=>∃va vk vt bz b1 c1 b2 c2 b3 c3 b4 c4,mR 4 va vk/\r= .ret (.iface 334 (.own 3 (pv bz 0)))/\H=OF br bl vc ((gr (.slice (some ⟨br,0,none⟩) 8 vc)).set 1 (.int .i32 1)) va vk vt bz b1 c1 b2 c2 b3 c3 b4 c4):=by
 have hGL:ab G []:=aD;unfold gr;refine nz 1 func241 call241 rfl rfl rfl rfl hGL rfl ?_;intro C hC;refine aT ?_;intros;have d0:([.str [92],.str [92,92],.str [44],.str [92,44],.str [59],.str [92,59],.str [10],.str [92,110]]:List AVal)[0]? =some (.str [92]):=rfl;have r0:dL (.slice (some ⟨br,0,none⟩) 8 vc) br 8/\0<8*1:=⟨⟨_,rfl⟩,by decide⟩;have d1:([.str [92],.str [92,92],.str [44],.str [92,44],.str [59],.str [92,59],.str [10],.str [92,110]]:List AVal)[1]? =some (.str [92,92]):=rfl;have r1:dL (.slice (some ⟨br,0,none⟩) 8 vc) br 8/\1<8*1:=⟨⟨_,rfl⟩,by decide⟩;have d2:([.str [92],.str [92,92],.str [44],.str [92,44],.str [59],.str [92,59],.str [10],.str [92,110]]:List AVal)[2]? =some (.str [44]):=rfl;have r2:dL (.slice (some ⟨br,0,none⟩) 8 vc) br 8/\2<8*1:=⟨⟨_,rfl⟩,by decide⟩;have d3:([.str [92],.str [92,92],.str [44],.str [92,44],.str [59],.str [92,59],.str [10],.str [92,110]]:List AVal)[3]? =some (.str [92,44]):=rfl;have r3:dL (.slice (some ⟨br,0,none⟩) 8 vc) br 8/\3<8*1:=⟨⟨_,rfl⟩,by decide⟩;have d4:([.str [92],.str [92,92],.str [44],.str [92,44],.str [59],.str [92,59],.str [10],.str [92,110]]:List AVal)[4]? =some (.str [59]):=rfl;have r4:dL (.slice (some ⟨br,0,none⟩) 8 vc) br 8/\4<8*1:=⟨⟨_,rfl⟩,by decide⟩;have d5:([.str [92],.str [92,92],.str [44],.str [92,44],.str [59],.str [92,59],.str [10],.str [92,110]]:List AVal)[5]? =some (.str [92,59]):=rfl;have r5:dL (.slice (some ⟨br,0,none⟩) 8 vc) br 8/\5<8*1:=⟨⟨_,rfl⟩,by decide⟩;have d6:([.str [92],.str [92,92],.str [44],.str [92,44],.str [59],.str [92,59],.str [10],.str [92,110]]:List AVal)[6]? =some (.str [10]):=rfl;have r6:dL (.slice (some ⟨br,0,none⟩) 8 vc) br 8/\6<8*1:=⟨⟨_,rfl⟩,by decide⟩;have d7:([.str [92],.str [92,92],.str [44],.str [92,44],.str [59],.str [92,59],.str [10],.str [92,110]]:List AVal)[7]? =some (.str [92,110]):=rfl
 have r7:dL (.slice (some ⟨br,0,none⟩) 8 vc) br 8/\7<8*1:=⟨⟨_,rfl⟩,by decide⟩
 refine ja hC hGL 5 ?_
 refine aT ?_
 intros
 refine tO (m:=4) hC hGL rfl rfl (by omega) rfl rfl rfl rfl rfl rfl rfl (λbt=> ?_)
 refine aT ?_
 intros
 refine ja hC hGL 5 ?_
 refine aT ?_
 intros
 refine aO hC hGL (cb [10] rfl (by intro v hv;simp only[List.mem_cons,List.not_mem_nil,or_false] at hv;omega) rfl rfl rfl rfl rfl rfl) rfl rfl ?_
 refine aT ?_
 intros
 refine aO hC hGL (cb [59] rfl (by intro v hv;simp only[List.mem_cons,List.not_mem_nil,or_false] at hv;omega) rfl rfl rfl rfl rfl rfl) rfl rfl ?_
 refine aT ?_
 intros
 refine aO hC hGL (cb [44] rfl (by intro v hv;simp only[List.mem_cons,List.not_mem_nil,or_false] at hv;omega) rfl rfl rfl rfl rfl rfl) rfl rfl ?_
 refine aT ?_
 intros
 refine aO hC hGL (cb [92] rfl (by intro v hv;simp only[List.mem_cons,List.not_mem_nil,or_false] at hv;omega) rfl rfl rfl rfl rfl rfl) rfl rfl ?_
 refine aT ?_
 intros
 exact⟨_,List.Sublist.refl _,_,_,_,_,_,_,_,_,_,_,_,_,by assumption,rfl,rfl⟩
end
section
abbrev NZ:List AVal:=[.str [92],.str [92,92],.str [44],.str [92,44],.str [59],.str [92,59],.str [10],.str [92,110]]
set_option maxRecDepth 20000 in
theorem I5 (a0 a1 a2 a3 t x:AVal):(lN a0 a1 a2 a3 t).set 10 x=lN x a1 a2 a3 t:=rfl
set_option maxRecDepth 20000 in
theorem I3 (a0 a1 a2 a3 t x:AVal):(lN a0 a1 a2 a3 t).set 59 x=lN a0 x a2 a3 t:=rfl
set_option maxRecDepth 20000 in
theorem I4 (a0 a1 a2 a3 t x:AVal):(lN a0 a1 a2 a3 t).set 44 x=lN a0 a1 x a3 t:=rfl
set_option maxRecDepth 20000 in
theorem I2 (a0 a1 a2 a3 t x:AVal):(lN a0 a1 a2 a3 t).set 92 x=lN a0 a1 a2 x t:=rfl
set_option maxRecDepth 20000 in
theorem FW (a0 a1 a2 a3 t x:AVal):(lN a0 a1 a2 a3 t).set 256 x=lN a0 a1 a2 a3 x:=rfl
abbrev ME (i:Nat):AVal:=.str [([10,59,44,92]:List UInt8).getD i 0]
theorem J2:KG escF [10,59,44,92] (lN (.list 1 2 (gi [92,110])) (.list 1 2 (gi [92,59])) (.list 1 2 (gi [92,44])) (.list 1 2 (gi [92,92])) (.list 1 4 ME)):=by
 refine⟨λc hc=> ?_,λc hc=> ?_,xr ..,by decide⟩
 ·rw[iR c.toNat_lt];simp only[List.mem_cons,List.not_mem_nil,or_false] at hc;rcases hc with rfl|rfl|rfl|rfl
  all_goals exact⟨rfl,rfl⟩
 ·rw[iR c.toNat_lt];simp only[List.mem_cons,List.not_mem_nil,or_false,not_or] at hc;have h:∀k:UInt8,c≠k->c.toNat≠k.toNat:=λk hk e=>hk (UInt8.toNat_inj.1 e);have h0:c.toNat≠10:=h 10 hc.1;have h1:c.toNat≠59:=h 59 hc.2.1;have h2:c.toNat≠44:=h 44 hc.2.2.1;have h3:c.toNat≠92:=h 92 hc.2.2.2;exact⟨by rw[if_neg h3,if_neg h2,if_neg h1,if_neg h0],zk h3 h2 h1 h0⟩
theorem HG (s:List UInt8):escS s=s.flatMap escF:=rfl
attribute [local irreducible] bI ap aa az aW ab ad
attribute [local irreducible] lN escF escS
theorem BR {G:Glo}:zW G 8 NZ escF [10,59,44,92]:=λbr bl vc=>by
 refine ze (E8 (G:=G) br bl vc) ?_
 rintro r H ⟨va,vk,vt,bz,b1,c1,b2,c2,b3,c3,b4,c4,hva,rfl,rfl⟩;intro C R w e hm he;obtain⟨r2,H2,R2,⟨e1,e2⟩,h2,h3⟩:=qq (a':=.rop (lN (.list 1 2 (gi [92,110])) (.list 1 2 (gi [92,59])) (.list 1 2 (gi [92,44])) (.list 1 2 (gi [92,92])) (.list 1 4 ME)) 0) (H':=[Im br 8 vc NZ,.cells bl (some 253) (Np br 8 vc)])
  (λC=>aX (gB (i:=7) (k:=3) (p:=92) rfl rfl λR hr=>fj (I2 ..) (iR (by decide)) λ_=>dx hr)
   (aX (gB (i:=6) (k:=3) (p:=44) rfl rfl λR hr=>fj (I4 ..) (iR (by decide)) λ_=>dx hr)
   (aX (gB (i:=5) (k:=3) (p:=59) rfl rfl λR hr=>fj (I3 ..) (iR (by decide)) λ_=>dx hr)
   (aX (gB (i:=4) (k:=3) (p:=10) rfl rfl λR hr=>fj (I5 ..) (iR (by decide)) λ_=>dx hr)
   (aX (pS (i:=2) (k:=2) (p:=256) ME rfl rfl (λj hj=>by rcases(show j=0\/j=1\/j=2\/j=3 by omega) with rfl|rfl|rfl|rfl<;>exact⟨rfl,rfl⟩) λR hr=>fj (FW ..) (xr ..) λ_=>dx hr)
   (aX (bZ (i:=2) (k:=0) rfl rfl) (cL ai aH))))))) C R w e hm he
 exact⟨r2,H2,R2,⟨_,J2,e1,e2⟩,h2,h3⟩
theorem oV {G:Glo}(s:List UInt8)(hl:s.length<=2000000)(hct:∀c,an prog G 172 [.str s,.str [c]] (.int .i64 (s.countP (· ==c):Nat))):an prog G 148 [.str s] (.str (escS s)):=by
 refine aw func148 call148 λC hC hGL=> ?_;refine aT ?_;intros;refine⟨_,j4 8 _ (by decide) (by decide) ?_,?_,?_⟩
 ·unfold az;exact iU rfl
 ·rintro v H' ⟨bl,va,vk,vc,hva,e,rfl⟩;cases e;obtain⟨br,rfl,rfl⟩:=hva (by omega);have e2:=oY (BR (G:=G)) (by decide) br bl vc s hl hct;rw[<-HG] at e2;refine aT ?_;intros;refine H5 e2 ?_;exact ez
 ·rintro v H' ⟨bl,va,vk,vc,hva,e,rfl⟩;cases e
end
end Go.Proofs.YtmdhmodenkjmdaaGreatDoor
