/- Parts of the proof of streamCards_card. -/
import Derived.Deep.Strs
import Derived.Shelf.Vars
import Derived.SizedLaws
import Derived.Lib.IndexBytes
import Derived.Test.YtgpjhbhdbjdlgaaGreatDoorBao
set_option linter.unusedVariables false
set_option linter.unusedSimpArgs false
set_option linter.unusedSectionVars false
namespace Go.Proofs.YtgpjhbhdbjdlgaaGreatDoor
open Go Go.RowKit
open Go.Proofs.Tryz Go.Proofs.YtgpjhbhdbjdlgaaGreatDoor.Tryz
set_option maxRecDepth 20000
set_option maxHeartbeats 4000000
section
theorem sA {α:Type}{l:List α}{n:Nat}{d:α}(h:n<l.length):l.getD n d∈l:=by
 rw[f_,y_ h];exact K_ h
def T4 (g:List LineS):AVal:=.list 3 g.length (a6 g)
def jc (G:List (List LineS)):List AVal:=G.map T4
def z6 (G:List (List LineS))(i:Nat):AVal:=T4 (G.getD i [])
theorem T3 (G:List (List LineS)):∀i,i<G.length->(z6 G i).cells=((jc G).drop (i*1)).take 1/\(z6 G i).plain=true:=by
 intro i hi;refine⟨?_,rfl⟩
 rw[Nat.mul_one,A_ (by simpa[jc] using hi)]
 simp[z6,jc,AVal.cells,List.getD,y_ hi,T4]
theorem Bk (G:List (List LineS))(g:List LineS):jc G++[T4 g]=jc (G++[g]):=by simp[jc]
def qu (l:List Crd):List AVal:=l.flatMap λc=>[.int .i64 c.v,.list 15 c.l.length (dK c.l)]
theorem Bz (l:List Crd)(c:Crd):qu l++[.int .i64 c.v,.list 15 c.l.length (dK c.l)]=qu (l++[c]):=by
 unfold qu;rw[List.flatMap_append,List.flatMap_singleton]
theorem Lx:∀(l:List Crd) (i:Nat),i<l.length->[AVal.int .i64 (l.getD i Crd.z).v,.list 15 (l.getD i Crd.z).l.length (dK (l.getD i Crd.z).l)]=((qu l).drop (i*2)).take 2
 |[],i,h=>absurd h (Uf _)
 |x::l,0,_=>rfl
 |x::l,i+1,h=>by
  have ih:=Lx l i (by simpa using h);have e:qu (x::l)=[.int .i64 x.v,.list 15 x.l.length (dK x.l)]++qu l:=rfl;rw[e,show(i+1)*2=2+i*2 by omega,<-Q_,List.getD_cons_succ];exact ih
theorem Uv (l:List Crd):∀i,i<l.length->(vC l i).cells=((qu l).drop (i*2)).take 2/\(vC l i).plain=true:=λi hi=>⟨Lx l i hi,rfl⟩
abbrev Wg (v:Value)(l:List Crd):HEnt:=.row v none 2 l.length (qu l)
def Xz (l:List Crd)(x:AVal)(r:co)(H:Heap):Prop:=(r= .ret (.tuple [i7,x])/\l=[]/\H=[])\/∃i v,r= .ret (.tuple [.own i v,x])/\H=[Wg v l]
theorem GD {l:List Crd}{x:AVal}{r:co}{H:Heap}(h:Xz l x r H):BO r H (.tuple [.list 2 l.length (vC l),x]):=by
 rcases h with⟨rfl,rfl,rfl⟩|⟨i,v,rfl,rfl⟩
 ·rintro C R w e hm ⟨y,rfl,hx⟩
  exact⟨R,hm,y,rfl,ly (Seal.le_refl R) hx λu hu=>CO hu⟩
 ·rintro C R w e hm ⟨y,rfl,hx⟩;obtain⟨R',hle,m2,hr⟩:=MS.seal_row (f:=vC l) hm (Uv _);exact⟨R',m2,y,rfl,ly hle hx λv2 h=>by rw[(aE.1 h).1];exact hr⟩
theorem wO {C:Ctx}{n:Nat}{e:Env}{h:Heap}{i k j sz m:Nat}{v:Value}{eT:Option TypeId}{cs:List AVal}(f:Nat->AVal)(hi:h[i]? =some (.row v eT sz m cs))(hf:∀j,j<m->(f j).cells=(cs.drop (j*sz)).take sz/\(f j).plain=true)(hk:Env.get e k=some (.own j v)):
  To C n e h ((k,.list sz m f)::e) (h.eraseIdx i):=λR a w hm hfs=>by
 obtain⟨R',hle,hm',hr⟩:=MS.seal_row (hm.perm (fd hi)) hf;refine⟨R',hle,hm',?_⟩;have hf':=hfs.mono hle;refine⟨λt x ht=> ?_,hf'.size,hf'.defers⟩;simp only[Env.get] at ht;split at ht
 ·rename_i hb;have:=m_ hb;subst this;simp only[g_] at ht;subst ht;obtain⟨y,hy,hr'⟩:=hf'.fr k _ hk;refine⟨y,hy,?_⟩;rw[(aE.1 hr').1];exact hr
 ·exact hf'.fr t x ht
theorem V2 {C:Ctx}{n:Nat}{e:Env}{I:List (List LineS)}{l:List LineS}{u:Value}{b cap m:Nat}(hm:m=(I++[l]).length+1):To C n e [.row u none 3 l.length (aN l),.row (.slice (some ⟨b,0,none⟩) m cap) none 1 m (jc I++[.own 0 u]++[.raw (.slice none 0 0)])] e
  [.row gz none 3 0 (aN []),.row (.slice (some ⟨b,0,none⟩) ((I++[l]).length+1) cap) none 1 ((I++[l]).length+1) (jc (I++[l])++[.own 0 gz])]:=by
 subst hm;have hI:(jc I).length=I.length:=by simp[jc]
 have hI2:(jc (I++[l])).length=(I++[l]).length:=by simp[jc]
 refine ak (ji (i:=0) (k:=0) (p:=I.length) (a6 l) rfl rfl (qa _) (λR hr=>.row (a:=.own 0 u) ?_ λ_=>ck hr)) ?_
 ·rw[An,G_ a_,hI,Nat.sub_self];rfl
 have e1:(jc I++[AVal.own 0 u]++[AVal.raw (.slice none 0 0)]).set I.length (.list 3 l.length (a6 l))=jc (I++[l])++[.raw (.slice none 0 0)]:=by
  rw[An,List.set_append_right _ _ a_,hI,Nat.sub_self,<-Bk,An];rfl
 rw[e1];refine ak (ep 3) (ak (BX (List.Perm.swap _ _ _)) ?_);have e2:(jc (I++[l])++[AVal.raw (.slice none 0 0)]).set (I++[l]).length (.own 0 (.slice none 0 0))=jc (I++[l])++[.own 0 gz]:=by
  rw[List.set_append_right _ _ a_,hI2,Nat.sub_self];rfl
 rw[<-e2];refine iq (i:=1) (p:=(I++[l]).length) (x:=.row (.slice (some ⟨b,0,none⟩) ((I++[l]).length+1) cap) none 1 ((I++[l]).length+1) (jc (I++[l])++[.raw (.slice none 0 0)])) (a':=.own 0 (.slice none 0 0)) rfl (λR=>.row (a:=.raw (.slice none 0 0)) ?_ λ_=>iy);rw[G_ a_,hI2,Nat.sub_self];rfl
theorem SH {C:Ctx}{n:Nat}{e:Env}{b cap:Nat}:To C n e [.row (.slice (some ⟨b,0,none⟩) 1 cap) none 1 1 [.raw (.slice none 0 0)]] e
  [.row gz none 3 0 (aN []),.row (.slice (some ⟨b,0,none⟩) 1 cap) none 1 1 (jc []++[.own 0 gz])]:=
 ak (ep 3) (ak (BX (List.Perm.swap _ _ _)) (iq (i:=1) (p:=0) (x:=.row (.slice (some ⟨b,0,none⟩) 1 cap) none 1 1 [.raw (.slice none 0 0)]) (a':=.own 0 (.slice none 0 0)) rfl (λR=>.row (a:=.raw (.slice none 0 0)) rfl λ_=>iy)))
theorem SG {C:Ctx}{n k m:Nat}{e:Env}{I:List (List LineS)}{l:List LineS}{u v:Value}{j:Nat}(hm:m=(I++[l]).length)(hk:Env.get e k=some (.own j v)):To C n e [.row u none 3 l.length (aN l),.row v none 1 m (jc I++[.own 0 u])] ((k,.list 1 (I++[l]).length (z6 (I++[l])))::e) []:=by
 subst hm;have hI:(jc I).length=I.length:=by simp[jc]
 refine ak (ji (i:=0) (k:=0) (p:=I.length) (a6 l) rfl rfl (qa _) (λR hr=>.row (a:=.own 0 u) ?_ λ_=>ck hr)) ?_
 ·rw[G_ a_,hI,Nat.sub_self];rfl
 have e1:(jc I++[AVal.own 0 u]).set I.length (.list 3 l.length (a6 l))=jc (I++[l]):=by
  rw[List.set_append_right _ _ a_,hI,Nat.sub_self,<-Bk];rfl
 rw[e1];exact wO (i:=0) (z6 (I++[l])) rfl (T3 _) hk
theorem Ll:∀(r:List LineS) (o:Nat),r.length≠0->(mD o r).length≠0/\(mD o r).getD ((mD o r).length-1) 0=o+r.length
 |[],_,h=>absurd rfl h
 |l::r,o,_=>by
  by_cases h2:r.length=0
  ·obtain rfl:=s_ h2;have eE:mD o [l]=[o+1]:=by rw[mD,if_pos (.inr rfl)];rfl
   rw[eE];exact⟨Nat.succ_ne_zero _,rfl⟩
  ·obtain⟨h3,h4⟩:=Ll r (o+1) h2;by_cases h1:Hg l=true
   ·have eE:mD o (l::r)=(o+1)::mD (o+1) r:=by rw[mD,if_pos (.inl h1)]
    rw[eE];refine⟨by simp,?_⟩;rw[j_,show(mD (o+1) r).length+1-1=((mD (o+1) r).length-1)+1 by omega,List.getD_cons_succ,h4,j_];omega
   ·have eE:mD o (l::r)=mD (o+1) r:=by rw[mD,if_neg (λh=>h.elim h1 h2)]
    rw[eE,h4,j_];exact⟨h3,a_⟩
def tf (t:ω):List Nat:=mD 0 (bD t)
def sE (t:ω)(k:Nat):Nat:=if k=0 then 0 else(tf t).getD (k-1) 0
theorem sP (t:ω):(tf t).length=(bH t).length:=Jj (bD t) [] 0 λ_=>rfl
theorem Lm {t:ω}{k:Nat}(hk:k<(tf t).length):((bD t).take ((tf t).getD k 0)).drop (sE t k)=(bH t).getD k []/\(tf t).getD k 0<=(bD t).length/\sE t k<(tf t).getD k 0:=by
 obtain⟨h1,h2,_⟩:=Jk (bD t) [] [] 0 rfl (λ_=>rfl) k hk
 have h3:((bD t).take ((tf t).getD k 0)).drop (sE t k)=(bH t).getD k []:=h1;refine⟨h3,h2,?_⟩;have h4:=((pN t).2 ((bH t).getD k []) (sA (by rw[<-sP];exact hk))).2.1;rw[<-h3,k_,i_] at h4;omega
theorem yK (t:ω)(k:Nat):sE t (k+1)=(tf t).getD k 0:=rfl
theorem Uo {t:ω}{k:Nat}(hk:k<(tf t).length):kS t (bH t) k=if(tf t).getD k 0<(bD t).length then(bS (bD t) ((tf t).getD k 0)).a else t.length:=by
 unfold kS
 by_cases h:k+1<(bH t).length
 ·have h1:=Lm (t:=t) (k:=k+1) (by rw[sP];exact h);rw[yK] at h1;rw[if_pos h,if_pos a_,<-h1.1];congr 1
  show List.getD _ 0 _=List.getD _ _ _;rw[f_ (l:=List.drop _ _),List.getElem?_drop,List.getElem?_take_of_lt a_,Nat.add_zero,<-f_]
 ·rw[if_neg h];have hL:(bD t).length≠0:=λh0=>by
   have:=(pN t).1;rw[sP] at hk;omega
  have h1:=(Ll (bD t) 0 hL).2;have h2:=sP t;change (tf t).getD ((tf t).length-1) 0=0+(bD t).length at h1;rw[show(tf t).length-1=k by omega] at h1
  rw[if_neg a_]
end
section
attribute [local irreducible] bJ au aa ax aR ab ad
theorem uX {G:Glo}(v:Int):ai prog G 49 [.int .i64 v] (.bool (bV v 4)):=by
 refine aw func49 call49 λC hC hGL=> ?_;exact bq
end
section
theorem Jt {α β:Type}(k:Nat)(E:α->List β)(hE:∀z,(E z).length=k):∀(zs:List α) (cs:List β),cs.length=zs.length*k->
  (∀i z,zs[i]? =some z->(cs.drop (i*k)).take k=E z)->cs=zs.flatMap E
 |[],cs,hl,_=>by
  simp only[E_,Nat.zero_mul] at hl;simp[s_ hl]
 |z::zs,cs,hl,h=>by
  have h0:=h 0 z rfl;simp only[Nat.zero_mul,aa_] at h0;have hr:=Jt k E hE zs (cs.drop k) (by rw[k_,hl,j_,U_];omega) (λi y hy=>by
   have:=h (i+1) y hy;rw[Q_];rw[U_,Nat.add_comm] at this;exact this)
  rw[O_,<-h0,<-hr,List.take_append_drop]
theorem tI {R:Seal}:∀(l:List (IntKind×Int)),cb R (l.map λx=>.int x.1 x.2) (l.map λx=>.int x.1 x.2)
 |[]=>rfl
 |_::l=>⟨_,_,rfl,rfl,tI l⟩
section
variable {P:Program} {H:Type} {enc:TypeId×Value->H} {w:World} {base:Nat} {spare:Nat->Bool} {held:Bool}
theorem tl {t e n fuel:Nat}{k:IntKind}{cs:List Value}{ps:List MemPlace}{zs:List Nat}(ht:P.underlying t=some (.array n e))(he:P.underlying e=some (.int k))(hc:P.cellsOf e=1)(hct:P.cellsOf t=n)
  (h:DataW.trod enc P w base spare held fuel t cs=some (.agg (zs.map λx:Nat=>.lit (.int k (x:Int))),ps)) (hz:zs.length=n):cs=zs.flatMap λx:Nat=>[Value.int k (x:Int)]:=by
 obtain⟨xs,m,_,ex,hl,hxl,hel⟩:=DataW.trod_array ht h;have e3:(xs.map (·.1))=zs.map λx:Nat=>.lit (.int k x):=(DataW.agg.inj (Prod.mk.inj ex).1).symm;refine Jt 1 _ (λ_=>rfl) zs cs a_ (λi z hi=> ?_)
 have hin:i<zs.length:=(List.getElem?_eq_some_iff.1 hi).1;have hE:=hel i a_;rw[hc,y_ a_] at hE;obtain⟨y,e1,e2,_⟩:=DataW.trod_int he hE;have e4:(xs.map (·.1))[i]? =(zs.map λx:Nat=>(DataW.lit (.int k x):DataW H))[i]? :=by rw[e3]
 rw[List.getElem?_map,List.getElem?_map,y_ (by omega:i<xs.length),hi,e2] at e4;simp only[aal,g_,DataW.lit.injEq,Lit.int.injEq,true_and] at e4;rw[e1,e4]
end
theorem n5 {P:Program}{W:World}{laid:List (String×DataW Unit)}(hL:laidMetH P laid W){n:String}{d:DataW Unit}(hm:(n,d)∈laid)(hn:d.handleName?.isNone=true){g:Nat}{t:TypeId}(hg:P.globalNamed n=some g)(ht:(P.globals[g]?).map (·.type)=some t):
  ∃cs e fz fuel p,W.heap[g]? =some (.cells cs e fz)/\DataW.trod (λ_=>()) P W 0 (λ_=>true) false fuel t cs.toList=some (d,p):=by
 have h1:=(laidMetH_iff.1 hL).1;obtain⟨ps,h,_⟩:=h1;have key:∀(l:List (String×DataW Unit)) (ps:List MemPlace),DataW.LaidVars P W l ps->(n,d)∈l->∃cs e fz fuel p,W.heap[g]? =some (.cells cs e fz)/\DataW.trod (λ_=>()) P W 0 (λ_=>true) false fuel t cs.toList=some (d,p):=by
  intro l;induction l with
  |nil=>intro ps _ hm;cases hm
  |cons a r ih=>
   obtain⟨m,b⟩:=a;rintro ps ⟨g',t',cs,fuel,p,q,e1,e2,e3,e4,e5,_⟩ hm;rcases List.mem_cons.1 hm with hm|hm
   ·cases hm;obtain rfl:=Option.some.inj (hg.symm.trans e1);obtain rfl:=Option.some.inj (ht.symm.trans e2);obtain⟨e,fz,hh⟩:=wH hg e3;exact⟨cs,e,fz,fuel,p,hh,e4⟩
   ·exact ih q e5 hm
 exact key _ ps h (List.mem_filter.2 ⟨hm,hn⟩)
theorem nN {H:Type}{enc:TypeId×Value->H}{a:Assume}{C:Checked}{os:Os}{f:FuncId}{fn:Func}{s:ChangeSpec}{conds:List PathCond}{apart fresh handsOn again:Bool}{X:World->Array Value->Prop}
  (hX:∀(w w':World) (args:Array Value),w.heap=w'.heap->X w args->X w' args)
  (own:ownKnob C.prog.godebug=none) (started:os.Started) (noInit:C.prog.inits.idxOf? f=none) (hfn:C.prog.funcs[f]? =some fn)
  (witness:∃(w:World) (tape:Tape) (i:Input),w.os=os/\(w.forCall tape i).Shaped C.prog/\i.vars=[]/\Input.okWide C.prog (w.forCall tape i) .any w.heap.size f i/\
   ((s.pre enc C.prog fn conds apart (w.forCall tape i).memory i.args/\X (w.forCall tape i).memory i.args)/\sizedMet enc C.prog fn (OpenSpec.ofChange s) apart (w.forCall tape i).memory i.args)/\a.holds C.prog (lone (Frame.enter C.prog f i.args .normal) [] (w.forCall tape i)))
  (contract:∀(W:World) (base:Nat) (args:Array Value) (ds gs:List (DataW H)) (before:List MemPlace),
   (∀(j:Nat) t v,fn.params[j]? =some t->args[j]? =some v->Value.okWide C.prog W .any base t v)->
   DataW.Whole enc C.prog fn.params.toList s.vars apart W args.toList ds gs before->
   conds.all (PathCond.test C.prog ⟨fn.params.toList,ds,s.plain.varTypes C.prog,gs⟩)=true->
   X W args->W.ShapedOpen C.prog->
   Calls C.prog f args W λe W'=>∃v,e= .returned v/\s.post enc C.prog fn apart fresh handsOn again W args v W'):
  ReturnsInHanded a C os f .any (λw args=>(s.pre enc C.prog fn conds apart w args/\X w args)/\sizedMet enc C.prog fn (OpenSpec.ofChange s) apart w args) (s.post enc C.prog fn apart fresh handsOn again):=by
 refine returnsInHanded_of_calls own started noInit witness ?_;intro w tape i _ hsh _ hok hpre _;obtain⟨_,_,_,fn',hfn',_,_,_,_,hval⟩:=hok;have e:fn'=fn:=Option.some.inj (hfn'.symm.trans hfn);subst e;obtain⟨⟨⟨ds,gs,before,hw,hc⟩,hx⟩,_⟩:=hpre;have hw':=DataW.Whole.of_heap (w':=w.forCall tape i) (by rfl) hw;refine(contract (w.forCall tape i) w.heap.size i.args ds gs before hval hw' hc (hX _ _ _ (by rfl) hx) hsh).mono λe W' ⟨v,he,hp⟩=> ?_;subst he;exact ChangeSpec.post_blind hp
theorem PZ {W:World}(h:W.ShapedOpen prog):∃m,W.cell? ⟨2,0,none⟩=some (.int .i64 m):=
 cell_of_shapedOpen_int (t:=3) (zero:=#[.int .i64 0]) h (of_decide_eq_true be) be rfl be be underlying3
theorem Is {W:World}{k:Nat}(hk:2<k){m:Int}(h:W.cell? ⟨2,0,none⟩=some (.int .i64 m)):dR (cj W k) 2 0 [.int .i64 m]:=by
 unfold World.cell? at h
 split at h
 ·rename_i C e fz hW
  refine jo hk hW ?_
  have h:C[0]? =some (.int .i64 m):=h
  have h0:=(Array.getElem?_eq_some_iff.1 h)
  obtain⟨hlt,h1⟩:=h0
  have e1:C.toList.take 1=[.int .i64 m]:=by
   have hl:0<C.toList.length:=by simpa using hlt
   have:=x_ (l:=C.toList) (i:=0) hl
   simp at this;rw[show(1:Nat)=0+1 from rfl,x_ hl];simp[h1]
  show cb _ _ (C.toList.take 1);rw[e1];exact⟨_,_,rfl,rfl,rfl⟩
 ·cases h
def C8 (A B:Glo):Glo:=⟨λR=>A.p R/\B.p R,λR R' h k=>⟨A.mono R R' h k.1,B.mono R R' h k.2⟩⟩
theorem sy {A B:Glo}{L:List (Nat×List AVal)}(h:ab A L):ab (C8 A B) L:=λg cs hg R hR=>h g cs hg R hR.1
def QG:Glo:=⟨λR=>∃e fz,R 10=some (.cells (Lib.pow10Tab.map λz=>Value.int .u64 z).toArray e fz),λ_ _ hle ⟨e,fz,h⟩=>⟨e,fz,hle _ _ h⟩⟩
theorem Ps {W:World}{k:Nat}(hk:10<k){laid:List (String×DataW Unit)}(hL:laidMetH prog laid W)(hm:("internal/strconv.uint64pow10",Rows.laid_internal_strconv_uint64pow10)∈laid):QG.p (cj W k):=by
 obtain⟨C,e,fz,fuel,p,hW,hd⟩:=n5 hL hm be (g:=10) (t:=377) be be
 have hc:=tl (n:=20) (zs:=(List.range 20).map (10^ ·)) underlying377 underlying337 be be hd (by simp)
 have e1:C=(Lib.pow10Tab.map fun z=>Value.int .u64 z).toArray:=by
  apply Array.ext'
  rw[hc]
  unfold Lib.pow10Tab
  simp
  rfl
 refine⟨e,fz,?_⟩
 unfold cj
 rw[if_pos hk,hW,e1]
theorem pA {W:World}{g:Nat}{o:Obj}(h:W.heap[g]? =some o):g<W.heap.size:=(Array.getElem?_eq_some_iff.1 h).1
theorem vS {W:World}{laid:List (String×DataW Unit)}(hL:laidMetH prog laid W){n:String}{d:DataW Unit}(hm:(n,d)∈laid)(hn:d.handleName?.isNone=true){g:Nat}{t:TypeId}(hg:prog.globalNamed n=some g)(ht:(prog.globals[g]?).map (·.type)=some t):g<W.heap.size:=by
 obtain⟨_,_,_,_,_,hW,_⟩:=n5 hL hm hn hg ht;exact pA hW
end
section
section
variable {P:Program} {H:Type} {enc:TypeId×Value->H} {w:World} {base:Nat} {spare:Nat->Bool} {held:Bool}
theorem Hw {t e n fuel u:Nat}{k:IntKind}{f0 f1:Field}{cs:List Value}{ps:List MemPlace}{zs:List (Nat×Nat)}(ht:P.underlying t=some (.array n e))(he:P.underlying e=some (.struct #[f0,f1]))(hc:P.cellsOf e=2)(hct:P.cellsOf t=n*2)
  (hf0:f0.type=u) (hf1:f1.type=u) (ho0:f0.offset=0) (ho1:f1.offset=1) (hu:P.underlying u=some (.int k)) (hcu:P.cellsOf u=1)
  (h:DataW.trod enc P w base spare held fuel t cs=some (.agg (zs.map λx:Nat×Nat=>.agg [.lit (.int k (x.1:Int)),.lit (.int k (x.2:Int))]),ps)) (hz:zs.length=n):cs=zs.flatMap λx:Nat×Nat=>[Value.int k (x.1:Int),Value.int k (x.2:Int)]:=by
 obtain⟨xs,m,_,ex,hl,hxl,hel⟩:=DataW.trod_array ht h;have e3:(xs.map (·.1))=zs.map λx:Nat×Nat=>.agg [.lit (.int k x.1),.lit (.int k x.2)]:=(DataW.agg.inj (Prod.mk.inj ex).1).symm;refine Jt 2 _ (λ_=>rfl) zs cs a_ (λi z hi=> ?_);have hin:i<zs.length:=(List.getElem?_eq_some_iff.1 hi).1;have hE:=hel i a_;rw[hc,y_ a_] at hE;generalize hcc:(cs.drop (i*2)).take 2=c at hE;obtain⟨y0,y1,m',e2,hl2,h0,h1⟩:=Go.ChangeShapes.trod_struct2 he hE;rw[hf0,ho0,hcu] at h0;rw[hf1,ho1,hcu] at h1;obtain⟨a0,c0,d0,_⟩:=DataW.trod_int hu h0;obtain⟨a1,c1,d1,_⟩:=DataW.trod_int hu h1;have e4:(xs.map (·.1))[i]? =(zs.map λx:Nat×Nat=>(DataW.agg [.lit (.int k x.1),.lit (.int k x.2)]:DataW H))[i]? :=by rw[e3]
 rw[List.getElem?_map,List.getElem?_map,y_ (by omega:i<xs.length),hi,e2,d0,d1] at e4;simp only[aal,g_,DataW.agg.injEq,o_,DataW.lit.injEq,Lit.int.injEq,true_and,and_true] at e4;rw[hc] at hl2
 match c,hl2 with
 |[x0,x1],_=>
  simp only[aa_,aac,aaa,o_,and_true,aab] at c0 c1;rw[c0,c1,e4.1,e4.2]
end
theorem I7 {W:World}{k:Nat}(hk:6<k){laid:List (String×DataW Unit)}(hL:laidMetH prog laid W)(hm:("unicode/utf8.first",Rows.laid_unicode_utf8_first)∈laid):dR (cj W k) 6 0 firstTab:=by
 obtain⟨C,e,fz,fuel,p,hW,hd⟩:=n5 hL hm be (g:=6) (t:=241) be be
 refine jo hk hW ?_
 have hc:=tl (n:=256) (zs:=Go.Pinned.utf8FirstZ) underlying241 underlying5 be be hd be
 have e1:firstTab=(Go.Pinned.utf8FirstZ.map fun x:Nat=>(IntKind.u8,(x:Int))).map fun x=>.int x.1 x.2:=by simp[firstTab]
 have e2:C.toList.take firstTab.length=(Go.Pinned.utf8FirstZ.map fun x:Nat=>(IntKind.u8,(x:Int))).map fun x=>.int x.1 x.2:=by
  have:C.toList=Go.Pinned.utf8FirstZ.map fun x:Nat=>Value.int .u8 (x:Int):=by
   rw[hc];generalize Go.Pinned.utf8FirstZ=l;induction l<;>simp_all
  rw[this,u_ (by simp[firstTab])]
  simp
 rw[e2,e1]
 exact tI _
def LL:List (Nat×Nat):=[(128,191),(160,191),(128,159),(144,191),(128,143),(0,0),(0,0),(0,0),(0,0),(0,0),(0,0),(0,0),(0,0),(0,0),(0,0),(0,0)]
theorem G3 {W:World}{k:Nat}(hk:7<k){laid:List (String×DataW Unit)}(hL:laidMetH prog laid W)(hm:("unicode/utf8.acceptRanges",Rows.laid_unicode_utf8_acceptRanges)∈laid):dR (cj W k) 7 0 acceptTab:=by
 obtain⟨C,e,fz,fuel,p,hW,hd⟩:=n5 hL hm be (g:=7) (t:=300) be be
 refine jo hk hW ?_
 rw[Hw (n:=16) (zs:=LL) underlying300 underlying299 be be rfl rfl rfl rfl underlying5 be hd be]
 exact tI ((LL.flatMap fun x:Nat×Nat=>[x.1,x.2]).map fun x:Nat=>(IntKind.u8,(x:Int)))
end
section
attribute [local irreducible] bJ au ax aR ab ad dS Lv gj To
abbrev Y7 (br vc:Nat):HEnt:=HEnt.row (.slice (some ⟨br,0,none⟩) 8 vc) none 1 8 [.str [92],.str [92,92],.str [44],.str [92,44],.str [59],.str [92,59],.str [10],.str [92,110]]
abbrev ZU (br bl vc:Nat)(cs:List AVal)(va:Option Addr)(vk vt bz b1 c1 b2 c2 b3 c3 b4 c4:Nat):Heap:=[Y7 br vc,.cells bl (some 324) cs,.row (.slice va vk vt) (some 9) 1 4 [.str [10],.str [59],.str [44],.str [92]],.cells bz (some 374) (qr (.own 4 (.slice (some ⟨b1,0,none⟩) 2 c1)) (.own 5 (.slice (some ⟨b2,0,none⟩) 2 c2)) (.own 6 (.slice (some ⟨b3,0,none⟩) 2 c3)) (.own 7 (.slice (some ⟨b4,0,none⟩) 2 c4)) (.own 2 (.slice va vk vt))),.buf b1 [92,110] c1,.buf b2 [92,59] c2,.buf b3 [92,44] c3,.buf b4 [92,92] c4]
theorem Ny {G:Glo}(br bl vc:Nat):ad prog G 248 [.raw (pv bl 0)] [Y7 br vc,.cells bl (some 324) ((fO (.slice (some ⟨br,0,none⟩) 8 vc)).set 1 (.int .i32 1))]
  (λr H=>∃va vk vt bz b1 c1 b2 c2 b3 c3 b4 c4,G6 4 va vk/\r= .ret (.iface 375 (.own 3 (pv bz 0)))/\H=ZU br bl vc ((fO (.slice (some ⟨br,0,none⟩) 8 vc)).set 1 (.int .i32 1)) va vk vt bz b1 c1 b2 c2 b3 c3 b4 c4):=by
 have hGL:ab G []:=al;unfold fO;refine jx 1 func248 call248 rfl rfl rfl rfl hGL rfl ?_;intro C hC;refine an ?_;intros;have d0:([.str [92],.str [92,92],.str [44],.str [92,44],.str [59],.str [92,59],.str [10],.str [92,110]]:List AVal)[0]? =some (.str [92]):=rfl;have r0:bZ (.slice (some ⟨br,0,none⟩) 8 vc) br 8/\0<8*1:=⟨⟨_,rfl⟩,b_⟩;have d1:([.str [92],.str [92,92],.str [44],.str [92,44],.str [59],.str [92,59],.str [10],.str [92,110]]:List AVal)[1]? =some (.str [92,92]):=rfl;have r1:bZ (.slice (some ⟨br,0,none⟩) 8 vc) br 8/\1<8*1:=⟨⟨_,rfl⟩,b_⟩;have d2:([.str [92],.str [92,92],.str [44],.str [92,44],.str [59],.str [92,59],.str [10],.str [92,110]]:List AVal)[2]? =some (.str [44]):=rfl;have r2:bZ (.slice (some ⟨br,0,none⟩) 8 vc) br 8/\2<8*1:=⟨⟨_,rfl⟩,b_⟩;have d3:([.str [92],.str [92,92],.str [44],.str [92,44],.str [59],.str [92,59],.str [10],.str [92,110]]:List AVal)[3]? =some (.str [92,44]):=rfl;have r3:bZ (.slice (some ⟨br,0,none⟩) 8 vc) br 8/\3<8*1:=⟨⟨_,rfl⟩,b_⟩;have d4:([.str [92],.str [92,92],.str [44],.str [92,44],.str [59],.str [92,59],.str [10],.str [92,110]]:List AVal)[4]? =some (.str [59]):=rfl;have r4:bZ (.slice (some ⟨br,0,none⟩) 8 vc) br 8/\4<8*1:=⟨⟨_,rfl⟩,b_⟩;have d5:([.str [92],.str [92,92],.str [44],.str [92,44],.str [59],.str [92,59],.str [10],.str [92,110]]:List AVal)[5]? =some (.str [92,59]):=rfl;have r5:bZ (.slice (some ⟨br,0,none⟩) 8 vc) br 8/\5<8*1:=⟨⟨_,rfl⟩,b_⟩;have d6:([.str [92],.str [92,92],.str [44],.str [92,44],.str [59],.str [92,59],.str [10],.str [92,110]]:List AVal)[6]? =some (.str [10]):=rfl;have r6:bZ (.slice (some ⟨br,0,none⟩) 8 vc) br 8/\6<8*1:=⟨⟨_,rfl⟩,b_⟩;have d7:([.str [92],.str [92,92],.str [44],.str [92,44],.str [59],.str [92,59],.str [10],.str [92,110]]:List AVal)[7]? =some (.str [92,110]):=rfl
 have r7:bZ (.slice (some ⟨br,0,none⟩) 8 vc) br 8/\7<8*1:=⟨⟨_,rfl⟩,b_⟩
 refine rds hC hGL 5 ?_
 refine an ?_
 intros
 refine tQ (m:=4) hC hGL rfl rfl a_ rfl rfl rfl rfl rfl rfl rfl (λbt=> ?_)
 refine an ?_
 intros
 refine rds hC hGL 5 ?_
 refine an ?_
 intros
 refine aY hC hGL (gv [10] rfl (by intro v hv;simp only[p_,t_,or_false] at hv;omega) rfl rfl rfl rfl rfl rfl) rfl rfl ?_
 refine an ?_
 intros
 refine aY hC hGL (gv [59] rfl (by intro v hv;simp only[p_,t_,or_false] at hv;omega) rfl rfl rfl rfl rfl rfl) rfl rfl ?_
 refine an ?_
 intros
 refine aY hC hGL (gv [44] rfl (by intro v hv;simp only[p_,t_,or_false] at hv;omega) rfl rfl rfl rfl rfl rfl) rfl rfl ?_
 refine an ?_
 intros
 refine aY hC hGL (gv [92] rfl (by intro v hv;simp only[p_,t_,or_false] at hv;omega) rfl rfl rfl rfl rfl rfl) rfl rfl ?_
 refine an ?_
 intros
 exact⟨_,At _,_,_,_,_,_,_,_,_,_,_,_,_,by assumption,rfl,rfl⟩
end
section
abbrev Y6:List AVal:=[.str [92],.str [92,92],.str [44],.str [92,44],.str [59],.str [92,59],.str [10],.str [92,110]]
set_option maxRecDepth 20000 in
theorem SQ (a0 a1 a2 a3 t x:AVal):(qr a0 a1 a2 a3 t).set 10 x=qr x a1 a2 a3 t:=rfl
set_option maxRecDepth 20000 in
theorem SO (a0 a1 a2 a3 t x:AVal):(qr a0 a1 a2 a3 t).set 59 x=qr a0 x a2 a3 t:=rfl
set_option maxRecDepth 20000 in
theorem SP (a0 a1 a2 a3 t x:AVal):(qr a0 a1 a2 a3 t).set 44 x=qr a0 a1 x a3 t:=rfl
set_option maxRecDepth 20000 in
theorem SN (a0 a1 a2 a3 t x:AVal):(qr a0 a1 a2 a3 t).set 92 x=qr a0 a1 a2 x t:=rfl
set_option maxRecDepth 20000 in
theorem ON (a0 a1 a2 a3 t x:AVal):(qr a0 a1 a2 a3 t).set 256 x=qr a0 a1 a2 a3 x:=rfl
abbrev Xj (i:Nat):AVal:=.str [([10,59,44,92]:ω).getD i 0]
theorem Ue:U1 escF [10,59,44,92] (qr (.list 1 2 (kX [92,110])) (.list 1 2 (kX [92,59])) (.list 1 2 (kX [92,44])) (.list 1 2 (kX [92,92])) (.list 1 4 Xj)):=by
 refine⟨λc hc=> ?_,λc hc=> ?_,Eg ..,b_⟩
 ·rw[m6 c.toNat_lt];simp only[p_,t_,or_false] at hc;rcases hc with rfl|rfl|rfl|rfl
  all_goals exact⟨rfl,rfl⟩
 ·rw[m6 c.toNat_lt];simp only[p_,t_,or_false,not_or] at hc;have h:∀k:UInt8,c≠k->c.toNat≠k.toNat:=λk hk e=>hk (UInt8.toNat_inj.1 e);have h0:c.toNat≠10:=h 10 hc.1;have h1:c.toNat≠59:=h 59 hc.2.1;have h2:c.toNat≠44:=h 44 hc.2.2.1;have h3:c.toNat≠92:=h 92 hc.2.2.2;exact⟨by rw[if_neg h3,if_neg h2,if_neg h1,if_neg h0],Gm h3 h2 h1 h0⟩
theorem QV (s:ω):escS s=s.flatMap escF:=rfl
attribute [local irreducible] bJ au aa ax aR ab ad qr escF escS
theorem JD {G:Glo}:G9 G 8 Y6 escF [10,59,44,92]:=λbr bl vc=>by
 refine Gf (Ny (G:=G) br bl vc) ?_
 rintro r H ⟨va,vk,vt,bz,b1,c1,b2,c2,b3,c3,b4,c4,hva,rfl,rfl⟩;intro C R w e hm he;obtain⟨r2,H2,R2,⟨e1,e2⟩,h2,h3⟩:=wM (a':=.rop (qr (.list 1 2 (kX [92,110])) (.list 1 2 (kX [92,59])) (.list 1 2 (kX [92,44])) (.list 1 2 (kX [92,92])) (.list 1 4 Xj)) 0) (H':=[RN br 8 vc Y6,.cells bl (some 324) (Yh br 8 vc)])
  (λC=>ak (lH (i:=7) (k:=3) (p:=92) rfl rfl λR hr=>jA (SN ..) (m6 b_) λ_=>ck hr)
   (ak (lH (i:=6) (k:=3) (p:=44) rfl rfl λR hr=>jA (SP ..) (m6 b_) λ_=>ck hr)
   (ak (lH (i:=5) (k:=3) (p:=59) rfl rfl λR hr=>jA (SO ..) (m6 b_) λ_=>ck hr)
   (ak (lH (i:=4) (k:=3) (p:=10) rfl rfl λR hr=>jA (SQ ..) (m6 b_) λ_=>ck hr)
   (ak (ji (i:=2) (k:=2) (p:=256) Xj rfl rfl (λj hj=>by rcases(show j=0\/j=1\/j=2\/j=3 by omega) with rfl|rfl|rfl|rfl<;>exact⟨rfl,rfl⟩) λR hr=>jA (ON ..) (Eg ..) λ_=>ck hr)
   (ak (az (i:=2) (k:=0) rfl rfl) (bi ae aA))))))) C R w e hm he
 exact⟨r2,H2,R2,⟨_,Ue,e1,e2⟩,h2,h3⟩
theorem uG {G:Glo}(s:ω)(hl:s.length<=2000000)(hct:∀c,ai prog G 224 [.str s,.str [c]] (.int .i64 (s.countP (· ==c):Nat))):ai prog G 208 [.str s] (.str (escS s)):=by
 refine aw func208 call208 λC hC hGL=> ?_;refine an ?_;intros;refine⟨_,kW 8 _ b_ b_ ?_,?_,?_⟩
 ·unfold ax;exact lz rfl
 ·rintro v H' ⟨bl,va,vk,vc,hva,e,rfl⟩;cases e;obtain⟨br,rfl,rfl⟩:=hva a_;have e2:=uK (JD (G:=G)) b_ br bl vc s hl hct;rw[<-QV] at e2;refine an ?_;intros;refine Do e2 ?_;exact eK
 ·rintro v H' ⟨bl,va,vk,vc,hva,e,rfl⟩;cases e
end
section
attribute [local irreducible] bJ au aa ax aR ab ad escF escS
theorem L2 {G:Glo}(l:List ω)(hn:l.length<=2000000)(hl:Lib.lens l<=2000000):ai prog G 231 [.list 1 l.length (aB l)] (.tuple [.str (joinT l),(ss l).A]):=by
 have hE:=λk=>uG (G:=G) (l.getD k []) (by have:=iA (l:=l) (k:=k);omega) (qo _);have hj:=qb l;refine aw func231 call231 λC hC hGL=> ?_;cases l with
 |nil=>
  exact bq
 |cons x r=>
  refine aH ?_;intros;refine jX 4 1 rfl ?_;refine lp hC hGL (λ(y:List ω×Value)=>[(4,.own 0 y.2),(11,.list 1 (x::r).length (aB (x::r))),(12,.int .i64 ((x::r).length:Nat)),(13,.int .i64 (y.1.length:Nat))]) (λy=>[.row y.2 none 1 y.1.length (bu y.1)]) (λy=>y.1.length<=(x::r).length/\y.1=((x::r).map escS).take y.1.length) (λy=>(x::r).length-y.1.length) ([],.slice none 0 0) ?_ ae rfl ?_
  ·exact⟨Nat.zero_le _,rfl⟩
  ·rintro⟨ps,v⟩ ⟨h1,h2⟩;have h1:ps.length<=(x::r).length:=h1;have h2:ps=((x::r).map escS).take ps.length:=h2;repeat' (first|(conv=>whnf);first|refine .w ?_|refine .v ?_|refine ez ?_ ?_<;>(intro hb;try exact dd hb)|apply aT|apply bP|(apply cR<;>intro hb)|(apply cX;intro hbd)|(apply bG;exact hE _)|(apply aV (i:=0) rfl;exact hE _)|(apply cY;intro bl)|(apply dv;intro va vk vc hva)|(apply du;intro v)|(apply dw;intro bl cap hcap)|apply dP|(apply dq<;>intro hnx)|apply ef mixed hC hGL be|(apply cq;assumption;exact hE _;exact rfl)|(show Rt _ _ _;exact cP)|fail)
   all_goals try conv=>whnf
   ·have hb:((ps.length:Nat):Int)<(((x::r).length:Nat):Int):=hb;have hlt:ps.length<(x::r).length:=by omega
    refine cQ (ps++[escS ((x::r).getD ps.length [])],.slice va vk vc) ?_ ?_ ⟨rfl,rfl,rfl,?_,trivial⟩ ?_
    ·refine⟨?_,?_⟩
     ·show(ps++[escS ((x::r).getD ps.length [])]).length<=(x::r).length;rw[d_,Rf];omega
     ·show ps++[escS ((x::r).getD ps.length [])]=((x::r).map escS).take (ps++[escS ((x::r).getD ps.length [])]).length;rw[d_,Rf,zt hlt,<-h2]
    ·show(x::r).length-(ps++[escS ((x::r).getD ps.length [])]).length<(x::r).length-ps.length;rw[d_,Rf];omega
    ·show some (AVal.int .i64 (((ps.length:Nat):Int)+1))=some (AVal.int .i64 ((ps++[escS ((x::r).getD ps.length [])]).length:Nat));rw[d_];rfl
    ·dsimp only
     rw[<-cg,d_];rfl
   ·have hb:(((x::r).length:Nat):Int)<=((ps.length:Nat):Int):=hb;have h3:ps=(x::r).map escS:=by rw[h2,u_ (by rw[C_];omega)]
    subst h3;refine aV (i:=0) rfl (ft ((x::r).map escS) [44] v a_ (by have:(Lib.join ((x::r).map escS) [44]).length<=_:=hj;omega)) ?_;exact bq
theorem Ph {G:Glo}(l:List ω)(hn:l.length<=2000000)(hl:Lib.lens l<=2000000):ai prog G 227 [.list 1 l.length (aB l)] (.tuple [.str (joinT l),.int .i64 (ss l).e]):=by
 have hE:=λk=>xE (G:=G) (l.getD k []) (by have:=iA (l:=l) (k:=k);omega);have hj:=qb l;refine aw func227 call227 λC hC hGL=> ?_;cases l with
 |nil=>
  exact bq
 |cons x r=>
  have hq:∀k,(escS x++Lib.joinTail [44] ((r.map escS).take k)).length<=(joinT (x::r)).length:=λk=>by
   unfold joinT;rw[S_,Lib.join_cons,d_,d_];have:=Lib.joinTail_take_le [44] (r.map escS) k;omega
  have hx:∀k,(escS ((x::r).getD k [])).length<=4000000:=λk=>by
   have h1:=(sK ((x::r).getD k [])).2;have h2:=iA (l:=x::r) (k:=k);omega
  have k1:=@hE;refine aH ?_;intros;refine lp hC hGL (λk:Nat=>[(4,.str (escS x++Lib.joinTail [44] ((r.map escS).take k))),(15,.list 1 ((x::r).length-1) (λk=>aB (x::r) (1+k))),(16,.int .i64 (((x::r).length-1:Nat):Int)),(17,.int .i64 (k:Nat))]) (λ_=>[]) (λk=>k<=r.length) (λk=>r.length-k) 0 (Nat.zero_le _) ⟨?_,rfl,rfl,rfl,trivial⟩ rfl ?_
  ·show some (AVal.str (escS x))=some (AVal.str (escS x++Lib.joinTail [44] []));simp[Lib.joinTail]
  ·intro k hk;have hq1:=hq k;have hx1:=hx (1+k);have hgl:(x::r).getD (1+k) []=r.getD k []:=by rw[Nat.add_comm];rfl
   repeat' (first|(conv=>whnf);first|refine .w ?_|refine .v ?_|refine ez ?_ ?_<;>(intro hb;try exact dd hb)|apply aT|apply bP|(apply cR<;>intro hb)|(apply cX;intro hbd)|(apply bG;exact hE _)|(apply aV (i:=0) rfl;exact hE _)|(apply cY;intro bl)|(apply dv;intro va vk vc hva)|(apply du;intro v)|(apply dw;intro bl cap hcap)|apply dP|(apply dq<;>intro hnx)|apply ef mixed hC hGL be|(apply cq;assumption;exact hE _;exact rfl)|(show Rt _ _ _;exact cP)|fail)
   all_goals try conv=>whnf
   ·have hb2:((k:Nat):Int)<((r.length:Nat):Int):=hb;have hlt:k<r.length:=by omega
    refine cQ (k+1) ?_ ?_ ⟨?_,rfl,rfl,rfl,trivial⟩ rfl
    ·exact hlt
    ·show r.length-(k+1)<r.length-k;omega
    ·show some (AVal.str (escS x++Lib.joinTail [44] ((r.map escS).take k)++([44]++escS ((x::r).getD (1+k) []))))=some (AVal.str (escS x++Lib.joinTail [44] ((r.map escS).take (k+1))));rw[Lib.joinTail_take_succ [44] (r.map escS) k (escS (r.getD k [])) (by rw[List.getElem?_map,f_,y_ hlt];rfl),hgl];simp only[An]
   ·have hb2:((r.length:Nat):Int)<=((k:Nat):Int):=hb;apply aj;unfold joinT;rw[u_ (by rw[C_];omega),S_,Lib.join_cons];rfl
end
section
attribute [local irreducible] bJ au aa ax aR ab ad escF escS joinT ss
theorem Bd:ss []= .errno 8:=by unfold ss;rw[if_pos rfl]
theorem yq {l:List ω}(h:l≠[]):ss l= .none:=by unfold ss;rw[if_neg h]
theorem wR {G:Glo}(L:List (List ω))(hs:Small L):ai prog G 209 [.list 1 L.length (gX L)] (.tuple [.str (iH L),(ju L).A]):=by
 have hJ:=λk=>L2 (G:=G) (L.getD k []) (hs.k k).1 (hs.k k).2;have hn:=hs.n;by_cases h0:L=[]
 ·subst h0;refine aw func209 call209 λC hC hGL=> ?_;exact bq
 ·have h00:L.length≠0:=λh=>h0 (s_ h);refine aw func209 call209 λC hC hGL=> ?_;refine aH ?_;intros;refine jX 4 1 rfl ?_;refine lp hC hGL (λ(y:List ω×Value)=>[(4,.own 0 y.2),(13,.list 1 L.length (gX L)),(14,.int .i64 (L.length:Nat)),(15,.int .i64 (y.1.length:Nat))]) (λy=>[.row y.2 none 1 y.1.length (bu y.1)]) (λy=>y.1.length<=eM L/\y.1=(L.map joinT).take y.1.length) (λy=>L.length-y.1.length) ([],.slice none 0 0) ?_ ae rfl ?_
  ·exact⟨Nat.zero_le _,rfl⟩
  ·rintro⟨ps,v⟩ ⟨h1,h2⟩;have h1:ps.length<=eM L:=h1;have h2:ps=(L.map joinT).take ps.length:=h2;have h3:=sl L;by_cases hlt:ps.length<L.length
   ·have hJ1:=hJ ps.length;by_cases hnil:L.getD ps.length []=[]
    ·have hk:=tS hlt h1 hnil;rw[show ss (L.getD ps.length [])= .errno 8 by rw[hnil];exact Bd] at hJ1;refine aH ?_;intros;apply aj;unfold iH ju;rw[if_pos a_,if_neg h0,if_pos a_,hk];rfl
    ·rw[yq hnil] at hJ1;repeat' (first|(conv=>whnf);first|refine .w ?_|refine .v ?_|refine ez ?_ ?_<;>(intro hb;try exact dd hb)|apply aT|apply bP|(apply cR<;>intro hb)|(apply cX;intro hbd)|(apply bG;exact hJ1)|(apply aV (i:=0) rfl;exact hJ1)|(apply cY;intro bl)|(apply dv;intro va vk vc hva)|(apply du;intro v)|(apply dw;intro bl cap hcap)|apply dP|(apply dq<;>intro hnx)|apply ef mixed hC hGL be|(apply cq;assumption;exact hJ1;exact rfl)|(show Rt _ _ _;exact cP)|fail)
     all_goals try conv=>whnf
     have hm:=rh hlt h1 hnil;refine cQ (ps++[joinT (L.getD ps.length [])],.slice va vk vc) ?_ ?_ ⟨rfl,rfl,rfl,?_,trivial⟩ ?_
     ·refine⟨?_,?_⟩
      ·show(ps++[joinT (L.getD ps.length [])]).length<=eM L;rw[d_,Rf];exact hm
      ·show ps++[joinT (L.getD ps.length [])]=(L.map joinT).take (ps++[joinT (L.getD ps.length [])]).length;rw[d_,Rf,oI hlt,<-h2]
     ·show L.length-(ps++[joinT (L.getD ps.length [])]).length<L.length-ps.length;rw[d_,Rf];omega
     ·show some (AVal.int .i64 (((ps.length:Nat):Int)+1))=some (AVal.int .i64 ((ps++[joinT (L.getD ps.length [])]).length:Nat));rw[d_];rfl
     ·dsimp only
      rw[<-cg,d_];rfl
   ·refine aH ?_;intros;have h5:eM L=L.length:=by omega
    have h4:ps=L.map joinT:=by rw[h2,u_ (by rw[C_];omega)]
    subst h4;refine aV (i:=0) rfl (ft (L.map joinT) [59] v a_ (wZ hs)) ?_;refine aH ?_;intros;apply aj;unfold iH ju;rw[if_neg a_,if_neg h0,if_neg a_];rfl
theorem zM {G:Glo}(L:List (List ω))(hs:Small L):ai prog G 192 [.list 1 L.length (gX L)] (.tuple [.str (iH L),.agg [.int .i64 (ju L).e,.int .i64 (ju L).p]]):=by
 have hJ:=λk=>Ph (G:=G) (L.getD k []) (hs.k k).1 (hs.k k).2;have hn:=hs.n;have hb8:=il (G:=G) 8;have hg:=fb (G:=G);by_cases h0:L=[]
 ·subst h0;refine aw func192 call192 λC hC hGL=> ?_;exact bq
 ·have h00:L.length≠0:=λh=>h0 (s_ h);refine aw func192 call192 λC hC hGL=> ?_;refine aH ?_;intro bl;intros;refine jX 4 1 rfl ?_;refine lp hC hGL (λ(y:List ω×Value)=>[(0,.list 1 L.length (gX L)),(3,.own 0 (pv bl 0)),(4,.own 1 y.2),(13,.int .i64 (L.length:Nat)),(14,.int .i64 (y.1.length:Nat))]) (λy=>[.cells bl (some 25) [.int .i64 0,.int .i64 0],.row y.2 none 1 y.1.length (bu y.1)]) (λy=>y.1.length<=eM L/\y.1=(L.map joinT).take y.1.length) (λy=>L.length-y.1.length) ([],.slice none 0 0) ?_ ae rfl ?_
  ·exact⟨Nat.zero_le _,rfl⟩
  ·rintro⟨ps,v⟩ ⟨h1,h2⟩;have h1:ps.length<=eM L:=h1;have h2:ps=(L.map joinT).take ps.length:=h2;have h3:=sl L;by_cases hlt:ps.length<L.length
   ·have hJ1:=hJ ps.length;by_cases hnil:L.getD ps.length []=[]
    ·have hk:=tS hlt h1 hnil;rw[show ss (L.getD ps.length [])= .errno 8 by rw[hnil];exact Bd] at hJ1;have hJ1:ai prog G 227 [.list 1 (L.getD ps.length []).length (aB (L.getD ps.length []))] (.tuple [.str (joinT (L.getD ps.length [])),.int .i64 8]):=hJ1;refine aH ?_;intros;apply aj;unfold iH ju;rw[if_pos a_,if_neg h0,if_pos a_,hk];rfl
    ·rw[yq hnil] at hJ1;have hJ1:ai prog G 227 [.list 1 (L.getD ps.length []).length (aB (L.getD ps.length []))] (.tuple [.str (joinT (L.getD ps.length [])),.int .i64 0]):=hJ1;repeat' (first|(conv=>whnf);first|refine .w ?_|refine .v ?_|refine ez ?_ ?_<;>(intro hb;try exact dd hb)|apply aT|apply bP|(apply cR<;>intro hb)|(apply cX;intro hbd)|(apply bG;exact hJ1)|(apply aV (i:=0) rfl;exact hJ1)|(apply cY;intro bl)|(apply dv;intro va vk vc hva)|(apply du;intro v)|(apply dw;intro bl cap hcap)|apply dP|(apply dq<;>intro hnx)|apply ef mixed hC hGL be|(apply cq;assumption;exact hJ1;exact rfl)|(show Rt _ _ _;exact cP)|fail)
     all_goals try conv=>whnf
     have hm:=rh hlt h1 hnil;refine cQ (ps++[joinT (L.getD ps.length [])],.slice va vk vc) ?_ ?_ ⟨rfl,rfl,rfl,rfl,?_,trivial⟩ ?_
     ·refine⟨?_,?_⟩
      ·show(ps++[joinT (L.getD ps.length [])]).length<=eM L;rw[d_,Rf];exact hm
      ·show ps++[joinT (L.getD ps.length [])]=(L.map joinT).take (ps++[joinT (L.getD ps.length [])]).length;rw[d_,Rf,oI hlt,<-h2]
     ·show L.length-(ps++[joinT (L.getD ps.length [])]).length<L.length-ps.length;rw[d_,Rf];omega
     ·show some (AVal.int .i64 (((ps.length:Nat):Int)+1))=some (AVal.int .i64 ((ps++[joinT (L.getD ps.length [])]).length:Nat));rw[d_];rfl
     ·dsimp only
      rw[<-cg,d_];rfl
   ·refine aH ?_;intros;have h5:eM L=L.length:=by omega
    have h4:ps=L.map joinT:=by rw[h2,u_ (by rw[C_];omega)]
    subst h4;refine aV (i:=1) rfl (ft (L.map joinT) [59] v a_ (wZ hs)) ?_;refine aH ?_;intros;apply aj;unfold iH ju;rw[if_neg a_,if_neg h0,if_neg a_];rfl
end
section
attribute [local irreducible] bJ au aa ax aR ab ad am eb Pr.fit Ln.E Ln.T Vl.E Vl.T jH cC j4
theorem GK {G:Glo}(s:ω)(hs:s.length<=1000000):ai prog G 112 [.str s] (.bool (MZ s)):=by
 have h1:=jV (G:=G) s a_;unfold MZ;generalize am 97 122 (-32) s=u at*
 refine aw func112 call112 λC hC hGL=> ?_;refine xw ?_;repeat' first|exact .n|apply Lc.mk
 all_goals intros
 all_goals
  apply aj;refine congrArg AVal.bool ?_;rw[w_];simp only[Wk,ce];simp[*]
theorem Of {G:Glo}{m:Int}(hE:ab G errTy)(hM:ab G (bQ m))(x:Vl)(hs:x.s.length<=10000)(hL:Small x.L)(hv:x.OK):ai prog G 168 [x.A] (.tuple [.str x.T,x.E.A]):=
 DZ x (uF hE hM x hv) (uG x.s a_ (qo _)) (wR x.L hL) (Hk hM x.st)
theorem Nt {G:Glo}{m:Int}(hE:ab G errTy)(hM:ab G (bQ m))(v:Int)(x:Itm)(hx:x.OK 10000):ai prog G 115 [KV x,.int .i64 v] (.tuple [x.ln.A,x.2.E.A]):=by
 have h1:=Of hE hM x.2 hx.s hx.L hx.v;generalize x.2.E=e at*
 unfold Vl.A at h1;rcases e with _|e|⟨e,p⟩
 ·simp only[Err.A] at h1 ⊢;refine aw func115 call115 λC hC hGL=> ?_;exact bq
 ·simp only[Err.A,ls] at h1 ⊢;refine aw func115 call115 λC hC hGL=> ?_;exact bq
 ·simp only[Err.A,th] at h1 ⊢;refine aw func115 call115 λC hC hGL=> ?_;exact bq
theorem RD {G:Glo}{m:Int}(hE:ab G errTy)(hE2:pH G)(hP:fF G)(hM:ab G (bQ m))(hS:qw G)(v:Int)(hv:v=3\/v=4)(x:Itm)(hx:x.OK 10000):ai prog G 54 [KV x,.int .i64 v] (.int .i64 (x.w v)):=by
 have q1:=call49;have q2:=call111;have q3:=call116;have hc:=uX (G:=G) v;have h1:=yf (G:=G) x.p (bV v 4) hx.p.fit;have h4:=s8 (G:=G) hE (x.p.E (bV v 4));have hn:x.1.n.length<=10000:=hx.p.n;have hps:x.1.ps.length<=10000:=hx.p.ps;have hq:∀k,(x.1.ps.getD k Pr.z).n.length<=1100000/\(x.1.ps.getD k Pr.z).vs.length<=10000/\Lib.lens (x.1.ps.getD k Pr.z).vs<=10000:=hx.p.q;have hvl:∀k j,((x.1.ps.getD k Pr.z).vs.getD j []).length<=10000:=λk j=>by
  have:=iA (l:=(x.1.ps.getD k Pr.z).vs) (k:=j);have:=(hq k).2.2;omega
 have hF:=GK (G:=G) x.1.n a_;have hve:eX v= .none:=by unfold eX;rw[if_pos hv]
 have hT:=xo (G:=G) hS v x.1.n x.1.ps a_ a_ (λk=>by have:=(hq k).1;omega) (λk=>⟨by have:=(hq k).2.1;omega,by have:=hvl k 0;omega⟩);have hV:=uF hE hM x.2 hx.v;have h5:=s8 (G:=G) hE x.2.E;have hR:=rZ (G:=G) hS v x.1.n a_;have hpr:=Nt (G:=G) hE hM v x hx;have hLP:=ID (G:=G) x.ln (bV v 4) (Itm.fit hx);have hw:∀(_:x.p.E (bV v 4)= .none) (_:MZ x.1.n=false),(rc x.1.ps≠0->x.w v=rc x.1.ps)/\(rc x.1.ps=0->(x.k v≠x.2.t->x.w v=1)/\(x.k v=x.2.t->(x.2.E≠ .none->x.w v=x.2.E.e)/\(x.2.E= .none->x.w v=x.r v))):=λa b=>⟨U7 a b,λc=>⟨U8 a b c,λd=>⟨U6 a b c d,w_r a b c d⟩⟩⟩;have hwl:=λa=>VS (v:=v) (x:=x) a;have hwf:=λa b=>Yr (v:=v) (x:=x) a b;have hln:x.2.E= .none->x.p.E (bV v 4)= .none->x.ln.E (bV v 4)= .none:=λ_ b=>Ln.E_v (p:=x.ln) b (Vl.T_hd _);rw[hve] at hT hR;generalize x.w v=W at*
 unfold Itm.r Itm.L at hw;unfold Itm.k at hw;obtain⟨⟨g,n,ps,vv⟩,u⟩:=x;unfold KV at hpr ⊢;unfold Vl.A at hV;unfold Itm.p at h1 h4 hw hwl hwf hln;unfold Itm.ln at hpr hLP hln hw;dsimp only at*
 generalize Ln.E (bV v 4) ⟨g,n,ps,u.T⟩=eL at*
 generalize Ln.T (bV v 4) ⟨g,n,ps,u.T⟩=tL at*
 generalize jH v n ps=K at*
 generalize cC v n=r at*
 unfold Rl.A at hR;obtain⟨r0,r1,r2,r3⟩:=r;dsimp only at*
 generalize u.E=eV at*
 generalize u.T=tV at*
 generalize hE0:Ln.E (bV v 4) ⟨g,n,ps,[]⟩=e0 at*
 rcases e0 with _|e|⟨e,p⟩
 ·simp only[Err.A] at h1;cases hfr:MZ n with
  |true=>
   rw[hwf rfl hfr];rw[hfr] at hF;refine aw func54 call54 λC hC hGL=> ?_;exact bq
  |false=>
   rw[hfr] at hF;have hw:=hw rfl hfr;refine aw func54 call54 λC hC hGL=> ?_;refine aH ?_;intros;refine lp hC hGL (λk:Nat=>[(1,.int .i64 v),(2,.rop (df (⟨g,n,ps,vv⟩,u)) 0),(35,.list 2 ps.length (gg ps)),(36,.int .i64 (ps.length:Nat)),(37,.int .i64 (k:Nat))]) (λ_=>[]) (λk=>k<=ps.length/\∀j,j<k->pE ps j=0) (λk=>ps.length-k) 0 ⟨Nat.zero_le _,λj h=>absurd h (Uf _)⟩ ae rfl ?_;rintro k ⟨k1,k2⟩;by_cases hk:k<ps.length
   ·have hqk:=hq k;have hfi:=HW hE2 hP hM (ps.getD k Pr.z) a_ a_ (λj=>by have:=hvl k j;omega);have hsa:=jW (G:=G) (ps.getD k Pr.z).n nTYP a_ b_;rw[show am 97 122 (-32) nTYP=nTYP by decide+kernel] at hsa;have hfd:=xp (G:=G) ps (ps.getD k Pr.z).n a_ (λk=>by have:=(hq k).1;omega) a_;cases hf:(ps.getD k Pr.z).fit with
    |false=>
     rw[hf] at hfi;have e:=YF hf;rw[hw.1 (by rw[mu hk k2 (by rw[e];decide),e];decide),mu hk k2 (by rw[e];decide),e];exact bq
    |true=>
     rw[hf] at hfi;cases hty:aW (am 97 122 (-32) (ps.getD k Pr.z).n) nTYP with
     |true=>
      rw[hty] at hsa;have e:=WH hf (λh=>h.1 (ce.1 hty));refine aH ?_;intros;exact fG (k+1) ⟨a_,bL k2 e⟩ a_ ae aA
     |false=>
      rw[hty] at hsa;by_cases hd:eb (ps.getD k Pr.z).n ps 0<(k:Int)
      ·have e:=YE hf (kM.1 hty) hd;rw[hw.1 (by rw[mu hk k2 (by rw[e];decide),e];decide),mu hk k2 (by rw[e];decide),e];exact bq
      ·have e:=WH hf (λh=>hd h.2);refine aH ?_;intros;exact fG (k+1) ⟨a_,bL k2 e⟩ a_ ae aA
   ·have hw:=hw.2 (Pw a_ k2);by_cases hK:K=u.t
    ·have hw:=hw.2 hK;rcases eV with _|e|⟨e,p⟩
     ·have hw:=hw.2 rfl;have hln:=hln rfl rfl;subst hln;simp only[Err.A] at hV hpr hLP;subst hw;obtain rfl:=hK;by_cases ha:u.t=3/\0<r3/\r3≠(u.L.length:Int)
      ·rw[if_pos ha];obtain⟨a1,a2,a3⟩:=ha;have a4:(u.L.length:Int)≠r3:=λh=>a3 h.symm;exact bq
      ·rw[if_neg ha];by_cases a1:u.t=3
       ·by_cases a2:0<r3
        ·have a3:(u.L.length:Int)=r3:=by
          apply Classical.byContradiction;intro h;exact ha ⟨a1,a2,λk=>h k.symm⟩
         by_cases hl:1500<tL.length
         ·rw[if_pos hl];refine an ?_;intros;rename_i b11 b13 _ _ _ _ _;refine dC (az (i:=1) (k:=13) rfl rfl) ?_;refine a7 mixed hC hGL false (λ_:Unit=>[(15,.str tL)]) (λ_=>[.cells b11 (some 110) [.int .i64 r0,.int .i64 r1,.int .i64 r2,.int .i64 r3],eB]) .p1 be xu ?_;intro _;exact bq
         ·rw[if_neg hl];refine an ?_;intros;rename_i b11 b13 _ _ _ _ _;refine dC (az (i:=1) (k:=13) rfl rfl) ?_;refine a7 mixed hC hGL false (λ_:Unit=>[(15,.str tL)]) (λ_=>[.cells b11 (some 110) [.int .i64 r0,.int .i64 r1,.int .i64 r2,.int .i64 r3],eB]) .p1 be xu ?_;intro _;exact bq
        ·have a2':¬0<r3:=a2;by_cases hl:1500<tL.length
         ·rw[if_pos hl];refine an ?_;intros;rename_i b11 b13 _ _ _ _;refine dC (az (i:=1) (k:=13) rfl rfl) ?_;refine a7 mixed hC hGL false (λ_:Unit=>[(15,.str tL)]) (λ_=>[.cells b11 (some 110) [.int .i64 r0,.int .i64 r1,.int .i64 r2,.int .i64 r3],eB]) .p1 be xu ?_;intro _;exact bq
         ·rw[if_neg hl];refine an ?_;intros;rename_i b11 b13 _ _ _ _;refine dC (az (i:=1) (k:=13) rfl rfl) ?_;refine a7 mixed hC hGL false (λ_:Unit=>[(15,.str tL)]) (λ_=>[.cells b11 (some 110) [.int .i64 r0,.int .i64 r1,.int .i64 r2,.int .i64 r3],eB]) .p1 be xu ?_;intro _;exact bq
       ·by_cases hl:1500<tL.length
        ·rw[if_pos hl];refine an ?_;intros;rename_i b11 b13 _ _ _;refine dC (az (i:=1) (k:=13) rfl rfl) ?_;refine a7 mixed hC hGL false (λ_:Unit=>[(15,.str tL)]) (λ_=>[.cells b11 (some 110) [.int .i64 r0,.int .i64 r1,.int .i64 r2,.int .i64 r3],eB]) .p1 be xu ?_;intro _;exact bq
        ·rw[if_neg hl];refine an ?_;intros;rename_i b11 b13 _ _ _;refine dC (az (i:=1) (k:=13) rfl rfl) ?_;refine a7 mixed hC hGL false (λ_:Unit=>[(15,.str tL)]) (λ_=>[.cells b11 (some 110) [.int .i64 r0,.int .i64 r1,.int .i64 r2,.int .i64 r3],eB]) .p1 be xu ?_;intro _;exact bq
     ·rw[hw.1 (λh=>by cases h)];simp only[Err.A,Err.e,ls] at hV h5 ⊢;exact bq
     ·rw[hw.1 (λh=>by cases h)];simp only[Err.A,Err.e,th] at hV h5 ⊢;exact bq
    ·rw[hw.1 hK];exact bq
 ·rw[hwl (λh=>by cases h)];simp only[Err.A,Err.e,ls] at h1 h4 ⊢;refine aw func54 call54 λC hC hGL=> ?_;exact bq
 ·rw[hwl (λh=>by cases h)];simp only[Err.A,Err.e,th] at h1 h4 ⊢;refine aw func54 call54 λC hC hGL=> ?_;refine an ?_;intros;refine a7 mixed hC hGL false (λ_:Unit=>[(5,th e p)]) (λ_=>[]) (.t 0 (.t 1 (.t 2 (.t 3 (.t 4 (.t 5 (.t 6 (.t 7 (.b 8 (.b 9 (.t 10 .done))))))))))) be xu ?_;intro _;exact bq
end
section
def jE (L:List (ω×Int)):List (AVal×AVal):=L.map λx=>(.str x.1,.int .i64 x.2)
def eA (s:ω):List (ω×Int)->Nat->Option (Nat×Int)
 |[],_=>none
 |x::L,i=>if aW s x.1 then some (i,x.2) else eA s L (i+1)
def lM (s:ω)(L:List (ω×Int)):Int:=match eA s L 0 with
 |some (_,n)=>n
 |none=>0
theorem kC (s:ω):∀(L:List (ω×Int)) (i:Nat),eA s L i=(eA s L 0).map λx=>(x.1+i,x.2)
 |[],_=>rfl
 |x::L,i=>by
  simp only[eA];split
  ·simp
  ·rw[kC s L (i+1),kC s L (0+1)];cases eA s L 0 with
   |none=>rfl
   |some y=>simp only[aal];congr 2;omega
theorem jU (s:ω)(x:ω×Int)(L:List (ω×Int)):lM s (x::L)=if aW s x.1 then x.2 else lM s L:=by
 cases h:aW s x.1 with
 |true=>
  unfold lM;simp only[eA,h,aap]
 |false=>
  unfold lM;simp only[eA,h,Bu,aaq];rw[kC s L (0+1)];cases eA s L 0 with
  |none=>rfl
  |some y=>rfl
theorem AU {s t:ω}{n:Int}:∀{L:List (ω×Int)},eA t L 0=none->lM s (L++[(t,n)])=if aW s t then n else lM s L
 |[],_=>by rw[L_,jU]
 |x::L,h=>by
  simp only[eA] at h;split at h
  ·cases h
  ·rename_i hx;rw[kC t L (0+1)] at h;have h0:eA t L 0=none:=by
    cases h1:eA t L 0 with
    |none=>rfl
    |some y=>rw[h1] at h;cases h
   rw[Lu,jU,AU h0,jU];cases h1:aW s x.1 with
   |false=>rfl
   |true=>
    have e1:=ce.1 h1;cases h2:aW s t with
    |false=>rfl
    |true=>
     have e2:=ce.1 h2;exact absurd (ce.2 (e2.symm.trans e1)) hx
theorem Fm {s t:ω}{n m:Int}:∀{L:List (ω×Int)} {j:Nat},eA t L 0=some (j,m)->lM s (L.set j (t,n))=if aW s t then n else lM s L
 |[],_,h=>by cases h
 |x::L,j,h=>by
  simp only[eA] at h;split at h
  ·rename_i hx;cases h;rw[List.set_cons_zero,jU,jU];dsimp only
   rw[ce.1 hx];split<;>rfl
  ·rename_i hx;rw[kC t L (0+1)] at h;cases h1:eA t L 0 with
   |none=>rw[h1] at h;cases h
   |some y=>
    rw[h1] at h;simp only[aal,g_,aag] at h;obtain⟨rfl,rfl⟩:=h;rw[show y.1+(0+1)=y.1+1 by omega,List.set_cons_succ,jU,Fm (m:=y.2) h1,jU];cases h2:aW s x.1 with
    |false=>rfl
    |true=>
     have e1:=ce.1 h2;cases h3:aW s t with
     |false=>rfl
     |true=>exact absurd (ce.2 ((ce.1 h3).symm.trans e1)) hx
theorem tU (L:List (ω×Int))(s:ω)(n:Int):jE L++[(AVal.str s,AVal.int .i64 n)]=jE (L++[(s,n)]):=by
 unfold jE;rw[Nm];rfl
theorem yb (L:List (ω×Int))(j:Nat)(s:ω)(n:Int):(jE L).set j (AVal.str s,AVal.int .i64 n)=jE (L.set j (s,n)):=by
 unfold jE;rw[List.map_set]
def lf (s:ω)(n:Int)(L:List (ω×Int)):List (ω×Int):=match eA s L 0 with
 |some (j,_)=>L.set j (s,n)
 |none=>L++[(s,n)]
theorem PL (s t:ω)(n:Int)(L:List (ω×Int)):lM s (lf t n L)=if aW s t then n else lM s L:=by
 unfold lf;cases h:eA t L 0 with
 |none=>exact AU h
 |some y=>exact Fm (m:=y.2) h
end
section
theorem lP (s:ω){z:Nat->Prop}{f:AVal×AVal->List (AVal×AVal)->(Nat->Prop)->Nat->Prop}{L:List (ω×Int)}(h:f (.str s,.int .i64 (lM s L)) [] (λ_=>True) 0)
  (hf:∀t n r ih i,(aW s t=true->f (.str s,.int .i64 n) [] (λ_=>True) 0)->(aW s t=false->ih (i+1))->f (.str t,.int .i64 n) r ih i:=by exact λ_ _ _ _ _ h1 h2=>(⟨λe=>(h1 e).1 (ce.2 rfl),h2⟩:Sc _ _ _))
  (hz:f (.str s,.int .i64 0) [] (λ_=>True) 0->∀i,z i:=by exact λh _=>h.1 (ce.2 rfl)):List.rec (motive:=λ_=>Nat->Prop) z f (jE L) 0:=by
 have h1:∀(L:List (ω×Int)) (i:Nat),(match eA s L i with|some (_,n)=>f (.str s,.int .i64 n) [] (λ_=>True) 0|none=>∀i,z i)->List.rec (motive:=λ_=>Nat->Prop) z f (jE L) i:=by
  intro L;induction L with
  |nil=>exact λi h=>h i
  |cons x L ih=>
   intro i h;refine hf x.1 x.2 (jE L) _ i (λe=> ?_) (λe=> ?_)
   ·simp only[eA,e,aap] at h;exact h
   ·simp only[eA,e,Bu,aaq] at h;exact ih (i+1) h
 refine h1 L 0 ?_;unfold lM at h;cases hl:eA s L 0 with
 |none=>rw[hl] at h;exact hz h
 |some y=>rw[hl] at h;exact h
theorem CT (s:ω){z:Nat->Prop}{f:AVal×AVal->List (AVal×AVal)->(Nat->Prop)->Nat->Prop}{L:List (ω×Int)}(h1:∀j n,eA s L 0=some (j,n)->f (.str s,.int .i64 n) [] (λ_=>True) j)(h2:eA s L 0=none->∀i,z i)
  (hf:∀t n r ih i,(aW s t=true->f (.str s,.int .i64 n) [] (λ_=>True) i)->(aW s t=false->ih (i+1))->f (.str t,.int .i64 n) r ih i:=by exact λ_ _ _ _ _ h1 h2=>(⟨λe=>(h1 e).1 (ce.2 rfl),h2⟩:Sc _ _ _)):List.rec (motive:=λ_=>Nat->Prop) z f (jE L) 0:=by
 have g:∀(L:List (ω×Int)) (i:Nat),(∀j n,eA s L i=some (j,n)->f (.str s,.int .i64 n) [] (λ_=>True) j)->(eA s L i=none->∀i,z i)->List.rec (motive:=λ_=>Nat->Prop) z f (jE L) i:=by
  intro L;induction L with
  |nil=>exact λi _ h=>h rfl i
  |cons x L ih=>
   intro i k1 k2;refine hf x.1 x.2 (jE L) _ i (λe=> ?_) (λe=> ?_)
   ·exact k1 i x.2 (by simp only[eA,e,aap])
   ·refine ih (i+1) (λj n hj=>k1 j n ?_) (λhj=>k2 ?_)
    ·simp only[eA,e,Bu,aaq];exact hj
    ·simp only[eA,e,Bu,aaq];exact hj
 exact g L 0 h1 h2
theorem Hu (s:ω):(am 97 122 (-32) s).length=s.length:=by unfold am;rw[C_]
theorem VE {v:Int}{l:List Itm}(hv:v=3\/v=4)(h:60<l.length):Crd.E ⟨v,l⟩= .errno 4:=by unfold Crd.E;rw[if_pos hv,if_pos h]
theorem VF {v:Int}{l:List Itm}(hv:¬(v=3\/v=4)):Crd.E ⟨v,l⟩= .errno 1:=by unfold Crd.E;rw[if_neg hv]
theorem VB {v:Int}{l:List Itm}(hv:v=3\/v=4)(h:¬60<l.length){k:Nat}(hk:k<l.length)(hj:∀j,j<k->(l.getD j Itm.z).w v=0)(hb:(l.getD k Itm.z).w v≠0):Crd.E ⟨v,l⟩= .atp ((l.getD k Itm.z).w v) k:=by
 unfold Crd.E;rw[if_pos hv,if_neg h,Dd (f:=λi=>(l.getD i Itm.z).w v) hk hj hb]
theorem VC {v:Int}{l:List Itm}(hv:v=3\/v=4)(h:¬60<l.length)(hw:∀j,j<l.length->(l.getD j Itm.z).w v=0){k:Nat}(hk:k<l.length)(hj:∀j,j<k->lO v l j=0)(hb:lO v l k≠0):Crd.E ⟨v,l⟩= .atp (lO v l k) k:=by
 unfold Crd.E;rw[if_pos hv,if_neg h,nl (f:=λi=>(l.getD i Itm.z).w v) hw];dsimp only
 rw[Dd hk hj hb]
theorem VD {v:Int}{l:List Itm}(hv:v=3\/v=4)(h:¬60<l.length)(hw:∀j,j<l.length->(l.getD j Itm.z).w v=0)(hm:∀j,j<l.length->lO v l j=0):Crd.E ⟨v,l⟩=if Db (KR v l) (aF v).length=0 then .none else .errno 7:=by
 unfold Crd.E;rw[if_pos hv,if_neg h,nl (f:=λi=>(l.getD i Itm.z).w v) hw];dsimp only
 rw[nl hm]
theorem PV {v:Int}{l:List Itm}{i:Nat}(h:0<(cC v (l.getD i Itm.z).1.n).b)(h2:(cC v (l.getD i Itm.z).1.n).b<=(j4 l (am 97 122 (-32) (l.getD i Itm.z).1.n) i:Int)):lO v l i=9:=by unfold lO;rw[if_pos ⟨h,h2⟩]
theorem PW {v:Int}{l:List Itm}{i:Nat}(h:¬(0<(cC v (l.getD i Itm.z).1.n).b/\(cC v (l.getD i Itm.z).1.n).b<=(j4 l (am 97 122 (-32) (l.getD i Itm.z).1.n) i:Int))):lO v l i=0:=by unfold lO;rw[if_neg h]
theorem YV {v:Int}{l:List Itm}{i:Nat}(h:(j4 l ((aF v).getD i []) l.length:Int)<(cC v ((aF v).getD i [])).a):KR v l i=7:=by unfold KR;rw[if_pos h]
theorem YW {v:Int}{l:List Itm}{i:Nat}(h:¬(j4 l ((aF v).getD i []) l.length:Int)<(cC v ((aF v).getD i [])).a):KR v l i=0:=by unfold KR;rw[if_neg h]
theorem Uy {l:List Itm}{k:Nat}(hk:k<l.length){L:List (ω×Int)}(h:∀s,lM s L=j4 l s k):∀s,lM s (lf (am 97 122 (-32) (l.getD k Itm.z).1.n) (lM (am 97 122 (-32) (l.getD k Itm.z).1.n) L+1) L)=j4 l s (k+1):=by
 intro s;rw[PL,ur hk,h,h];cases hs:aW s (am 97 122 (-32) (l.getD k Itm.z).1.n) with
 |true=>
  have:=ce.1 hs;rw[if_pos rfl,<-this,if_pos (ce.2 rfl)];omega
 |false=>
  rw[if_neg b_,if_neg (λh=>absurd (ce.2 (ce.1 h).symm) (by rw[hs];decide))];omega
attribute [local irreducible] bJ au aa ax aR ab ad am cC j4 jE eA lM lf aF Itm.w lO KR
theorem Jx {G:Glo}{m:Int}(hE:ab G errTy)(hE2:pH G)(hP:fF G)(hM:ab G (bQ m))(hS:qw G)(c:Crd)(hf:c.ok):ai prog G 30 [c.A] c.E.A:=by
 obtain⟨v,l⟩:=c;obtain⟨h70,ho⟩:=hf;dsimp only at h70 ho;have hN:=EN (G:=G) v;by_cases hv:v=3\/v=4
 ·have hve:eX v= .none:=by unfold eX;rw[if_pos hv]
  rw[hve] at hN;simp only[Err.A] at hN;by_cases h60:60<l.length
  ·rw[VE hv h60];refine aw func30 call30 λC hC hGL=> ?_;exact bq
  ·have hone:∀k,k<l.length->ai prog G 54 [KV (l.getD k Itm.z),.int .i64 v] (.int .i64 ((l.getD k Itm.z).w v)):=λk hk=>RD hE hE2 hP hM hS v hv _ (ud ho hk);refine aw func30 call30 λC hC hGL=> ?_;refine aH ?_;intros;refine lp hC hGL (λk:Nat=>[(1,.rop [.int .i64 v,.list 15 l.length (dK l)] 0),(3,.list 1 (aF v).length (aB (aF v))),(33,.list 15 l.length (dK l)),(34,.int .i64 (l.length:Nat)),(35,.int .i64 (k:Nat))]) (λ_=>[]) (λk=>k<=l.length/\∀j,j<k->(l.getD j Itm.z).w v=0) (λk=>l.length-k) 0 ⟨Nat.zero_le _,λj h=>absurd h (Uf _)⟩ ae rfl ?_;rintro k ⟨k1,k2⟩;by_cases hk:k<l.length
   ·have h1:=hone k hk;unfold KV at h1;by_cases hw:(l.getD k Itm.z).w v=0
    ·rw[hw] at h1;refine aH ?_;intros;exact fG (k+1) ⟨hk,bL k2 hw⟩ a_ ae aA
    ·rw[VB hv h60 hk k2 hw];simp only[Err.A,th];exact bq
   ·obtain rfl:k=l.length:=by omega
    refine aH ?_;intro bl;intros;refine lp hC hGL (λz:Nat×List (ω×Int)=>[(1,.rop [.int .i64 v,.list 15 l.length (dK l)] 0),(3,.list 1 (aF v).length (aB (aF v))),(8,.own 0 (.map (some bl))),(54,.list 15 l.length (dK l)),(55,.int .i64 (l.length:Nat)),(56,.int .i64 (z.1:Nat))]) (λz=>[.mp bl (jE z.2)]) (λz=>z.1<=l.length/\(∀s,lM s z.2=j4 l s z.1)/\∀j,j<z.1->lO v l j=0) (λz=>l.length-z.1) (0,[]) ⟨Nat.zero_le _,λs=>by rw[BD];unfold lM;simp only[eA];rfl,λj h=>absurd h (Uf _)⟩ ae (by unfold jE;rfl) ?_;rintro⟨k,L⟩ ⟨k1,kL,km⟩;dsimp only at k1 kL km ⊢;by_cases hk:k<l.length
    ·have hnl:(l.getD k Itm.z).1.n.length<=10000:=(ud ho hk).p.n;have hU:=jV (G:=G) (l.getD k Itm.z).1.n a_;have hul:=Hu (l.getD k Itm.z).1.n;have hR:=rZ (G:=G) hS v (am 97 122 (-32) (l.getD k Itm.z).1.n) a_;have hcnt:=kL (am 97 122 (-32) (l.getD k Itm.z).1.n);have hcl:=sV l (am 97 122 (-32) (l.getD k Itm.z).1.n) k;have hupd:=Uy hk kL;have h9:=PV (v:=v) (l:=l) (i:=k);have h0:=PW (v:=v) (l:=l) (i:=k);have hsc:=hupd (am 97 122 (-32) (l.getD k Itm.z).1.n);have hsu:=ur (s:=am 97 122 (-32) (l.getD k Itm.z).1.n) hk;rw[if_pos (ce.2 rfl)] at hsu;rw[Te,hve] at hR;unfold Rl.A at hR;simp only[Err.A] at hR;refine aH ?_;intros;have hcm:=λh=>VC (v:=v) hv h60 k2 hk km h;generalize cC v (l.getD k Itm.z).1.n=r at*
     obtain⟨r0,r1,r2,r3⟩:=r;dsimp only at*
     generalize am 97 122 (-32) (l.getD k Itm.z).1.n=U at*
     refine lP U ?_;generalize lM U L=NN at*
     generalize j4 l U k=cn at*
     by_cases hb:0<r2
     ·by_cases hc:r2<=(cn:Int)
      ·have h9:=h9 hb hc;rw[h9] at hcm;rw[hcm b_];simp only[Err.A,th];refine aH ?_;intros;refine CT U (λj n hl=> ?_) (λhl i=> ?_)
       ·have eL:(jE L).set j (AVal.str U,AVal.int .i64 (NN+1))=jE (lf U (NN+1) L):=by rw[yb];unfold lf;rw[hl]
        refine aH ?_;intros;rw[eL];refine lP U ?_;generalize lM U (lf U (NN+1) L)=N2 at*
        exact bq
       ·have eL:jE L++[(AVal.str U,AVal.int .i64 (NN+1))]=jE (lf U (NN+1) L):=by rw[tU];unfold lf;rw[hl]
        refine aH ?_;intros;rw[eL];refine lP U ?_;generalize lM U (lf U (NN+1) L)=N2 at*
        exact bq
      ·have h0:=h0 (λh=>hc h.2);refine aH ?_;intros;refine CT U (λj n hl=> ?_) (λhl i=> ?_)
       ·have eL:(jE L).set j (AVal.str U,AVal.int .i64 (NN+1))=jE (lf U (NN+1) L):=by rw[yb];unfold lf;rw[hl]
        refine aH ?_;intros;rw[eL];refine lP U ?_;have hsc2:=hsc;generalize lM U (lf U (NN+1) L)=N2 at hsc2 ⊢;refine aH ?_;intros;exact fG (k+1,lf U (NN+1) L) ⟨hk,hupd,bL km h0⟩ (by dsimp only;omega) ae aA
       ·have eL:jE L++[(AVal.str U,AVal.int .i64 (NN+1))]=jE (lf U (NN+1) L):=by rw[tU];unfold lf;rw[hl]
        refine aH ?_;intros;rw[eL];refine lP U ?_;have hsc2:=hsc;generalize lM U (lf U (NN+1) L)=N2 at hsc2 ⊢;refine aH ?_;intros;exact fG (k+1,lf U (NN+1) L) ⟨hk,hupd,bL km h0⟩ (by dsimp only;omega) ae aA
     ·have h0:=h0 (λh=>hb h.1);refine aH ?_;intros;refine CT U (λj n hl=> ?_) (λhl i=> ?_)
      ·have eL:(jE L).set j (AVal.str U,AVal.int .i64 (NN+1))=jE (lf U (NN+1) L):=by rw[yb];unfold lf;rw[hl]
       refine aH ?_;intros;rw[eL];exact fG (k+1,lf U (NN+1) L) ⟨hk,hupd,bL km h0⟩ (by dsimp only;omega) ae aA
      ·have eL:jE L++[(AVal.str U,AVal.int .i64 (NN+1))]=jE (lf U (NN+1) L):=by rw[tU];unfold lf;rw[hl]
       refine aH ?_;intros;rw[eL];exact fG (k+1,lf U (NN+1) L) ⟨hk,hupd,bL km h0⟩ (by dsimp only;omega) ae aA
    ·obtain rfl:k=l.length:=by omega
     rw[VD hv h60 k2 km];refine aH ?_;intros;refine lp hC hGL (λk:Nat=>[(1,.rop [.int .i64 v,.list 15 l.length (dK l)] 0),(8,.own 0 (.map (some bl))),(91,.list 1 (aF v).length (aB (aF v))),(92,.int .i64 ((aF v).length:Nat)),(93,.int .i64 (k:Nat))]) (λ_=>[.mp bl (jE L)]) (λk=>k<=(aF v).length/\∀j,j<k->KR v l j=0) (λk=>(aF v).length-k) 0 ⟨Nat.zero_le _,λj h=>absurd h (Uf _)⟩ ae rfl ?_;rintro k ⟨k1,kl⟩;by_cases hk:k<(aF v).length
     ·have hnn:=Fs hk;have hnl:=AX v;have hR:=rZ (G:=G) hS v ((aF v).getD k []) a_;have hcl:=sV l ((aF v).getD k []) l.length;have hcnt:=kL ((aF v).getD k []);rw[hve] at hR;unfold Rl.A at hR;simp only[Err.A] at hR;have h7:=YV (v:=v) (l:=l) (i:=k);have h0:=YW (v:=v) (l:=l) (i:=k);have hf7:=λh=>vW (f:=KR v l) hk kl h;generalize cC v ((aF v).getD k [])=r at*
      obtain⟨r0,r1,r2,r3⟩:=r;dsimp only at*
      generalize j4 l ((aF v).getD k []) l.length=N at*
      by_cases hb:(N:Int)<r1
      ·have h7:=h7 hb;rw[h7] at hf7;rw[hf7 b_,if_neg b_];simp only[Err.A,ls];refine aH ?_;intros;refine lP ((aF v).getD k []) ?_;rw[hcnt];exact bq
      ·have h0:=h0 hb;refine aH ?_;intros;refine lP ((aF v).getD k []) ?_;rw[hcnt];refine aH ?_;intros;exact fG (k+1) ⟨hk,bL kl h0⟩ a_ ae aA
     ·obtain rfl:k=(aF v).length:=by omega
      rw[nk (f:=KR v l) kl,if_pos rfl];simp only[Err.A];exact bq
 ·rw[VF hv];have hve:eX v= .errno 1:=by unfold eX;rw[if_neg hv]
  rw[hve] at hN;simp only[Err.A,ls] at hN ⊢;refine aw func30 call30 λC hC hGL=> ?_;exact bq
end
section
theorem yI {f:Nat->Int}:∀{n:Nat},(yJ f n= .none)\/∃k,k<n/\yJ f n= .atp (f k) k/\f k≠0
 |0=>.inl rfl
 |n+1=>by
  rcases yI (f:=f) (n:=n) with h|⟨k,h1,h2,h3⟩
  ·rw[yJ,h];by_cases h0:f n=0
   ·exact .inl (by simp only[h0,aap])
   ·exact .inr ⟨n,a_,by simp only[h0,aaq],h0⟩
  ·exact .inr ⟨k,a_,by rw[yJ,h2],h3⟩
theorem Ro (c:Crd):c.E= .none\/(c.E.e≠0/\∀e p,c.E= .atp e p->0<=p):=by
 unfold Crd.E;split
 ·split
  ·exact .inr ⟨b_,λe p h=>by cases h⟩
  ·rcases yI (f:=λi=>(c.l.getD i Itm.z).w c.v) (n:=c.l.length) with h|⟨k,h1,h2,h3⟩
   ·rw[h];dsimp only
    rcases yI (f:=lO c.v c.l) (n:=c.l.length) with h|⟨k,h1,h2,h3⟩
    ·rw[h];dsimp only
     split
     ·exact .inl rfl
     ·exact .inr ⟨b_,λe p h=>by cases h⟩
    ·rw[h2];exact .inr ⟨h3,λe p h=>by cases h;omega⟩
   ·rw[h2];exact .inr ⟨h3,λe p h=>by cases h;omega⟩
 ·exact .inr ⟨b_,λe p h=>by cases h⟩
theorem LA {c:Crd}{e p:Int}(h:c.E= .atp e p):0<=p/\p<c.l.length:=by
 unfold Crd.E at h;split at h
 ·split at h
  ·cases h
  ·rcases yI (f:=λi=>(c.l.getD i Itm.z).w c.v) (n:=c.l.length) with g|⟨k,h1,h2,h3⟩
   ·rw[g] at h;dsimp only at h;rcases yI (f:=lO c.v c.l) (n:=c.l.length) with g|⟨k,h1,h2,h3⟩
    ·rw[g] at h;dsimp only at h;split at h<;>cases h
    ·rw[h2] at h;cases h;omega
   ·rw[h2] at h;cases h;omega
 ·cases h
end
section
theorem Iz (c:Bool)(s:ω)(e:Int):rE c s≠ .errno e:=by
 unfold rE;split<;>exact λh=>by cases h
abbrev IP (b:Nat)(p:Ln)(v:Vl)(q1 q2:AVal):HEnt:=.cells b (some 65) [.str p.g,.str p.n,q1,.int .i64 v.t,.str v.s,q2,.int .i64 v.st.y,.int .i64 v.st.m,.int .i64 v.st.d,.int .i64 v.st.h,.int .i64 v.st.i,.int .i64 v.st.s,.bool v.st.z,.int .i64 v.st.o,.int .i64 v.n]
abbrev itQ (p:Ln)(v:Vl)(q1 q2:AVal):AVal:=.agg [.str p.g,.str p.n,q1,.int .i64 v.t,.str v.s,q2,.int .i64 v.st.y,.int .i64 v.st.m,.int .i64 v.st.d,.int .i64 v.st.h,.int .i64 v.st.i,.int .i64 v.st.s,.bool v.st.z,.int .i64 v.st.o,.int .i64 v.n]
def YX (p:Ln)(v:Vl):AVal:=itQ p v (.list 2 p.ps.length (gg p.ps)) (.list 1 v.L.length (kx v.L))
abbrev TM (l:LineS):AVal:=.rop [.str l.t,.int .i64 l.a,.list 1 l.f.length (d8 l.f)] 0
abbrev iN:AVal:=.raw (.slice none 0 0)
abbrev eh (b:Nat):Value:=.pointer (some ⟨b,0,none⟩)
abbrev ZC (b:Nat)(v:Vl):HEnt:=.cells b (some 63) [.int .i64 v.t,.str v.s,.list 1 v.L.length (kx v.L),.int .i64 v.st.y,.int .i64 v.st.m,.int .i64 v.st.d,.int .i64 v.st.h,.int .i64 v.st.i,.int .i64 v.st.s,.bool v.st.z,.int .i64 v.st.o,.int .i64 v.n]
def Uz (v:Int)(l:LineS)(x:AVal)(r:co)(H:Heap):Prop:=∃q1 q2,r= .ret (.tuple [itQ (px v l).1 (px v l).2 q1 q2,x])/\H=[]/\((q1=iN/\q2=iN/\px v l=(Ln.no,Vl.no))\/(q1= .list 2 (px v l).1.ps.length (gg (px v l).1.ps)/\q2= .list 1 (px v l).2.L.length (kx (px v l).2.L)))
theorem LE {v:Int}{l:LineS}{x:AVal}{r:co}{H:Heap}(h:Uz v l x r H):BO r H (.tuple [YX (px v l).1 (px v l).2,x]):=by
 obtain⟨q1,q2,rfl,rfl,h⟩:=h;rintro C R w e' hm ⟨y,rfl,hx⟩;refine⟨R,hm,y,rfl,gL (Seal.le_refl R) hx λu hu=> ?_⟩;rcases h with⟨rfl,rfl,hL⟩|⟨rfl,rfl⟩
 ·rw[hL] at hu ⊢;exact jB (p:=5) (a':=.list 1 0 (kx [])) (Seal.le_refl R) (jB (p:=2) (a':=.list 2 0 (gg [])) (Seal.le_refl R) hu rfl (λv=>lN)) rfl (λv=>lN)
 ·exact hu
theorem CH {n:Nat}{l:List Pr}(h:∀q∈l,q.in n)(k:Nat)(hn:n<=1000000:=by omega):(l.getD k Pr.z).n.length<=9223372036854775807/\((l.getD k Pr.z).vs.length<=9223372036854775807/\((l.getD k Pr.z).vs.getD 0 []).length<=9223372036854775807):=by
 have h0:(l.getD k Pr.z).in n:=by
  by_cases hk:k<l.length
  ·rw[f_,y_ hk];exact h _ (K_ hk)
  ·rw[f_,P_ a_];exact⟨Nat.zero_le _,Nat.zero_le _,λv hv=>by cases hv⟩
 obtain⟨h1,h2,h3⟩:=h0;refine⟨a_,a_,?_⟩;cases hv:(l.getD k Pr.z).vs with
 |nil=>exact Nat.zero_le _
 |cons v vs=>have:=h3 v (by rw[hv];exact z_ ..);show v.length<=_;omega
attribute [local irreducible] bJ au aa ax aR ab ad jb rE nx jH cO gg kx d8
theorem Jy {G:Glo}{m:Int}(hE:ab G errTy)(hU:ab G utfTy)(hM:ab G (bQ m))(hS:qw G)(v:Int)(t:ω)(l:LineS)(hl:l.t.length<=1500)(ht:t.length<=20100)(hb:me t l):ad prog G 29 [uR l,.int .i64 v] [] (Uz v l (jd v l).A):=by
 have hc:=uX (G:=G) v;have h1:=IE (G:=G) l.t (bV v 4) a_;have hin:=Iy (bV v 4) l.t;have hpl:=λi g0 g1=>I3 (G:=G) t l i g0 g1 ht hb;refine k7 func29 call29 λC hC hGL=> ?_;refine gr hC hGL (λx:Nat=>[(1,.int .i64 v),(2,TM l),(4,.own 0 (eh x)),(5,.raw .nilIface)]) (λx=>[IP x Ln.no Vl.no iN iN]) (λ_=>True) ?_ ?_
 ·refine an ?_;intro b;intros;exact cy b trivial
 intro b4 _;by_cases hv:v=3\/v=4
 ·refine cut hC hGL [(1,.int .i64 v),(2,TM l),(4,.own 0 (eh b4)),(5,.raw .nilIface)] [IP b4 Ln.no Vl.no iN iN] True ?_ λ_=> ?_
  ·rcases hv with rfl|rfl<;>exact eK
  have hke:rE (bV v 4) l.t≠ .none->px v l=(Ln.no,Vl.no):=λh=>by
   unfold px jd;rw[if_pos hv];rcases hq:rE (bV v 4) l.t with _|e|⟨e,p⟩
   ·exact absurd hq h
   ·rfl
   ·rfl
  rcases hq:rE (bV v 4) l.t with _|e|⟨e,p⟩
  ·have h2:=xo (G:=G) hS v (jb (bV v 4) l.t).n (jb (bV v 4) l.t).ps a_ (by have:=(CY (bV v 4) l.t).1;omega) (λk=>(CH hin.2.2 k).1) (λk=>(CH hin.2.2 k).2);have h3:=Ho (G:=G) hU hM (jb (bV v 4) l.t).v (NX v l.t) a_;have hvin:=N9 (jb (bV v 4) l.t).v (NX v l.t);have e3:jd v l=(match (y6 v l.t).2 with|.none=>.none|x=>.atp x.e (cO l ((l.t.length:Int)-(jb (bV v 4) l.t).v.length+max 0 x.p) l.f.length)):=by unfold jd;rw[if_pos hv,hq];rfl
   have e4:px v l=(match jd v l with|.none=>(jb (bV v 4) l.t,(y6 v l.t).1)|_=>(Ln.no,Vl.no)):=rfl;have h4:=s8 (G:=G) hE (y6 v l.t).2;rw[hq] at h1;change ai _ _ _ _ (.tuple [.int .i64 (NX v l.t),_]) at h2;change ai _ _ _ _ (.tuple [(y6 v l.t).1.R,(y6 v l.t).2.A]) at h3;change (y6 v l.t).2.in _ at hvin;unfold Uz;generalize jb (bV v 4) l.t=L at*
   generalize y6 v l.t=V at*
   obtain⟨V,x⟩:=V;dsimp only at*
   generalize NX v l.t=k at*
   generalize (eX v).A=z at*
   refine gr hC hGL (λb6:Nat=>[(1,.int .i64 v),(2,TM l),(4,.own 0 (eh b4)),(5,.raw .nilIface),(6,.own 1 (eh b6)),(7,AVal.raw .nilIface)]) (λb6=>[IP b4 Ln.no Vl.no iN iN,.cells b6 (some 97) [.str L.g,.str L.n,.list 2 L.ps.length (gg L.ps),.str L.v]]) (λ_=>True) ?_ ?_
   ·refine an ?_;intros;refine a7 mixed hC hGL false (λb6:Nat=>[(1,.int .i64 v),(2,TM l),(4,.own 0 (eh b4)),(5,.raw .nilIface),(6,.own 1 (eh b6)),(7,AVal.raw .nilIface)]) (λb6=>[IP b4 Ln.no Vl.no iN iN,.cells b6 (some 97) [.str L.g,.str L.n,.list 2 L.ps.length (gg L.ps),.str L.v]]) .p20 be ?_ ?_
    ·refine xn ?_;repeat' first|exact .n|apply Lc.mk
     all_goals intros
     all_goals intros
     all_goals exact⟨_,ae,rfl⟩
    ·intro b6;refine an ?_;intros;exact cy b6 trivial
   intro b6 _;rcases x with _|e|⟨e,p⟩
   ·rw[e4,e3];simp only[Err.A] at h3 ⊢;refine ar hC hGL (an ?_);intros;exact⟨[],Ug _,_,_,rfl,rfl,.inr ⟨rfl,rfl⟩⟩
   ·have hp:=hpl ((l.t.length:Int)-L.v.length) a_ a_;have e5:(l.t.length:Int)-L.v.length+max 0 (Err.errno e).p=(l.t.length:Int)-L.v.length:=by show _+max 0 (-1)=_;omega
    rw[e4,e3];dsimp only
    rw[e5];simp only[Err.A,Err.e,ls] at h3 h4 ⊢;refine ar hC hGL (an ?_);intros;rename Nat=>b12
    refine a7 mixed hC hGL false (λ_:Unit=>[(4,.own 0 (eh b4)),(5,th e (cO l ((l.t.length:Int)-L.v.length) l.f.length))]) (λ_=>[IP b4 Ln.no Vl.no iN iN,.cells b6 (some 97) [.str L.g,.str L.n,.list 2 L.ps.length (gg L.ps),.str L.v],ZC b12 V]) .p21 be xu ?_;intro _;refine an ?_;intros;exact⟨[],Ug _,iN,iN,rfl,rfl,.inl ⟨rfl,rfl,by first|exact rfl|exact trivial⟩⟩
   ·have hvin:0<=p/\p<=((L.v.length+1:Nat):Int):=hvin;have hp:=hpl ((l.t.length:Int)-L.v.length+p) a_ a_;have e5:max 0 (Err.atp e p).p=p:=by show max 0 p=p;omega
    rw[e4,e3];dsimp only
    rw[e5];simp only[Err.A,Err.e,ls] at h3 h4 ⊢;refine ar hC hGL (an ?_);intros;rename Nat=>b12
    refine a7 mixed hC hGL false (λ_:Unit=>[(4,.own 0 (eh b4)),(5,th e (cO l ((l.t.length:Int)-L.v.length+p) l.f.length))]) (λ_=>[IP b4 Ln.no Vl.no iN iN,.cells b6 (some 97) [.str L.g,.str L.n,.list 2 L.ps.length (gg L.ps),.str L.v],ZC b12 V]) .p21 be xu ?_;intro _;refine an ?_;intros;exact⟨[],Ug _,iN,iN,rfl,rfl,.inl ⟨rfl,rfl,by first|exact rfl|exact trivial⟩⟩
  ·exact absurd hq (Iz _ _ _)
  ·have e1:jd v l= .atp e (cO l p l.f.length):=by unfold jd;rw[if_pos hv,hq];rfl
   have e2:=hke (by rw[hq];exact λh=>by cases h);have hip:0<=p/\p<=(l.t.length:Int):=by
    have:=Qb (bV v 4) l.t;rw[hq] at this;exact this
   have hpl:=hpl p hip.1 a_;unfold Uz;rw[e1,e2];rw[hq] at h1;generalize jb (bV v 4) l.t=L at*
   simp only[Err.A,ls] at h1 ⊢;refine gr hC hGL (λb6:Nat=>[(1,.int .i64 v),(2,TM l),(4,.own 0 (eh b4)),(5,.raw .nilIface),(6,.own 1 (eh b6)),(7,th e p)]) (λb6=>[IP b4 Ln.no Vl.no iN iN,.cells b6 (some 97) [.str L.g,.str L.n,.list 2 L.ps.length (gg L.ps),.str L.v]]) (λ_=>True) ?_ ?_
   ·refine an ?_;intros;refine a7 mixed hC hGL false (λb6:Nat=>[(1,.int .i64 v),(2,TM l),(4,.own 0 (eh b4)),(5,.raw .nilIface),(6,.own 1 (eh b6)),(7,th e p)]) (λb6=>[IP b4 Ln.no Vl.no iN iN,.cells b6 (some 97) [.str L.g,.str L.n,.list 2 L.ps.length (gg L.ps),.str L.v]]) .p20 be ?_ ?_
    ·refine xn ?_;repeat' first|exact .n|apply Lc.mk
     all_goals intros
     all_goals intros
     all_goals exact⟨_,ae,rfl⟩
    ·intro b6;refine an ?_;intros;exact cy b6 trivial
   intro b6 _;refine ar hC hGL (an ?_);intros;refine a7 mixed hC hGL false (λ_:Unit=>[(4,.own 0 (eh b4)),(5,th e (cO l p l.f.length))]) (λ_=>[IP b4 Ln.no Vl.no iN iN,.cells b6 (some 97) [.str L.g,.str L.n,.list 2 L.ps.length (gg L.ps),.str L.v]]) (.t 0 (.t 1 (.t 2 (.t 3 (.t 4 (.t 5 (.t 6 (.t 7 (.t 8 (.t 9 (.b 10 (.t 11 (.br 12 (.t 13 (.b 14 (.t 15 .done))) (.b 14 (.b 12 (.t 13 (.t 15 .done))))))))))))))))) be xu ?_;intro _;refine an ?_;intros;exact⟨[],Ug _,iN,iN,rfl,rfl,.inl ⟨rfl,rfl,by first|exact rfl|exact trivial⟩⟩
 ·have e1:jd v l= .errno 1:=by unfold jd;rw[if_neg hv]
  have e2:px v l=(Ln.no,Vl.no):=by unfold px;rw[e1]
  unfold Uz;rw[e1,e2];refine ar hC hGL (xn ?_);repeat' first|exact .n|apply Lc.mk
  all_goals intros
  all_goals exact⟨[],Ug _,iN,iN,rfl,rfl,.inl ⟨rfl,rfl,by first|exact rfl|exact trivial⟩⟩
end
section
def aI (c:UInt8)(s:ω):ω:=s.filter (· != c)
theorem Qt:∀{s:ω} {c:UInt8},Lib.indexByte s c= -1->c∉s
 |[],c,_=>by simp
 |x::t,c,h=>by
  have hge:=Lib.indexByte_ge t c;unfold Lib.indexByte at h;split at h
  ·omega
  ·rename_i hx;split at h
   ·rename_i h2;have:=Qt (beq_iff_eq.1 h2);simp only[p_,not_or];exact⟨λe=>hx (by simp[e]),this⟩
   ·omega
theorem KX:∀{s:ω} {c:UInt8} {i:Nat},Lib.indexByte s c=i->∃t,s=s.take i++c::t/\s.drop (i+1)=t/\c∉s.take i
 |[],c,i,h=>by unfold Lib.indexByte at h;omega
 |x::t,c,i,h=>by
  have hge:=Lib.indexByte_ge t c;unfold Lib.indexByte at h;split at h
  ·rename_i hx;obtain rfl:i=0:=by omega
   have:x=c:=by simpa using hx
   subst this;exact⟨t,by simp,by simp,by simp⟩
  ·rename_i hx;split at h
   ·omega
   ·rename_i h2;have h2:Lib.indexByte t c≠ -1:=λe=>h2 (beq_iff_eq.2 e);obtain⟨j,rfl⟩:∃j,i=j+1:=⟨i-1,a_⟩;have hj:Lib.indexByte t c=((j:Nat):Int):=by push_cast at h;omega
    obtain⟨u,h1,h2,h3⟩:=KX (s:=t) (c:=c) (i:=j) hj;refine⟨u,by rw[aac,Lu,<-h1],by rw[aab];exact h2,?_⟩;rw[aac,p_,not_or];exact⟨λe=>hx (by simp[e]),h3⟩
theorem PC {s:ω}{c:UInt8}(h:c∉s):aI c s=s:=by
 unfold aI;rw[List.filter_eq_self];intro x hx;simp only[bne_iff_ne,aan];rintro rfl;exact h hx
theorem Ke (c:UInt8):∀(f:Nat) (s:ω),s.length<f->Lib.replaceK [c] [] (Lib.countFrom [c] f s) s=aI c s
 |0,s,h=>by omega
 |f+1,s,h=>by
  unfold Lib.countFrom;have hge:=Lib.indexByte_ge s c;split
  ·rename_i h1;have h1:=beq_iff_eq.1 h1;rw[Lib.index_one] at h1;rw[Lib.replaceK,PC (Qt h1)]
  ·rename_i h1;rw[Lib.index_one] at h1 ⊢;obtain⟨i,hi⟩:∃i:Nat,Lib.indexByte s c=i:=⟨(Lib.indexByte s c).toNat,by
    have:Lib.indexByte s c≠ -1:=λe=>h1 (beq_iff_eq.2 e);omega⟩
   obtain⟨t,h2,h3,h4⟩:=KX hi;have hi2:Lib.index s [c]=(i:Int):=by rw[Lib.index_one];exact hi
   have hlen:t.length<f:=by
    rw[<-h3,k_];have:=congrArg List.length h2;simp only[d_,j_,i_] at this;omega
   rw[hi,Nat.add_comm 1,Lib.replaceK_hit _ _ _ _ i hi2];simp only[B_,j_,E_,Nat.zero_add,Dc];rw[h3,Ke c f t hlen];conv=>rhs;rw[h2]
   have e1:aI c (s.take i++c::t)=aI c (s.take i)++aI c t:=by unfold aI;rw[List.filter_append,List.filter_cons];simp
   rw[e1,PC h4]
theorem EP (s:ω)(c:UInt8):Lib.replaceAll s [c] []=aI c s:=by
 unfold Lib.replaceAll Lib.replace Lib.replaceNum Lib.count;rw[if_neg (by simp),if_pos (.inl b_)];exact Ke c _ s (aak _)
theorem strings_ReplaceAll {G:Glo}{m:Int}(hU:ab G (bQ m))(s:ω)(c:UInt8)(hl:s.length<=1000000):ai prog G 137 [.str s,.str [c],.str []] (.str (aI c s)):=by
 refine bO rfl call137 ?_;rintro R args ⟨x,u,e,hx,y,u',e',hy,z,u2,e2,hz,rfl⟩ w hG hs;obtain rfl:=aD.1 hx;obtain rfl:=aD.1 hy;obtain rfl:=aD.1 hz;subst e2;subst e';obtain rfl:=fR e;refine(Tryz.strings_ReplaceAll ⟨s.toArray⟩ ⟨#[c]⟩ ⟨#[]⟩ m w (by rw[bM];omega) (o7 hU hG hs) (Nat.le_refl 1) (by rw[bM];show s.length+_*0<=_;omega)).mono ?_;rintro e w' ⟨rfl,hb⟩;exact⟨by simp[AVal.conc,EP],hb⟩
end
section
set_option maxHeartbeats 8000000
attribute [local irreducible] bJ au ax aR ab ad
def Hv (t:Stm):Nat->Bool
 |0=>fM t.y 0 9999
 |1=>fM t.m 1 12
 |2=>fM t.d 1 t.day
 |3=>fM t.h 0 23
 |4=>fM t.i 0 59
 |_=>fM t.s 0 59
theorem Ww {t:Stm}(h:∀j,j<6->Hv t j=true)(z:wo t.o=true):t.rng=true:=by
 have h0:fM t.y 0 9999=true:=h 0 b_;have h1:fM t.m 1 12=true:=h 1 b_;have h2:fM t.d 1 t.day=true:=h 2 b_;have h3:fM t.h 0 23=true:=h 3 b_;have h4:fM t.i 0 59=true:=h 4 b_;have h5:fM t.s 0 59=true:=h 5 b_;unfold Stm.rng;rw[h0,h1,h2,h3,h4,h5,z];rfl
theorem tE {t:Stm}(j:Nat)(h:Hv t j=false):t.rng=false:=by
 unfold Stm.rng
 match j,h with
 |0,h=>have h:fM t.y 0 9999=false:=h;simp[h]
 |1,h=>have h:fM t.m 1 12=false:=h;simp[h]
 |2,h=>have h:fM t.d 1 t.day=false:=h;simp[h]
 |3,h=>have h:fM t.h 0 23=false:=h;simp[h]
 |4,h=>have h:fM t.i 0 59=false:=h;simp[h]
 |n+5,h=>have h:fM t.s 0 59=false:=h;simp[h]
theorem YA {t:Stm}(z:wo t.o=false):t.rng=false:=by
 unfold Stm.rng;rw[z];simp
theorem e_3 {t:Stm}(h:¬Ak t.dn t.tn t.z t.h t.o):t.e=3:=by
 unfold Stm.e;rw[if_neg (λk=>h ((mC t).1 k))]
theorem e_2 {t:Stm}(h:Ak t.dn t.tn t.z t.h t.o)(k:t.rng=false):t.e=2:=by
 unfold Stm.e;rw[if_pos ((mC t).2 h),k];rfl
theorem e_0 {t:Stm}(h:Ak t.dn t.tn t.z t.h t.o)(k:t.rng=true):t.e=0:=by
 unfold Stm.e;rw[if_pos ((mC t).2 h),k];rfl
theorem mZ {t:Stm}{k:Nat}(h:∀j,j<k->Hv t j=true)(hk:Hv t k=true):∀j,j<k+1->Hv t j=true:=by
 intro j hj;rcases aaj j k with g|g
 ·exact h j g
 ·rw[show j=k by omega];exact hk
theorem X7 {p q:Prop}[Decidable p][Decidable q]:((decide p&&decide q)=true)↔p/\q:=by simp
theorem X8 {p q:Prop}[Decidable p][Decidable q]:((decide p&&decide q)=false)↔¬(p/\q):=by simp
theorem wT {n lo hi:Int}(h:n= -1\/lo<=n/\n<=hi):fM n lo hi=true:=wD.2 h
theorem wF {n lo hi:Int}(h:¬(n= -1\/lo<=n/\n<=hi)):fM n lo hi=false:=VQ.2 h
attribute [local irreducible] nA
theorem kb {G:Glo}(hS:ab G shapesTy)(t:Stm):ai prog G 148 [t.A] (.int .i64 t.e):=by
 have h1:=pU hS t.y t.m t.d;have h2:=pU hS t.h t.i t.s;have h3:=Pm (G:=G) t.y t.m;have k1:=λn lo hi (_:(0:Int)<=0)=>fN (G:=G) n lo hi;have h5:=ka (G:=G) t.o;have hE3:=e_3 (t:=t);have hE2:=e_2 (t:=t);have hE0:=e_0 (t:=t);unfold Ak Stm.dn Stm.tn at hE3 hE2 hE0;refine k7 func148 call148 λC hC hGL=> ?_;refine cut hC hGL [(1,.rop t.R 0),(2,.int .i64 0)] [] True ?_ λ_=> ?_
 ·exact bq
 refine cut hC hGL [(1,.rop t.R 0),(3,.int .i64 (nA (aZ t.y) (aZ t.m) (aZ t.d))),(4,.int .i64 (nA (aZ t.h) (aZ t.i) (aZ t.s)))] [] True ?_ λ_=> ?_
 ·refine an ?_;refine a7 mixed hC hGL false (λ(_:Unit)=>[(1,.rop t.R 0),(3,.int .i64 (nA (aZ t.y) (aZ t.m) (aZ t.d))),(4,.int .i64 (nA (aZ t.h) (aZ t.i) (aZ t.s)))]) (λ_=>[]) .p16 be ?_ ?_
  ·refine xn ?_;repeat' first|exact .n|apply Lc.mk
   all_goals intros
   all_goals exact⟨(),⟨rfl,rfl,rfl,trivial⟩,rfl⟩
  ·intro _;exact eK
 clear h1 h2;generalize nA (aZ t.y) (aZ t.m) (aZ t.d)=D at*
 generalize nA (aZ t.h) (aZ t.i) (aZ t.s)=T at*
 refine cut hC hGL [(1,.rop t.R 0),(3,.int .i64 D),(4,.int .i64 T)] [] (0<=D/\0<=T/\¬(D=0/\T=0)) ?_ λp1=> ?_
 ·clear hE2 hE0;refine xw ?_;repeat' first|exact .n|apply Lc.mk
  all_goals intros
  all_goals first|omega|(apply aj;refine congrArg (AVal.int .i64) ?_;rw[hE3 (λk=>by have:=k.1;omega)])
 refine cut hC hGL [(1,.rop t.R 0),(3,.int .i64 D),(4,.int .i64 T)] [] (0<D/\0<T->(D=3\/D=5\/D=6)/\T<=3) ?_ λp2=> ?_
 ·clear hE2 hE0;refine xw ?_;repeat' first|exact .n|apply Lc.mk
  all_goals intros
  all_goals first|omega|(apply aj;refine congrArg (AVal.int .i64) ?_;rw[hE3 (λk=>by have:=k.1.2.2.2;omega)])
 refine cut hC hGL [(1,.rop t.R 0)] [] ((t.z=true->t.h≠ -1)/\(t.z=false->t.o=0)) ?_ λp3=> ?_
 ·clear hE2 hE0 p1 p2;refine xw ?_;repeat' first|exact .n|apply Lc.mk
  all_goals intros
  all_goals first
   |exact Bool.noConfusion ((show t.z=true by assumption).symm.trans (show t.z=false by assumption))
   |exact⟨λ_=>by assumption,λk=>Bool.noConfusion ((show t.z=true by assumption).symm.trans k)⟩
   |exact⟨λk=>Bool.noConfusion (k.symm.trans (show t.z=false by assumption)),λ_=>by assumption⟩
   |(apply aj;refine congrArg (AVal.int .i64) ?_;rw[hE3 (λk=>by have:=k.2;rw[if_pos (by assumption)] at this;omega)])
   |(apply aj;refine congrArg (AVal.int .i64) ?_;rw[hE3 (λk=>by have:=k.2;rw[if_neg (by rw[show t.z=false by assumption];decide)] at this;omega)])
 have hF:(0<=D/\0<=T/\¬(D=0/\T=0)/\(0<D/\0<T->(D=3\/D=5\/D=6)/\T<=3))/\(if t.z=true then t.h≠ -1 else t.o=0):=by
  refine⟨⟨p1.1,p1.2.1,p1.2.2,p2⟩,?_⟩;split
  ·exact p3.1 (by assumption)
  ·rename_i k;exact p3.2 (by simpa using k)
 have key2:=hE2 hF;have key0:=hE0 hF;clear hE2 hE0 hE3 hF p1 p2 p3;refine cut hC hGL [(1,.rop t.R 0),(5,.int .i64 31)] [] True ?_ λ_=> ?_
 ·exact bq
 refine gr hC hGL (λq:Int=>[(1,.rop t.R 0),(5,.int .i64 q)]) (λ_=>[]) (λq=>q=t.day) ?_ λq hq=> ?_
 ·refine xw ?_;repeat' first|exact .n|apply Lc.mk
  all_goals intros
  all_goals first
   |exact cy _ (by unfold Stm.day;rw[if_neg (by assumption)])
   |exact cy _ (by unfold Stm.day;rw[if_pos (by assumption)])
 subst hq;refine cut hC hGL [(1,.rop t.R 0)] [] (∀j,j<6->Hv t j=true) ?_ λhj=> ?_
 ·refine aH ?_;refine lp hC hGL (λ(k:Nat)=>[(1,.rop t.R 0),(104,_),(105,.int .i64 6),(106,.int .i64 (k:Nat))]) (λ_=>[]) (λk=>k<=6/\∀j,j<k->Hv t j=true) (λk=>6-k) 0 ?_ ae rfl ?_
  ·exact⟨a_,λj hj=>absurd hj a_⟩
  rintro k ⟨hk,hj⟩;rcases(show k=0\/k=1\/k=2\/k=3\/k=4\/k=5\/k=6 by omega) with rfl|rfl|rfl|rfl|rfl|rfl|rfl
  all_goals
   refine xw ?_;repeat' first|exact .n|apply Lc.mk
   all_goals intros
   all_goals try simp only[X7,X8] at*
   all_goals first
    |exact hj _ (by assumption)
    |exact fG 1 ⟨b_,mZ hj (wT a_)⟩ b_ ae aA
    |exact fG 2 ⟨b_,mZ hj (wT a_)⟩ b_ ae aA
    |exact fG 3 ⟨b_,mZ hj (wT a_)⟩ b_ ae aA
    |exact fG 4 ⟨b_,mZ hj (wT a_)⟩ b_ ae aA
    |exact fG 5 ⟨b_,mZ hj (wT a_)⟩ b_ ae aA
    |exact fG 6 ⟨b_,mZ hj (wT a_)⟩ b_ ae aA
    |(apply aj;refine congrArg (AVal.int .i64) ?_;first
     |rw[key2 (tE 0 (wF a_))]
     |rw[key2 (tE 1 (wF a_))]
     |rw[key2 (tE 2 (wF a_))]
     |rw[key2 (tE 3 (wF a_))]
     |rw[key2 (tE 4 (wF a_))]
     |rw[key2 (tE 5 (wF a_))])
 refine ar hC hGL ?_;refine xw ?_;repeat' first|exact .n|apply Lc.mk
 all_goals intros
 all_goals (apply aj;refine congrArg (AVal.int .i64) ?_;first|rw[key0 (Ww hj (by assumption))]|rw[key2 (YA (by assumption))])
end
section
def ZF (i k:Nat):Bool:=([[false,false,false],[true,false,false],[true,true,false],[true,true,true],[false,true,false],[false,true,true],[false,false,true]].getD i []).getD k false
def gq (s:ω)(a b:Nat):Prop:=∀j,a<=j->j<b->48<=aa s j/\aa s j<=57
theorem YU {α:Type}{l:List α}(h:l.length=4):∃a b c d,l=[a,b,c,d]:=by
 match l,h with
 |[a,b,c,d],_=>exact⟨a,b,c,d,rfl⟩
theorem Zm {s:ω}(hl:s.length=4)(hd:gq s 0 4):Lib.atoiAll s= .ok (kF s 0):=by
 obtain⟨a,b,c,d,rfl⟩:=YU hl;have ha:48<=a.toNat/\a.toNat<=57:=hd 0 a_ a_;have hb:48<=b.toNat/\b.toNat<=57:=hd 1 a_ a_;have hc:48<=c.toNat/\c.toNat<=57:=hd 2 a_ a_;have hdd:48<=d.toNat/\d.toNat<=57:=hd 3 a_ a_;have e:kF [a,b,c,d] 0=10*(10*(10*((a.toNat:Int)-48)+((b.toNat:Int)-48))+((c.toNat:Int)-48))+((d.toNat:Int)-48):=rfl;have p:Lib.parseUint10 0 [a,b,c,d]= .ok ((((0*10+(a.toNat-48))*10+(b.toNat-48))*10+(c.toNat-48))*10+(d.toNat-48)):=by
  rw[Lib.parseUint10,if_pos ha,if_neg a_,if_neg a_,Lib.parseUint10,if_pos hb,if_neg a_,if_neg a_,Lib.parseUint10,if_pos hc,if_neg a_,if_neg a_,Lib.parseUint10,if_pos hdd,if_neg a_,if_neg a_,Lib.parseUint10]
 unfold Lib.atoiAll;dsimp only
 rw[if_neg a_];unfold Lib.parseMag;rw[if_neg (by simp),p];dsimp only
 rw[if_neg a_,if_neg a_,if_neg a_,e];congr 1
 omega
theorem NH {G:Glo}(s:ω)(hl:s.length=4)(hd:gq s 0 4):ai prog G 118 [.str s] (.tuple [.int .i64 (kF s 0),.raw .nilIface]):=by
 have ha:=Zm hl hd;refine iC (.tuple #[.int .i64 (kF s 0),.nilIface]) (λR=>nc (ap.2 rfl) (aq.2 rfl)) call118 ?_;intro R args hr w _ _;obtain⟨x,t,e',hx,rfl⟩:=hr;obtain rfl:=aD.1 hx;obtain rfl:=fR e';refine(strconv_Atoi_ok ⟨s.toArray⟩ (by rw[bM];omega) _ (by simpa using ha) w).mono ?_;rintro e w' ⟨rfl,hw⟩;refine⟨rfl,?_⟩;rcases hw with rfl|⟨t,rfl⟩
 ·exact Below.refl _ _
 ·exact⟨rfl,rfl,rfl,by rw[Lib.bytesWorld_size];omega,λk hk=>Lib.bytesWorld_at_old _ _ _ _ hk⟩
abbrev LF (b:Nat)(t:ω):HEnt:=.cells b (some 9) [.str t]
theorem lE {G:Glo}{m:Int}(hM:ab G (bQ m))(i k:Nat)(hi:i<=6)(hk:k<3):ai prog G 146 [.str (kn i),.str (([97,98,99].take (k+1)).drop k)] (.bool (ZF i k)):=by
 have:=jO (G:=G) hM (kn i) (([97,98,99].take (k+1)).drop k);rcases(show k=0\/k=1\/k=2 by omega) with rfl|rfl|rfl<;>rcases(show i=0\/i=1\/i=2\/i=3\/i=4\/i=5\/i=6 by omega) with rfl|rfl|rfl|rfl|rfl|rfl|rfl<;>exact this b_
def sY (i:Nat)(s:ω):Int:=if i=1\/i=2\/i=3 then kF s 0 else-1
def sM (i:Nat)(s:ω):Int:=if i=2\/i=3 then dx s 4 else if i=4\/i=5 then dx s 0 else-1
def sD (i:Nat)(s:ω):Int:=if i=3 then dx s 6 else if i=5 then dx s 2 else if i=6 then dx s 0 else-1
def sH (i:Nat)(s:ω):Int:=if i=1\/i=2\/i=3 then dx s 0 else-1
def sI (i:Nat)(s:ω):Int:=if i=2\/i=3 then dx s 2 else if i=4\/i=5 then dx s 0 else-1
def sS (i:Nat)(s:ω):Int:=if i=3 then dx s 4 else if i=5 then dx s 2 else if i=6 then dx s 0 else-1
def dN (i:Nat):Nat:=[0,4,6,8,2,4,2].getD i 0
def cN (i:Nat):Nat:=[0,2,4,6,2,4,2].getD i 0
def Vc (i j:Nat)(d c z:ω):Stm×Int:=
 if z≠[]/\(bN z).2≠0 then(Stm.no,(bN z).2)
 else if(⟨sY i d,sM i d,sD i d,sH j c,sI j c,sS j c,decide (z≠[]),if z=[] then 0 else(bN z).1⟩:Stm).e=0 then(⟨sY i d,sM i d,sD i d,sH j c,sI j c,sS j c,decide (z≠[]),if z=[] then 0 else(bN z).1⟩,0)
 else(Stm.no,(⟨sY i d,sM i d,sD i d,sH j c,sI j c,sS j c,decide (z≠[]),if z=[] then 0 else(bN z).1⟩:Stm).e)
theorem ga {s:ω}{a b:Nat}:dx (s.drop a) b=dx s (a+b):=by
 unfold dx bU;rw[cW,cW,Nat.add_assoc]
attribute [local irreducible] bJ au aa ax aR ab ad Lib.contains
theorem B5 {G:Glo}(b:Nat)(t:ω)(h4:4<=t.length)(hl:t.length<=1000000)(hd:gq t 0 4):ad prog G 184 [.raw (pW b),.int .i64 4] [LF b t] (λr H=>r= .ret (.int .i64 (kF t 0))/\H=[LF b (t.drop 4)]):=by
 have k0:ai prog G 118 [.str (t.take 4)] (.tuple [.int .i64 (kF t 0),.raw .nilIface]):=by
  have:=NH (G:=G) (t.take 4) (by rw[i_];omega) (λj h1 h2=>by rw[ir h2];exact hd j h1 h2);have e:kF (t.take 4) 0=kF t 0:=by unfold kF bU;rw[ir a_,ir a_,ir a_,ir a_]
  rwa [e] at this
 have hGL:ab G []:=al;refine lU [(0,0,pW b)] func184 call184 rfl rfl rfl rfl (by repeat (first|exact trivial|refine And.intro ⟨rfl,rfl⟩ ?_)) ?_;intro C hC;exact ar hC hGL bq
theorem gu {G:Glo}(b:Nat)(t:ω)(h4:2<=t.length)(hl:t.length<=1000000)(hd:gq t 0 2):ad prog G 184 [.raw (pW b),.int .i64 2] [LF b t] (λr H=>r= .ret (.int .i64 (dx t 0))/\H=[LF b (t.drop 2)]):=by
 have k0:ai prog G 118 [.str (t.take 2)] (.tuple [.int .i64 (dx t 0),.raw .nilIface]):=by
  have:=zd (G:=G) (t.take 2) (by rw[i_];omega) (by rw[ir a_];exact hd 0 a_ a_) (by rw[ir a_];exact hd 1 a_ a_);have e:10*bU (t.take 2) 0+bU (t.take 2) 1=dx t 0:=by unfold dx bU;rw[ir a_,ir a_]
  rwa [e] at this
 have hGL:ab G []:=al;refine lU [(0,0,pW b)] func184 call184 rfl rfl rfl rfl (by repeat (first|exact trivial|refine And.intro ⟨rfl,rfl⟩ ?_)) ?_;intro C hC;exact ar hC hGL bq
end
end Go.Proofs.YtgpjhbhdbjdlgaaGreatDoor
