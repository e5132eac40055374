/- Parts of the proof of jcardTells_card: Lai, Lu, Tjk, Esl, Whc, Mps, Tra, Trb, Whd, Whe, Whf, Whg, Whh, Big, Upt, Lnb, Whi. -/
import Derived.Lib.ItoaNum
import Derived.Deep.Strs
import Derived.Shelf.Vars
import Derived.SizedLaws
import Derived.Test.YtdpbejofgemloaaGreatDoorBaf
import Derived.Test.YtdpbejofgemloaaGreatDoorBaj
import Derived.Test.YtdpbejofgemloaaGreatDoorBai
import Derived.Test.YtdpbejofgemloaaGreatDoorBag
import Derived.Test.YtdpbejofgemloaaGreatDoorBae
import Derived.Test.YtdpbejofgemloaaGreatDoorBad
import Derived.Test.YtdpbejofgemloaaGreatDoorBah
import Derived.Test.YtdpbejofgemloaaGreatDoorBac
set_option linter.unusedVariables false
set_option linter.unusedSimpArgs false
set_option linter.unusedSectionVars false
namespace Go.Proofs.YtdpbejofgemloaaGreatDoor
set_option maxRecDepth 20000
set_option maxHeartbeats 4000000
section
open Go
theorem xj {α β:Type}(k:Nat)(E:α→List β)(hE:∀z,(E z).length=k):∀(zs:List α) (cs:List β),cs.length=zs.length*k→
  (∀i z,zs[i]? =some z→(cs.drop (i*k)).take k=E z)→cs=zs.flatMap E
 |[],cs,hl,_=>by
  simp only[List.length_nil,Nat.zero_mul] at hl
  simp[List.eq_nil_of_length_eq_zero hl]
 |z::zs,cs,hl,h=>by
  have h0:=h 0 z rfl
  simp only[Nat.zero_mul,List.drop_zero] at h0
  have hr:=xj k E hE zs (cs.drop k) (by rw[List.length_drop,hl,List.length_cons,Nat.succ_mul];omega) (fun i y hy=>by
   have:=h (i+1) y hy
   rw[List.drop_drop]
   rw[Nat.succ_mul,Nat.add_comm] at this
   exact this)
  rw[List.flatMap_cons,←h0,←hr,List.take_append_drop]
theorem lQ {R:Seal}:∀(l:List (IntKind×Int)),RelL R (l.map fun x=>.int x.1 x.2) (l.map fun x=>.int x.1 x.2)
 |[]=>rfl
 |_::l=>⟨_,_,rfl,rfl,lQ l⟩
section
variable {P:Program} {H:Type} {enc:TypeId×Value→H} {w:World} {base:Nat} {spare:Nat→Bool} {held:Bool}
theorem lC {t e n fuel:Nat}{k:IntKind}{cs:List Value}{ps:List MemPlace}{zs:List Nat}(ht:P.underlying t=some (.array n e))(he:P.underlying e=some (.int k))(hc:P.cellsOf e=1)(hct:P.cellsOf t=n)
  (h:DataW.trod enc P w base spare held fuel t cs=some (.agg (zs.map fun x:Nat=>.lit (.int k (x:Int))),ps)) (hz:zs.length=n):cs=zs.flatMap fun x:Nat=>[Value.int k (x:Int)]:=by
 obtain⟨xs,m,_,ex,hl,hxl,hel⟩:=DataW.trod_array ht h
 have e3:(xs.map (·.1))=zs.map fun x:Nat=>.lit (.int k x):=(DataW.agg.inj (Prod.mk.inj ex).1).symm
 refine xj 1 _ (fun _=>rfl) zs cs (by omega) (fun i z hi=> ?_)
 have hin:i<zs.length:=(List.getElem?_eq_some_iff.1 hi).1
 have hE:=hel i (by omega)
 rw[hc,List.getElem?_eq_getElem (by omega)] at hE
 obtain⟨y,e1,e2,_⟩:=DataW.trod_int he hE
 have e4:(xs.map (·.1))[i]? =(zs.map fun x:Nat=>(DataW.lit (.int k x):DataW H))[i]? :=by rw[e3]
 rw[List.getElem?_map,List.getElem?_map,List.getElem?_eq_getElem (by omega:i<xs.length),hi,e2] at e4
 simp only[Option.map_some,Option.some.injEq,DataW.lit.injEq,Lit.int.injEq,true_and] at e4
 rw[e1,e4]
end
theorem gJ {P:Program}{W:World}{laid:List (String×DataW Unit)}(hL:laidMetH P laid W){n:String}{d:DataW Unit}(hm:(n,d)∈laid)(hn:d.handleName?.isNone=true){g:Nat}{t:TypeId}(hg:P.globalNamed n=some g)(ht:(P.globals[g]?).map (·.type)=some t):
  ∃cs e fz fuel p,W.heap[g]? =some (.cells cs e fz)∧DataW.trod (fun _=>()) P W 0 (fun _=>true) false fuel t cs.toList=some (d,p):=by
 have h1:=(laidMetH_iff.1 hL).1
 obtain⟨ps,h,_⟩:=h1
 have key:∀(l:List (String×DataW Unit)) (ps:List MemPlace),DataW.LaidVars P W l ps→(n,d)∈l→∃cs e fz fuel p,W.heap[g]? =some (.cells cs e fz)∧DataW.trod (fun _=>()) P W 0 (fun _=>true) false fuel t cs.toList=some (d,p):=by
  intro l
  induction l with
  |nil=>intro ps _ hm;cases hm
  |cons a r ih=>
   obtain⟨m,b⟩:=a
   rintro ps ⟨g',t',cs,fuel,p,q,e1,e2,e3,e4,e5,_⟩ hm
   rcases List.mem_cons.1 hm with hm|hm
   ·cases hm
    obtain rfl:=Option.some.inj (hg.symm.trans e1)
    obtain rfl:=Option.some.inj (ht.symm.trans e2)
    obtain⟨e,fz,hh⟩:=nx hg e3
    exact⟨cs,e,fz,fuel,p,hh,e4⟩
   ·exact ih q e5 hm
 exact key _ ps h (List.mem_filter.2 ⟨hm,hn⟩)
theorem BU {W:World}(h:W.ShapedOpen Tryz.prog):∃m,W.cell? ⟨4,0,none⟩=some (.int .i64 m):=
 cell_of_shapedOpen_int (t:=3) (zero:=#[.int .i64 0]) h (of_decide_eq_true (by kernel_rfl)) (by kernel_rfl) rfl (by kernel_rfl) (by kernel_rfl) Tryz.underlying3
theorem wn {W:World}{k:Nat}(hk:4<k){m:Int}(h:W.cell? ⟨4,0,none⟩=some (.int .i64 m)):bX (az W k) 4 0 [.int .i64 m]:=by
 unfold World.cell? at h
 split at h
 ·rename_i C e fz hW
  refine dv hk hW ?_
  have h:C[0]? =some (.int .i64 m):=h
  have h0:=(Array.getElem?_eq_some_iff.1 h)
  obtain⟨hlt,h1⟩:=h0
  have e1:C.toList.take 1=[.int .i64 m]:=by
   have hl:0<C.toList.length:=by simpa using hlt
   have:=List.take_succ_eq_append_getElem (l:=C.toList) (i:=0) hl
   simp at this
   rw[show(1:Nat)=0+1 from rfl,List.take_succ_eq_append_getElem hl]
   simp[h1]
  show RelL _ _ (C.toList.take 1)
  rw[e1]
  exact⟨_,_,rfl,rfl,rfl⟩
 ·cases h
def rW (A B:Glo):Glo:=⟨fun R=>A.p R∧B.p R,fun R R' h k=>⟨A.mono R R' h k.1,B.mono R R' h k.2⟩⟩
theorem kY {A B:Glo}{L:List (Nat×List AVal)}(h:ad A L):ad (rW A B) L:=fun g cs hg R hR=>h g cs hg R hR.1
def Cr:Glo:=⟨fun R=>∃e fz,R 10=some (.cells (Lib.pow10Tab.map fun z=>Value.int .u64 z).toArray e fz),fun _ _ hle ⟨e,fz,h⟩=>⟨e,fz,hle _ _ h⟩⟩
theorem BD {W:World}{k:Nat}(hk:10<k){laid:List (String×DataW Unit)}(hL:laidMetH Tryz.prog laid W)(hm:("internal/strconv.uint64pow10",Rows.laid_internal_strconv_uint64pow10)∈laid):Cr.p (az W k):=by
 obtain⟨C,e,fz,fuel,p,hW,hd⟩:=gJ hL hm (by kernel_rfl) (g:=10) (t:=309) (by kernel_rfl) (by kernel_rfl)
 have hc:=lC (n:=20) (zs:=(List.range 20).map (10^ ·)) Tryz.underlying309 Tryz.underlying275 (by kernel_rfl) (by kernel_rfl) hd (by simp)
 have e1:C=(Lib.pow10Tab.map fun z=>Value.int .u64 z).toArray:=by
  apply Array.ext'
  rw[hc]
  unfold Lib.pow10Tab
  simp
  rfl
 refine⟨e,fz,?_⟩
 unfold az
 rw[if_pos hk,hW,e1]
theorem iP {W:World}{g:Nat}{o:Obj}(h:W.heap[g]? =some o):g<W.heap.size:=(Array.getElem?_eq_some_iff.1 h).1
theorem nb {W:World}{laid:List (String×DataW Unit)}(hL:laidMetH Tryz.prog laid W){n:String}{d:DataW Unit}(hm:(n,d)∈laid)(hn:d.handleName?.isNone=true){g:Nat}{t:TypeId}(hg:Tryz.prog.globalNamed n=some g)(ht:(Tryz.prog.globals[g]?).map (·.type)=some t):g<W.heap.size:=by
 obtain⟨_,_,_,_,_,hW,_⟩:=gJ hL hm hn hg ht
 exact iP hW
end
section
open Go
section
variable {P:Program} {H:Type} {enc:TypeId×Value→H} {w:World} {base:Nat} {spare:Nat→Bool} {held:Bool}
theorem vC {t e n fuel u:Nat}{k:IntKind}{f0 f1:Field}{cs:List Value}{ps:List MemPlace}{zs:List (Nat×Nat)}(ht:P.underlying t=some (.array n e))(he:P.underlying e=some (.struct #[f0,f1]))(hc:P.cellsOf e=2)(hct:P.cellsOf t=n*2)
  (hf0:f0.type=u) (hf1:f1.type=u) (ho0:f0.offset=0) (ho1:f1.offset=1) (hu:P.underlying u=some (.int k)) (hcu:P.cellsOf u=1)
  (h:DataW.trod enc P w base spare held fuel t cs=some (.agg (zs.map fun x:Nat×Nat=>.agg [.lit (.int k (x.1:Int)),.lit (.int k (x.2:Int))]),ps)) (hz:zs.length=n):cs=zs.flatMap fun x:Nat×Nat=>[Value.int k (x.1:Int),Value.int k (x.2:Int)]:=by
 obtain⟨xs,m,_,ex,hl,hxl,hel⟩:=DataW.trod_array ht h
 have e3:(xs.map (·.1))=zs.map fun x:Nat×Nat=>.agg [.lit (.int k x.1),.lit (.int k x.2)]:=(DataW.agg.inj (Prod.mk.inj ex).1).symm
 refine xj 2 _ (fun _=>rfl) zs cs (by omega) (fun i z hi=> ?_)
 have hin:i<zs.length:=(List.getElem?_eq_some_iff.1 hi).1
 have hE:=hel i (by omega)
 rw[hc,List.getElem?_eq_getElem (by omega)] at hE
 generalize hcc:(cs.drop (i*2)).take 2=c at hE
 obtain⟨y0,y1,m',e2,hl2,h0,h1⟩:=Go.ChangeShapes.trod_struct2 he hE
 rw[hf0,ho0,hcu] at h0
 rw[hf1,ho1,hcu] at h1
 obtain⟨a0,c0,d0,_⟩:=DataW.trod_int hu h0
 obtain⟨a1,c1,d1,_⟩:=DataW.trod_int hu h1
 have e4:(xs.map (·.1))[i]? =(zs.map fun x:Nat×Nat=>(DataW.agg [.lit (.int k x.1),.lit (.int k x.2)]:DataW H))[i]? :=by rw[e3]
 rw[List.getElem?_map,List.getElem?_map,List.getElem?_eq_getElem (by omega:i<xs.length),hi,e2,d0,d1] at e4
 simp only[Option.map_some,Option.some.injEq,DataW.agg.injEq,List.cons.injEq,DataW.lit.injEq,Lit.int.injEq,true_and,and_true] at e4
 rw[hc] at hl2
 match c,hl2 with
 |[x0,x1],_=>
  simp only[List.drop_zero,List.take_succ_cons,List.take_zero,List.cons.injEq,and_true,List.drop_succ_cons] at c0 c1
  rw[c0,c1,e4.1,e4.2]
end
theorem wP {W:World}{k:Nat}(hk:6<k){laid:List (String×DataW Unit)}(hL:laidMetH Tryz.prog laid W)(hm:("unicode/utf8.first",Rows.laid_unicode_utf8_first)∈laid):bX (az W k) 6 0 firstTab:=by
 obtain⟨C,e,fz,fuel,p,hW,hd⟩:=gJ hL hm (by kernel_rfl) (g:=6) (t:=131) (by kernel_rfl) (by kernel_rfl)
 refine dv hk hW ?_
 have hc:=lC (n:=256) (zs:=Go.Pinned.utf8FirstZ) Tryz.underlying131 Tryz.underlying5 (by kernel_rfl) (by kernel_rfl) hd (by kernel_rfl)
 have e1:firstTab=(Go.Pinned.utf8FirstZ.map fun x:Nat=>(IntKind.u8,(x:Int))).map fun x=>.int x.1 x.2:=by simp[firstTab]
 have e2:C.toList.take firstTab.length=(Go.Pinned.utf8FirstZ.map fun x:Nat=>(IntKind.u8,(x:Int))).map fun x=>.int x.1 x.2:=by
  have:C.toList=Go.Pinned.utf8FirstZ.map fun x:Nat=>Value.int .u8 (x:Int):=by
   rw[hc];generalize Go.Pinned.utf8FirstZ=l;induction l<;>simp_all
  rw[this,List.take_of_length_le (by simp[firstTab])]
  simp
 rw[e2,e1]
 exact lQ _
def y4:List (Nat×Nat):=[(128,191),(160,191),(128,159),(144,191),(128,143),(0,0),(0,0),(0,0),(0,0),(0,0),(0,0),(0,0),(0,0),(0,0),(0,0),(0,0)]
theorem vq {W:World}{k:Nat}(hk:7<k){laid:List (String×DataW Unit)}(hL:laidMetH Tryz.prog laid W)(hm:("unicode/utf8.acceptRanges",Rows.laid_unicode_utf8_acceptRanges)∈laid):bX (az W k) 7 0 acceptTab:=by
 obtain⟨C,e,fz,fuel,p,hW,hd⟩:=gJ hL hm (by kernel_rfl) (g:=7) (t:=268) (by kernel_rfl) (by kernel_rfl)
 refine dv hk hW ?_
 rw[vC (n:=16) (zs:=y4) Tryz.underlying268 Tryz.underlying267 (by kernel_rfl) (by kernel_rfl) rfl rfl rfl rfl Tryz.underlying5 (by kernel_rfl) hd (by kernel_rfl)]
 exact lQ ((y4.flatMap fun x:Nat×Nat=>[x.1,x.2]).map fun x:Nat=>(IntKind.u8,(x:Int)))
end
section
open Go Go.RowKit
attribute [local irreducible] AWp AOps aa aA OrOk ad ah
attribute [local irreducible] escF escS
theorem nR {G:Glo}(s:List UInt8)(hl:s.length≤2000000):FnIs Tryz.prog G 42 [.str s] (.str (escS s)):=by
 have hGL:ad G []:=ab
 refine fn_x Tryz.func42 Tryz.call42 rfl rfl rfl rfl hGL ?_
 intro C hC
 refine xw1 ?_
 intros
 refine lp hC hGL (fun i:Nat=>[(0,.str s),(3,.str (escS (s.take i))),(6,.int .i64 (s.length:Nat)),(7,.int .i64 (i:Nat))]) (fun _=>[]) (fun i=>i≤s.length) (fun i=>s.length-i) 0 (Nat.zero_le _) ⟨rfl,?_,rfl,rfl,trivial⟩ rfl ?_
 ·show some (AVal.str [])=some (AVal.str (escS (s.take 0)))
  rw[List.take_zero,fh]
 ·intro i hi
  have e1:=(fi (s.take i)).2
  rw[List.length_take,Nat.min_eq_left hi] at e1
  by_cases hlt:i<s.length
  ·have et:=jo hlt
   have hb0:=ju hlt
   have hby:=aO s i
   have hone:(s.take (i+1)).drop i=[s[i]]:=by rw[List.drop_take,show i+1-i=1 by omega,List.drop_eq_getElem_cons hlt];rfl
   have hlo:((s.take (i+1)).drop i).length=1:=by rw[hone];rfl
   rcases(show(aa s i=92∨aa s i=44∨aa s i=59)∨aa s i=10∨(aa s i≠92∧aa s i≠44∧aa s i≠59∧aa s i≠10) by omega) with hk|hk|⟨k1,k2,k3,k4⟩
   ·have he:escF s[i]=[92]++(s.take (i+1)).drop i:=by
     rw[hone]
     rcases hk with hk|hk|hk
     all_goals rw[(u8_k (by decide)).2 (hb0.symm.trans hk)]
     ·exact r9
     ·exact sb
     ·exact sa
    refine xw ?_
    repeat' (first|exact Le.n|refine Lc.mk ?_ ?_)
    all_goals intros
    all_goals first
     |(refine nxt (i+1) ?_ ?_ ⟨rfl,?_,rfl,rfl,trivial⟩ rfl;exact hlt;(show s.length-(i+1)<s.length-i;omega);(rw[et,he];rfl))
     |skip
   ·have he:escF s[i]=[92,110]:=by rw[(u8_k (by decide)).2 (hb0.symm.trans hk)];exact sc
    refine xw ?_
    repeat' (first|exact Le.n|refine Lc.mk ?_ ?_)
    all_goals intros
    all_goals first
     |(refine nxt (i+1) ?_ ?_ ⟨rfl,?_,rfl,rfl,trivial⟩ rfl;exact hlt;(show s.length-(i+1)<s.length-i;omega);(rw[et,he];rfl))
     |skip
   ·have he:escF s[i]=(s.take (i+1)).drop i:=by
     rw[hone]
     exact ld (by rw[←hb0];exact k1) (by rw[←hb0];exact k2) (by rw[←hb0];exact k3) (by rw[←hb0];exact k4)
    refine xw ?_
    repeat' (first|exact Le.n|refine Lc.mk ?_ ?_)
    all_goals intros
    all_goals first
     |(refine nxt (i+1) ?_ ?_ ⟨rfl,?_,rfl,rfl,trivial⟩ rfl;exact hlt;(show s.length-(i+1)<s.length-i;omega);(rw[et,he];rfl))
     |skip
  ·have h9:escS (s.take i)=escS s:=by rw[List.take_of_length_le (by omega)]
   refine xw1 ?_
   intros
   apply ak
   rw[h9]
end
section
open Go Go.RowKit
attribute [local irreducible] AWp AOps aA OrOk ad ah
attribute [local irreducible] fJ Lv AWpD To
def newC (u:Value):List AVal:=[.int .u32 0,.int .i32 0,.int .u32 0,.raw .nilIface,.own 0 u]
theorem rI {G:Glo}(m:Nat)(f:Nat→AVal)(hm:m≤1000)(h2:m%2=0)(hs:aA 1 m f):ah Tryz.prog G 100 [.list 1 m f] [] (fun r H=>∃bl va vk vc,RowV m va vk∧r= .ret (.own 1 (pv bl 0))∧H=[.row (.slice va vk vc) none 1 m (cg m f),.cells bl (some 209) (newC (.slice va vk vc))]):=by
 have hGL:ad G []:=ab
 refine fn_x Tryz.func100 Tryz.call100 rfl rfl rfl rfl hGL ?_
 intro C hC
 repeat' (first|(conv=>whnf);first|refine .w ?_|refine .v ?_|refine sc_c ?_ ?_<;>(intro hb;try exact dd hb)|apply ao|apply aG|(apply sc_i<;>intro hb)|(apply bx_i;intro hbd)|(apply ax;first|fail)|(apply aw (i:=0) rfl;first|fail)|(apply ab_i;intro bl)|(apply as_i;intro va vk vc hva)|(apply av_i;intro v)|(apply ac_i;intro bl cap hcap)|apply bo_r|(apply nx_i<;>intro hnx)|exact True.intro|(apply bc_i;intro C hC)|apply bt_i|apply og_n|(apply og_a;exact rfl)|(show Rt _ _ _;exact rt_w)|fail)
 all_goals try conv=>whnf
 exact⟨_,List.Sublist.refl _,bl,va,vk,vc,hva,rfl,rfl⟩
abbrev escO (br vc:Nat):HEnt:=HEnt.row (.slice (some ⟨br,0,none⟩) 8 vc) none 1 8 [.str [92],.str [92,92],.str [44],.str [92,44],.str [59],.str [92,59],.str [10],.str [92,110]]
abbrev escH (br bl vc:Nat)(cs:List AVal)(va:Option Addr)(vk vt bz b1 c1 b2 c2 b3 c3 b4 c4:Nat):Heap:=[escO br vc,.cells bl (some 209) cs,.row (.slice va vk vt) (some 9) 1 4 [.str [10],.str [59],.str [44],.str [92]],.cells bz (some 302) (tabE (.own 4 (.slice (some ⟨b1,0,none⟩) 2 c1)) (.own 5 (.slice (some ⟨b2,0,none⟩) 2 c2)) (.own 6 (.slice (some ⟨b3,0,none⟩) 2 c3)) (.own 7 (.slice (some ⟨b4,0,none⟩) 2 c4)) (.own 2 (.slice va vk vt))),.buf b1 [92,110] c1,.buf b2 [92,59] c2,.buf b3 [92,44] c3,.buf b4 [92,92] c4]
theorem Ap {G:Glo}(br bl vc:Nat):ah Tryz.prog G 181 [.raw (pv bl 0)] [escO br vc,.cells bl (some 209) ((newC (.slice (some ⟨br,0,none⟩) 8 vc)).set 1 (.int .i32 1))]
  (fun r H=>∃va vk vt bz b1 c1 b2 c2 b3 c3 b4 c4,RowV 4 va vk∧r= .ret (.iface 303 (.own 3 (pv bz 0)))∧H=escH br bl vc ((newC (.slice (some ⟨br,0,none⟩) 8 vc)).set 1 (.int .i32 1)) va vk vt bz b1 c1 b2 c2 b3 c3 b4 c4):=by
 have hGL:ad G []:=ab
 unfold newC
 refine gh 1 Tryz.func181 Tryz.call181 rfl rfl rfl rfl hGL rfl ?_
 intro C hC
 refine xn1 ?_
 intros
 have d0:([.str [92],.str [92,92],.str [44],.str [92,44],.str [59],.str [92,59],.str [10],.str [92,110]]:List AVal)[0]? =some (.str [92]):=rfl
 have r0:cD (.slice (some ⟨br,0,none⟩) 8 vc) br 8∧0<8*1:=⟨⟨_,rfl⟩,by decide⟩
 have d1:([.str [92],.str [92,92],.str [44],.str [92,44],.str [59],.str [92,59],.str [10],.str [92,110]]:List AVal)[1]? =some (.str [92,92]):=rfl
 have r1:cD (.slice (some ⟨br,0,none⟩) 8 vc) br 8∧1<8*1:=⟨⟨_,rfl⟩,by decide⟩
 have d2:([.str [92],.str [92,92],.str [44],.str [92,44],.str [59],.str [92,59],.str [10],.str [92,110]]:List AVal)[2]? =some (.str [44]):=rfl
 have r2:cD (.slice (some ⟨br,0,none⟩) 8 vc) br 8∧2<8*1:=⟨⟨_,rfl⟩,by decide⟩
 have d3:([.str [92],.str [92,92],.str [44],.str [92,44],.str [59],.str [92,59],.str [10],.str [92,110]]:List AVal)[3]? =some (.str [92,44]):=rfl
 have r3:cD (.slice (some ⟨br,0,none⟩) 8 vc) br 8∧3<8*1:=⟨⟨_,rfl⟩,by decide⟩
 have d4:([.str [92],.str [92,92],.str [44],.str [92,44],.str [59],.str [92,59],.str [10],.str [92,110]]:List AVal)[4]? =some (.str [59]):=rfl
 have r4:cD (.slice (some ⟨br,0,none⟩) 8 vc) br 8∧4<8*1:=⟨⟨_,rfl⟩,by decide⟩
 have d5:([.str [92],.str [92,92],.str [44],.str [92,44],.str [59],.str [92,59],.str [10],.str [92,110]]:List AVal)[5]? =some (.str [92,59]):=rfl
 have r5:cD (.slice (some ⟨br,0,none⟩) 8 vc) br 8∧5<8*1:=⟨⟨_,rfl⟩,by decide⟩
 have d6:([.str [92],.str [92,92],.str [44],.str [92,44],.str [59],.str [92,59],.str [10],.str [92,110]]:List AVal)[6]? =some (.str [10]):=rfl
 have r6:cD (.slice (some ⟨br,0,none⟩) 8 vc) br 8∧6<8*1:=⟨⟨_,rfl⟩,by decide⟩
 have d7:([.str [92],.str [92,92],.str [44],.str [92,44],.str [59],.str [92,59],.str [10],.str [92,110]]:List AVal)[7]? =some (.str [92,110]):=rfl
 have r7:cD (.slice (some ⟨br,0,none⟩) 8 vc) br 8∧7<8*1:=⟨⟨_,rfl⟩,by decide⟩
 refine rds hC hGL 5 ?_
 refine xn1 ?_
 intros
 refine p9 (m:=4) hC hGL rfl rfl (by omega) rfl rfl rfl rfl rfl rfl rfl (fun bt=> ?_)
 refine xn1 ?_
 intros
 refine rds hC hGL 5 ?_
 refine xn1 ?_
 intros
 refine aF hC hGL (bw [10] rfl (by intro v hv;simp only[List.mem_cons,List.not_mem_nil,or_false] at hv;omega) rfl rfl rfl rfl rfl rfl) rfl rfl ?_
 refine xn1 ?_
 intros
 refine aF hC hGL (bw [59] rfl (by intro v hv;simp only[List.mem_cons,List.not_mem_nil,or_false] at hv;omega) rfl rfl rfl rfl rfl rfl) rfl rfl ?_
 refine xn1 ?_
 intros
 refine aF hC hGL (bw [44] rfl (by intro v hv;simp only[List.mem_cons,List.not_mem_nil,or_false] at hv;omega) rfl rfl rfl rfl rfl rfl) rfl rfl ?_
 refine xn1 ?_
 intros
 refine aF hC hGL (bw [92] rfl (by intro v hv;simp only[List.mem_cons,List.not_mem_nil,or_false] at hv;omega) rfl rfl rfl rfl rfl rfl) rfl rfl ?_
 refine xn1 ?_
 intros
 exact⟨_,List.Sublist.refl _,_,_,_,_,_,_,_,_,_,_,_,_,by assumption,rfl,rfl⟩
attribute [local irreducible] tabE
structure EscY where
 va:Option Addr
 vk:Nat
 vt:Nat
 bz:Nat
 b1:Nat
 c1:Nat
 b2:Nat
 c2:Nat
 b3:Nat
 c3:Nat
 b4:Nat
 c4:Nat
 h:RowV 4 va vk
abbrev EscY.H (y:EscY)(br bl vc:Nat)(cs:List AVal):Heap:=escH br bl vc cs y.va y.vk y.vt y.bz y.b1 y.c1 y.b2 y.c2 y.b3 y.c3 y.b4 y.c4
abbrev escA (y:EscY):List AVal:=[.int .u32 0,.int .i32 1,.int .u32 0,.iface 303 (.own 3 (pv y.bz 0)),.raw (.slice none 0 0)]
abbrev escQ (y:EscY):List AVal:=[.int .u32 1,.int .i32 0,.int .u32 0,.iface 303 (.own 3 (pv y.bz 0)),.raw (.slice none 0 0)]
theorem BM {G:Glo}(br bl vc:Nat):ah Tryz.prog G 149 [.raw (pv bl 0)] [escO br vc,.cells bl (some 209) ((newC (.slice (some ⟨br,0,none⟩) 8 vc)).set 1 (.int .i32 1))]
  (fun r H=>∃y:EscY,r= .ret (.tuple [])∧H=y.H br bl vc (escA y)):=by
 have hGL:ad G []:=ab
 have e1:=Ap (G:=G) br bl vc
 unfold newC at*
 refine gh 1 Tryz.func149 Tryz.call149 rfl rfl rfl rfl hGL rfl ?_
 intro C hC
 refine xm1 ?_
 intros
 refine⟨_,e1,?_,?_⟩
 ·rintro v' H2 ⟨va,vk,vt,bz,b1,c1,b2,c2,b3,c3,b4,c4,hva,e,rfl⟩
  cases e
  refine xm1 ?_
  intros
  exact⟨_,List.Sublist.refl _,⟨va,vk,vt,bz,b1,c1,b2,c2,b3,c3,b4,c4,hva⟩,rfl,rfl⟩
 ·rintro v' H2 ⟨va,vk,vt,bz,b1,c1,b2,c2,b3,c3,b4,c4,hva,e,rfl⟩
  cases e
theorem Gj {G:Glo}(br bl vc:Nat):ah Tryz.prog G 148 [.raw (pv bl 0),.func (.func 149) [.raw (pv bl 0)] []] [escO br vc,.cells bl (some 209) (newC (.slice (some ⟨br,0,none⟩) 8 vc))]
  (fun r H=>∃y:EscY,r= .ret (.tuple [])∧H=y.H br bl vc (escQ y)):=by
 have e1:=BM (G:=G) br bl vc
 have e2:=yl (G:=G) (b:=bl) (off:=0) (fid:=149) (eT:=some 209) (cs:=newC (.slice (some ⟨br,0,none⟩) 8 vc)) (T:=[escO br vc]) (Y:=EscY) (cs2:=escA) (T2:=fun y=>(y.H br bl vc (escA y)).eraseIdx 1) (l1:=[.raw (pv bl 0)]) (l2:=[]) rfl rfl (fun _=>rfl) (fun _=>rfl) rfl rfl
  (by
   refine dW (dV (List.Perm.swap _ _ _) e1) ?_
   rintro r H ⟨y,rfl,rfl⟩
   exact⟨_,List.Perm.swap _ _ _,y,rfl,rfl⟩)
 refine dW (dV (List.Perm.swap _ _ _) e2) ?_
 rintro r H ⟨y,rfl,rfl⟩
 exact⟨_,List.Perm.swap _ _ _,y,rfl,rfl⟩
end
section
open Go Go.RowKit
set_option maxHeartbeats 8000000
attribute [local irreducible] AWp AOps aA OrOk ad ah
theorem uA (n:Int):(eo n).length=4:=rfl
theorem dt (n:Int):(twoS n).length=2:=rfl
theorem xK (n:Int):(zprS n).length≤100:=by
 unfold zprS
 (repeat' split)<;>simp[dt]
theorem kq {t:Stm}(hf:t.frm=true){P:Prop}(h:okN (whN (tlB t.y) (tlB t.m) (tlB t.d)) (whN (tlB t.h) (tlB t.i) (tlB t.s))=true→(t.z=true→tlB t.h=true)→P):P:=by
 unfold Stm.frm at hf
 rw[Bool.and_eq_true] at hf
 refine h hf.1 fun hz=> ?_
 have:=hf.2
 rw[hz] at this
 exact this
theorem GV {d t:Int}(h:okN d t=true):0≤d:=by
 unfold okN at h
 exact(of_decide_eq_true h).1
theorem GU {d t:Int}(h:okN d t=true):0≤t:=by
 unfold okN at h
 exact(of_decide_eq_true h).2.1
theorem CK (t:Stm):(iL (tlB t.y) (tlB t.m) (tlB t.d) t.y t.m t.d).length≤8:=by
 cases tlB t.y<;>cases tlB t.m<;>cases tlB t.d<;>simp[iL,eo,twoS,aU]
theorem AT (t:Stm):(gZ (tlB t.h) (tlB t.i) (tlB t.s) t.h t.i t.s).length≤8:=by
 cases tlB t.h<;>cases tlB t.i<;>cases tlB t.s<;>simp[gZ,twoS,aU]
def Stm.R (t:Stm):List AVal:=[.int .i64 t.y,.int .i64 t.m,.int .i64 t.d,.int .i64 t.h,.int .i64 t.i,.int .i64 t.s,.bool t.z,.int .i64 t.o]
attribute [local irreducible] eo twoS zprS
theorem pb {G:Glo}{m:Int}(hU:ad G (bW m))(t:Stm)(hf:t.frm=true)(hr:t.rng=true)(hE:t.E= .none):FnIs Tryz.prog G 56 [t.A] (.tuple [.str t.txt,Err.none.A]):=by
 have h0:=gt (G:=G) hU t
 rw[hE] at h0
 have h1:=iT (G:=G) t.y t.m t.d
 have h2:=iT (G:=G) t.h t.i t.s
 have h3:=nr (G:=G) t.o
 have hc:=Tryz.call104
 have k1:=fun n a b=>y7 (G:=G) n a b
 have k2:=fun n a b=>AJ (G:=G) n a b
 have l1:=uA t.y
 have l2:=dt t.m
 have l3:=dt t.d
 have l4:=dt t.h
 have l5:=dt t.i
 have l6:=dt t.s
 have l7:=xK t.o
 have r:=hr
 unfold Stm.rng at r
 simp only[Bool.and_eq_true,nv] at r
 obtain⟨r1,r2,r3,r4,r5,r6, -⟩:=r
 have r3':t.d= -1∨1≤t.d∧t.d≤31:=by
  refine r3.imp_right fun h=>⟨h.1,?_⟩
  have:=h.2
  unfold Stm.day dayN at this
  (repeat' split at this)<;>omega
 clear r3
 have hx:t.txt=iL (tlB t.y) (tlB t.m) (tlB t.d) t.y t.m t.d++gZ (tlB t.h) (tlB t.i) (tlB t.s) t.h t.i t.s++(if t.z then zprS t.o else[]):=rfl
 have hD:=CK t
 have hT:=AT t
 refine kq hf fun k kz=> ?_
 have hGL:ad G []:=ab
 refine fn_a Tryz.func56 Tryz.call56 rfl rfl rfl rfl ?_
 intro C hC
 refine cut hC hGL [(1,.rop t.R 0)] [] True ?_ fun _=> ?_
 ·exact xw0
 refine cut hC hGL [(1,.rop t.R 0)] [] True ?_ fun _=> ?_
 ·exact xw0
 refine cut hC hGL [(1,.rop t.R 0),(5,.str [])] [] True ?_ fun _=> ?_
 ·exact xw0
 refine cut hC hGL [(1,.rop t.R 0),(5,.str (iL (tlB t.y) (tlB t.m) (tlB t.d) t.y t.m t.d))] [] True ?_ fun _=> ?_
 ·clear h0 h2 h3 hx hD hT kz l4 l5 l6 l7 r4 r5 r6
  cases e1:tlB t.y
  all_goals cases e2:tlB t.m
  all_goals cases e3:tlB t.d
  all_goals rw[e1,e2,e3] at k h1
  all_goals try exact absurd (GV k) (by decide)
  all_goals clear k
  all_goals simp only[fmS,fmB,if_true,Bool.false_eq_true,if_false] at h1
  all_goals simp only[gY,xU] at e1 e2 e3
  all_goals exact xw0
 generalize iL (tlB t.y) (tlB t.m) (tlB t.d) t.y t.m t.d=D at*
 clear h0 h1 l1 l2 l3 r1 r2 r3'
 refine cut hC hGL [(1,.rop t.R 0),(5,.str D),(6,.str (fmS (tlB t.h) (tlB t.i) (tlB t.s)))] [] True ?_ fun _=> ?_
 ·exact xw0
 refine cut hC hGL [(1,.rop t.R 0),(5,.str D),(6,.str (fmS (tlB t.h) (tlB t.i) (tlB t.s)))] [] (fmS (tlB t.h) (tlB t.i) (tlB t.s)≠[45,45,45]) ?_ fun hn=> ?_
 ·refine xw ?_
  repeat' (first|exact Le.n|refine Lc.mk ?_ ?_)
  all_goals intros
  all_goals first
   |contradiction
   |(apply ak;refine congrArg (fun l=>AVal.tuple [.str l,Err.none.A]) ?_;have hq:=(show fmS (tlB t.h) (tlB t.i) (tlB t.s)=[45,45,45] by assumption);rw[hx];revert hq kz;cases tlB t.h<;>cases tlB t.i<;>cases tlB t.s<;>simp[fmS,fmB,gZ]<;>(intro a b;rw[a] at b;cases b))
 refine cut hC hGL [(1,.rop t.R 0),(5,.str (D++[84])),(6,.str (fmS (tlB t.h) (tlB t.i) (tlB t.s)))] [] True ?_ fun _=> ?_
 ·exact xw0
 refine cut hC hGL [(1,.rop t.R 0),(5,.str (D++[84])),(6,.str (fmS (tlB t.h) (tlB t.i) (tlB t.s))),(7,.bool false)] [] True ?_ fun _=> ?_
 ·exact xw0
 refine cuty hC hGL (fun q:List UInt8=>[(1,.rop t.R 0),(5,.str q)]) (fun _=>[]) (fun q=>q=D++gZ (tlB t.h) (tlB t.i) (tlB t.s) t.h t.i t.s) ?_ fun q hq=> ?_
 ·clear hx kz hT h3
  cases e4:tlB t.h
  all_goals cases e5:tlB t.i
  all_goals cases e6:tlB t.s
  all_goals rw[e4,e5,e6] at k hn
  all_goals try exact absurd (GU k) (by decide)
  all_goals try exact absurd rfl hn
  all_goals clear k hn
  all_goals simp only[gY,xU] at e4 e5 e6
  all_goals simp only[fmS,fmB,if_true,Bool.false_eq_true,if_false]
  all_goals
   refine xw1 ?_
   refine rds hC hGL 4 ?_
   refine xw1 ?_
   intros
   refine aF hC hGL (cf (i:=0) rfl rfl rfl rfl rfl rfl rfl (show _<3 by decide) rfl rfl) rfl rfl ?_
   refine xw1 ?_
   intros
   refine aF hC hGL (cf (i:=1) rfl rfl rfl rfl rfl rfl rfl (show _<3 by decide) rfl rfl) rfl rfl ?_
   refine xw1 ?_
   intros
   refine aF hC hGL (cf (i:=2) rfl rfl rfl rfl rfl rfl rfl (show _<3 by decide) rfl rfl) rfl rfl ?_
   refine xw1 ?_
   intros
   refine cy _ ?_
   simp only[gZ,List.append_assoc]
 subst hq
 refine cuty hC hGL (fun q:List UInt8=>[(1,.rop t.R 0),(5,.str q)]) (fun _=>[]) (fun q=>q=t.txt) ?_ fun q hq=> ?_
 ·rw[hx]
  refine xw ?_
  repeat' (first|exact Le.n|refine Lc.mk ?_ ?_)
  all_goals intros
  all_goals first
   |(refine cy _ ?_;rw[if_pos (by assumption)])
   |(refine cy _ ?_;rw[if_neg (by rw[show t.z=false by assumption];decide),List.append_nil])
 subst hq
 exact ap hC hGL xw0
theorem vw {G:Glo}{m:Int}(hU:ad G (bW m))(t:Stm):FnIs Tryz.prog G 56 [t.A] (.tuple [.str t.T,t.E.A]):=by
 cases hf:t.frm with
 |true=>
  cases hr:t.rng with
  |true=>
   have hE:t.E= .none:=by unfold Stm.E;rw[hf,hr];rfl
   rw[hE,show t.T=t.txt by unfold Stm.T;rw[hf,hr];rfl]
   exact pb hU t hf hr hE
  |false=>
   have h0:=gt (G:=G) hU t
   have hE:t.E= .errno 2:=by unfold Stm.E;rw[hf,hr];rfl
   rw[hE] at h0 ⊢
   rw[show t.T=[] by unfold Stm.T;rw[hf,hr];rfl]
   have hGL:ad G []:=ab
   refine fn_x Tryz.func56 Tryz.call56 rfl rfl rfl rfl hGL ?_
   intro C hC
   repeat' (first|(conv=>whnf);first|refine .w ?_|refine .v ?_|refine sc_c ?_ ?_<;>(intro hb;try exact dd hb)|apply ao|apply aG|(apply sc_i<;>intro hb)|(apply bx_i;intro hbd)|(apply ax;first|exact h0)|(apply aw (i:=0) rfl;first|exact h0)|(apply ab_i;intro bl)|(apply as_i;intro va vk vc hva)|(apply av_i;intro v)|(apply ac_i;intro bl cap hcap)|apply bo_l|(apply nx_i<;>intro hnx)|apply dw_q mixed hC hGL (by kernel_rfl)|(apply cq;assumption;(first|exact h0);exact rfl)|(show Rt _ _ _;exact rt_w)|fail)
   all_goals try conv=>whnf
 |false=>
  have h0:=gt (G:=G) hU t
  have hE:t.E= .errno 3:=by unfold Stm.E;rw[hf];rfl
  rw[hE] at h0 ⊢
  rw[show t.T=[] by unfold Stm.T;rw[hf];rfl]
  have hGL:ad G []:=ab
  refine fn_x Tryz.func56 Tryz.call56 rfl rfl rfl rfl hGL ?_
  intro C hC
  repeat' (first|(conv=>whnf);first|refine .w ?_|refine .v ?_|refine sc_c ?_ ?_<;>(intro hb;try exact dd hb)|apply ao|apply aG|(apply sc_i<;>intro hb)|(apply bx_i;intro hbd)|(apply ax;first|exact h0)|(apply aw (i:=0) rfl;first|exact h0)|(apply ab_i;intro bl)|(apply as_i;intro va vk vc hva)|(apply av_i;intro v)|(apply ac_i;intro bl cap hcap)|apply bo_l|(apply nx_i<;>intro hnx)|apply dw_q mixed hC hGL (by kernel_rfl)|(apply cq;assumption;(first|exact h0);exact rfl)|(show Rt _ _ _;exact rt_w)|fail)
  all_goals try conv=>whnf
end
section
open Go Go.RowKit
def mapE (L:List (List UInt8×Int)):List (AVal×AVal):=L.map fun x=>(.str x.1,.int .i64 x.2)
def bP (s:List UInt8):List (List UInt8×Int)→Nat→Option (Nat×Int)
 |[],_=>none
 |x::L,i=>if seqB s x.1 then some (i,x.2) else bP s L (i+1)
def numL (s:List UInt8)(L:List (List UInt8×Int)):Int:=match bP s L 0 with
 |some (_,n)=>n
 |none=>0
theorem ek (s:List UInt8):∀(L:List (List UInt8×Int)) (i:Nat),bP s L i=(bP s L 0).map fun x=>(x.1+i,x.2)
 |[],_=>rfl
 |x::L,i=>by
  simp only[bP]
  split
  ·simp
  ·rw[ek s L (i+1),ek s L (0+1)]
   cases bP s L 0 with
   |none=>rfl
   |some y=>simp only[Option.map_some];congr 2;omega
theorem dM (s:List UInt8)(x:List UInt8×Int)(L:List (List UInt8×Int)):numL s (x::L)=if seqB s x.1 then x.2 else numL s L:=by
 cases h:seqB s x.1 with
 |true=>
  unfold numL
  simp only[bP,h,if_true]
 |false=>
  unfold numL
  simp only[bP,h,Bool.false_eq_true,if_false]
  rw[ek s L (0+1)]
  cases bP s L 0 with
  |none=>rfl
  |some y=>rfl
theorem qa {s t:List UInt8}{n:Int}:∀{L:List (List UInt8×Int)},bP t L 0=none→numL s (L++[(t,n)])=if seqB s t then n else numL s L
 |[],_=>by rw[List.nil_append,dM]
 |x::L,h=>by
  simp only[bP] at h
  split at h
  ·cases h
  ·rename_i hx
   rw[ek t L (0+1)] at h
   have h0:bP t L 0=none:=by
    cases h1:bP t L 0 with
    |none=>rfl
    |some y=>rw[h1] at h;cases h
   rw[List.cons_append,dM,qa h0,dM]
   cases h1:seqB s x.1 with
   |false=>rfl
   |true=>
    have e1:=aY.1 h1
    cases h2:seqB s t with
    |false=>rfl
    |true=>
     have e2:=aY.1 h2
     exact absurd (aY.2 (e2.symm.trans e1)) hx
theorem tU {s t:List UInt8}{n m:Int}:∀{L:List (List UInt8×Int)} {j:Nat},bP t L 0=some (j,m)→numL s (L.set j (t,n))=if seqB s t then n else numL s L
 |[],_,h=>by cases h
 |x::L,j,h=>by
  simp only[bP] at h
  split at h
  ·rename_i hx
   cases h
   rw[List.set_cons_zero,dM,dM]
   dsimp only
   rw[aY.1 hx]
   split<;>rfl
  ·rename_i hx
   rw[ek t L (0+1)] at h
   cases h1:bP t L 0 with
   |none=>rw[h1] at h;cases h
   |some y=>
    rw[h1] at h
    simp only[Option.map_some,Option.some.injEq,Prod.mk.injEq] at h
    obtain⟨rfl,rfl⟩:=h
    rw[show y.1+(0+1)=y.1+1 by omega,List.set_cons_succ,dM,tU (m:=y.2) h1,dM]
    cases h2:seqB s x.1 with
    |false=>rfl
    |true=>
     have e1:=aY.1 h2
     cases h3:seqB s t with
     |false=>rfl
     |true=>exact absurd (aY.2 ((aY.1 h3).symm.trans e1)) hx
theorem lV (L:List (List UInt8×Int))(s:List UInt8)(n:Int):mapE L++[(AVal.str s,AVal.int .i64 n)]=mapE (L++[(s,n)]):=by
 unfold mapE
 rw[List.map_append]
 rfl
theorem og (L:List (List UInt8×Int))(j:Nat)(s:List UInt8)(n:Int):(mapE L).set j (AVal.str s,AVal.int .i64 n)=mapE (L.set j (s,n)):=by
 unfold mapE
 rw[List.map_set]
def updL (s:List UInt8)(n:Int)(L:List (List UInt8×Int)):List (List UInt8×Int):=match bP s L 0 with
 |some (j,_)=>L.set j (s,n)
 |none=>L++[(s,n)]
theorem BN (s t:List UInt8)(n:Int)(L:List (List UInt8×Int)):numL s (updL t n L)=if seqB s t then n else numL s L:=by
 unfold updL
 cases h:bP t L 0 with
 |none=>exact qa h
 |some y=>exact tU (m:=y.2) h
end
section
open Go
inductive Tk where
 |one (c:UInt8)
 |two (d:UInt8)
def Tk.raw:Tk→List UInt8
 |.one c=>[c]
 |.two d=>[92,d]
def escV (d:UInt8):UInt8:=if d=110∨d=78 then 10 else d
def Tk.val:Tk→UInt8
 |.one c=>c
 |.two d=>escV d
def okE (d:UInt8):Bool:=decide (d=92∨d=44∨d=59∨d=110∨d=78)
def Tk.ok:Tk→Prop
 |.one c=>c≠92
 |.two d=>okE d=true
end
section
open Go
end
section
open Go
end
section
open Go Go.RowKit
set_option maxHeartbeats 8000000
attribute [local irreducible] AWp AOps aA OrOk ad ah aa escV idxB
end
section
open Go Go.RowKit
set_option maxHeartbeats 8000000
attribute [local irreducible] AWp AOps aA OrOk ad ah aa
end
section
open Go Go.RowKit
set_option maxHeartbeats 8000000
attribute [local irreducible] AWp AOps aA OrOk ad ah aa
theorem CA {G:Glo}(e p:Int):FnIs Tryz.prog G 12 [.agg [.int .i64 e,.int .i64 p]] (.bool (eqB e 0)):=by
 have hGL:ad G []:=ab
 refine fn_x Tryz.func12 Tryz.call12 rfl rfl rfl rfl hGL ?_
 intro C hC
 exact xw0
end
section
open Go Go.RowKit
set_option maxHeartbeats 8000000
attribute [local irreducible] AWp AOps aA OrOk ad ah aa
end
section
open Go Go.RowKit
def EU (i:Nat):List UInt8:=[[],[97],[97,98],[97,98,99],[98],[98,99],[99]].getD i []
def bj (i:Nat):List UInt8:=[[],[57,57,57,57],[57,57,57,57,45,57,57],[57,57,57,57,57,57,57,57],[45,45,57,57],[45,45,57,57,57,57],[45,45,45,57,57]].getD i []
def clkF (i:Nat):List UInt8:=[[],[57,57],[57,57,57,57],[57,57,57,57,57,57],[45,57,57],[45,57,57,57,57],[45,45,57,57]].getD i []
def qY (i:Nat):AVal:=.agg [.str (EU i),.str (bj i),.str (clkF i)]
def shapesTy:List (Nat×List AVal):=[(2,[.list 3 7 qY])]
set_option maxHeartbeats 8000000
attribute [local irreducible] AWp AOps aA OrOk ad ah
theorem iY {G:Glo}(hGL:ad G shapesTy)(a b c:Int):FnIs Tryz.prog G 131 [AV a b c] (.int .i64 (whN (tlB a) (tlB b) (tlB c))):=by
 by_cases h1:a= -1
 all_goals by_cases h2:b= -1
 all_goals by_cases h3:c= -1
 all_goals
  refine fn_x Tryz.func131 Tryz.call131 rfl rfl rfl rfl hGL ?_
  intro C hC
  repeat' (first|(conv=>whnf);first|refine .w ?_|refine .v ?_|refine sc_c ?_ ?_<;>(intro hb;try exact dd hb)|apply ao|apply aG|(apply sc_i<;>intro hb)|(apply bx_i;intro hbd)|(apply ax;first|fail)|(apply aw (i:=0) rfl;first|fail)|(apply ab_i;intro bl)|(apply as_i;intro va vk vc hva)|(apply av_i;intro v)|(apply ac_i;intro bl cap hcap)|apply bo_l|(apply nx_i<;>intro hnx)|apply dw_q mixed hC hGL (by kernel_rfl)|(apply cq;assumption;(first|fail);exact rfl)|(show Rt _ _ _;exact rt_w)|fail)
  all_goals try conv=>whnf
  refine rds hC hGL 4 ?_
  repeat' (first|(conv=>whnf);first|refine .w ?_|refine .v ?_|refine sc_c ?_ ?_<;>(intro hb;try exact dd hb)|apply ao|apply aG|(apply sc_i<;>intro hb)|(apply bx_i;intro hbd)|(apply ax;first|fail)|(apply aw (i:=0) rfl;first|fail)|(apply ab_i;intro bl)|(apply as_i;intro va vk vc hva)|(apply av_i;intro v)|(apply ac_i;intro bl cap hcap)|apply bo_l|(apply nx_i<;>intro hnx)|apply dw_q mixed hC hGL (by kernel_rfl)|(apply cq;assumption;(first|fail);exact rfl)|(show Rt _ _ _;exact rt_w)|fail)
  all_goals try conv=>whnf
  refine rds hC hGL 8 ?_
  repeat' (first|(conv=>whnf);first|refine .w ?_|refine .v ?_|refine sc_c ?_ ?_<;>(intro hb;try exact dd hb)|apply ao|apply aG|(apply sc_i<;>intro hb)|(apply bx_i;intro hbd)|(apply ax;first|fail)|(apply aw (i:=0) rfl;first|fail)|(apply ab_i;intro bl)|(apply as_i;intro va vk vc hva)|(apply av_i;intro v)|(apply ac_i;intro bl cap hcap)|apply bo_l|(apply nx_i<;>intro hnx)|apply dw_q mixed hC hGL (by kernel_rfl)|(apply cq;assumption;(first|fail);exact rfl)|(show Rt _ _ _;exact rt_w)|fail)
  all_goals try conv=>whnf
  all_goals (apply ak;simp only[tlB,h1,h2,h3,ne_eq,not_true_eq_false,not_false_eq_true,decide_true,decide_false];rfl)
end
section
open Go Go.RowKit
set_option maxHeartbeats 8000000
attribute [local irreducible] AWp AOps aA OrOk ad ah
def tstB (t:Stm):Nat→Bool
 |0=>witB t.y 0 9999
 |1=>witB t.m 1 12
 |2=>witB t.d 1 t.day
 |3=>witB t.h 0 23
 |4=>witB t.i 0 59
 |_=>witB t.s 0 59
theorem FO {t:Stm}(h:∀j,j<6→tstB t j=true)(z:zrB t.o=true):t.rng=true:=by
 have h0:witB t.y 0 9999=true:=h 0 (by decide)
 have h1:witB t.m 1 12=true:=h 1 (by decide)
 have h2:witB t.d 1 t.day=true:=h 2 (by decide)
 have h3:witB t.h 0 23=true:=h 3 (by decide)
 have h4:witB t.i 0 59=true:=h 4 (by decide)
 have h5:witB t.s 0 59=true:=h 5 (by decide)
 unfold Stm.rng
 rw[h0,h1,h2,h3,h4,h5,z]
 rfl
theorem lL {t:Stm}(j:Nat)(h:tstB t j=false):t.rng=false:=by
 unfold Stm.rng
 match j,h with
 |0,h=>have h:witB t.y 0 9999=false:=h;simp[h]
 |1,h=>have h:witB t.m 1 12=false:=h;simp[h]
 |2,h=>have h:witB t.d 1 t.day=false:=h;simp[h]
 |3,h=>have h:witB t.h 0 23=false:=h;simp[h]
 |4,h=>have h:witB t.i 0 59=false:=h;simp[h]
 |n+5,h=>have h:witB t.s 0 59=false:=h;simp[h]
theorem GQ {t:Stm}(z:zrB t.o=false):t.rng=false:=by
 unfold Stm.rng
 rw[z]
 simp
theorem e_3 {t:Stm}(h:¬FrmP t.dn t.tn t.z t.h t.o):t.e=3:=by
 unfold Stm.e
 rw[if_neg (fun k=>h ((fD t).1 k))]
theorem e_2 {t:Stm}(h:FrmP t.dn t.tn t.z t.h t.o)(k:t.rng=false):t.e=2:=by
 unfold Stm.e
 rw[if_pos ((fD t).2 h),k]
 rfl
theorem e_0 {t:Stm}(h:FrmP t.dn t.tn t.z t.h t.o)(k:t.rng=true):t.e=0:=by
 unfold Stm.e
 rw[if_pos ((fD t).2 h),k]
 rfl
theorem fX {t:Stm}{k:Nat}(h:∀j,j<k→tstB t j=true)(hk:tstB t k=true):∀j,j<k+1→tstB t j=true:=by
 intro j hj
 rcases Nat.lt_or_ge j k with g|g
 ·exact h j g
 ·rw[show j=k by omega]
  exact hk
theorem GI {p q:Prop}[Decidable p][Decidable q]:((decide p&&decide q)=true)↔p∧q:=by simp
theorem GJ {p q:Prop}[Decidable p][Decidable q]:((decide p&&decide q)=false)↔¬(p∧q):=by simp
theorem wT {n lo hi:Int}(h:n= -1∨lo≤n∧n≤hi):witB n lo hi=true:=nv.2 h
theorem wF {n lo hi:Int}(h:¬(n= -1∨lo≤n∧n≤hi)):witB n lo hi=false:=Fj.2 h
attribute [local irreducible] whN
theorem fL {G:Glo}(hS:ad G shapesTy)(t:Stm):FnIs Tryz.prog G 76 [t.A] (.int .i64 t.e):=by
 have h1:=iY hS t.y t.m t.d
 have h2:=iY hS t.h t.i t.s
 have h3:=BB (G:=G) t.y t.m
 have k1:=fun n lo hi (_:(0:Int)≤0)=>cE (G:=G) n lo hi
 have h5:=fK (G:=G) t.o
 have hE3:=e_3 (t:=t)
 have hE2:=e_2 (t:=t)
 have hE0:=e_0 (t:=t)
 unfold FrmP Stm.dn Stm.tn at hE3 hE2 hE0
 have hGL:ad G []:=ab
 refine fn_a Tryz.func76 Tryz.call76 rfl rfl rfl rfl ?_
 intro C hC
 refine cut hC hGL [(1,.rop t.R 0),(2,.int .i64 0)] [] True ?_ fun _=> ?_
 ·exact xw0
 refine cut hC hGL [(1,.rop t.R 0),(3,.int .i64 (whN (tlB t.y) (tlB t.m) (tlB t.d))),(4,.int .i64 (whN (tlB t.h) (tlB t.i) (tlB t.s)))] [] True ?_ fun _=> ?_
 ·refine xn1 ?_
  refine dw_p mixed hC hGL false (fun(_:Unit)=>[(1,.rop t.R 0),(3,.int .i64 (whN (tlB t.y) (tlB t.m) (tlB t.d))),(4,.int .i64 (whN (tlB t.h) (tlB t.i) (tlB t.s)))]) (fun _=>[]) (.take 0 (.take 1 (.take 2 (.take 3 (.take 4 (.take 5 (.take 8 (.take 9 (.take 10 (.take 11 (.take 12 (.take 13 (.br 6 (.br 7 (.br 14 (.br 15 (.take 16 (.take 17 (.done))) (.nil)) (.nil)) (.br 14 (.br 7 (.br 15 (.take 16 (.take 17 (.done))) (.nil)) (.nil)) (.nil))) (.br 14 (.br 6 (.br 7 (.br 15 (.take 16 (.take 17 (.done))) (.nil)) (.nil)) (.nil)) (.nil))))))))))))))) (by kernel_rfl) ?_ ?_
  ·refine xn ?_
   repeat' (first|exact Le.n|refine Lc.mk ?_ ?_)
   all_goals intros
   all_goals exact⟨(),⟨rfl,rfl,rfl,trivial⟩,rfl⟩
  ·intro _
   exact xn0
 clear h1 h2
 generalize whN (tlB t.y) (tlB t.m) (tlB t.d)=D at*
 generalize whN (tlB t.h) (tlB t.i) (tlB t.s)=T at*
 refine cut hC hGL [(1,.rop t.R 0),(3,.int .i64 D),(4,.int .i64 T)] [] (0≤D∧0≤T∧¬(D=0∧T=0)) ?_ fun p1=> ?_
 ·clear hE2 hE0
  refine xw ?_
  repeat' (first|exact Le.n|refine Lc.mk ?_ ?_)
  all_goals intros
  all_goals first|omega|(apply ak;refine congrArg (AVal.int .i64) ?_;rw[hE3 (fun k=>by have:=k.1;omega)])
 refine cut hC hGL [(1,.rop t.R 0),(3,.int .i64 D),(4,.int .i64 T)] [] (0<D∧0<T→(D=3∨D=5∨D=6)∧T≤3) ?_ fun p2=> ?_
 ·clear hE2 hE0
  refine xw ?_
  repeat' (first|exact Le.n|refine Lc.mk ?_ ?_)
  all_goals intros
  all_goals first|omega|(apply ak;refine congrArg (AVal.int .i64) ?_;rw[hE3 (fun k=>by have:=k.1.2.2.2;omega)])
 refine cut hC hGL [(1,.rop t.R 0)] [] ((t.z=true→t.h≠ -1)∧(t.z=false→t.o=0)) ?_ fun p3=> ?_
 ·clear hE2 hE0 p1 p2
  refine xw ?_
  repeat' (first|exact Le.n|refine Lc.mk ?_ ?_)
  all_goals intros
  all_goals first
   |exact Bool.noConfusion ((show t.z=true by assumption).symm.trans (show t.z=false by assumption))
   |exact⟨fun _=>by assumption,fun k=>Bool.noConfusion ((show t.z=true by assumption).symm.trans k)⟩
   |exact⟨fun k=>Bool.noConfusion (k.symm.trans (show t.z=false by assumption)),fun _=>by assumption⟩
   |(apply ak;refine congrArg (AVal.int .i64) ?_;rw[hE3 (fun k=>by have:=k.2;rw[if_pos (by assumption)] at this;omega)])
   |(apply ak;refine congrArg (AVal.int .i64) ?_;rw[hE3 (fun k=>by have:=k.2;rw[if_neg (by rw[show t.z=false by assumption];decide)] at this;omega)])
 have hF:(0≤D∧0≤T∧¬(D=0∧T=0)∧(0<D∧0<T→(D=3∨D=5∨D=6)∧T≤3))∧(if t.z=true then t.h≠ -1 else t.o=0):=by
  refine⟨⟨p1.1,p1.2.1,p1.2.2,p2⟩,?_⟩
  split
  ·exact p3.1 (by assumption)
  ·rename_i k
   exact p3.2 (by simpa using k)
 have key2:=hE2 hF
 have key0:=hE0 hF
 clear hE2 hE0 hE3 hF p1 p2 p3
 refine cut hC hGL [(1,.rop t.R 0),(5,.int .i64 31)] [] True ?_ fun _=> ?_
 ·exact xw0
 refine cuty hC hGL (fun q:Int=>[(1,.rop t.R 0),(5,.int .i64 q)]) (fun _=>[]) (fun q=>q=t.day) ?_ fun q hq=> ?_
 ·refine xw ?_
  repeat' (first|exact Le.n|refine Lc.mk ?_ ?_)
  all_goals intros
  all_goals first
   |exact cy _ (by unfold Stm.day;rw[if_neg (by assumption)])
   |exact cy _ (by unfold Stm.day;rw[if_pos (by assumption)])
 subst hq
 refine cut hC hGL [(1,.rop t.R 0)] [] (∀j,j<6→tstB t j=true) ?_ fun hj=> ?_
 ·refine xw1 ?_
  refine lp hC hGL (fun(k:Nat)=>[(1,.rop t.R 0),(104,_),(105,.int .i64 6),(106,.int .i64 (k:Nat))]) (fun _=>[]) (fun k=>k≤6∧∀j,j<k→tstB t j=true) (fun k=>6-k) 0 ?_ ae rfl ?_
  ·exact⟨by omega,fun j hj=>absurd hj (by omega)⟩
  rintro k ⟨hk,hj⟩
  rcases(show k=0∨k=1∨k=2∨k=3∨k=4∨k=5∨k=6 by omega) with rfl|rfl|rfl|rfl|rfl|rfl|rfl
  all_goals
   refine xw ?_
   repeat' (first|exact Le.n|refine Lc.mk ?_ ?_)
   all_goals intros
   all_goals try simp only[GI,GJ] at*
   all_goals first
    |exact hj _ (by assumption)
    |exact nxs 1 ⟨by decide,fX hj (wT (by omega))⟩ (by decide) ae aB
    |exact nxs 2 ⟨by decide,fX hj (wT (by omega))⟩ (by decide) ae aB
    |exact nxs 3 ⟨by decide,fX hj (wT (by omega))⟩ (by decide) ae aB
    |exact nxs 4 ⟨by decide,fX hj (wT (by omega))⟩ (by decide) ae aB
    |exact nxs 5 ⟨by decide,fX hj (wT (by omega))⟩ (by decide) ae aB
    |exact nxs 6 ⟨by decide,fX hj (wT (by omega))⟩ (by decide) ae aB
    |(apply ak;refine congrArg (AVal.int .i64) ?_;first
     |rw[key2 (lL 0 (wF (by omega)))]
     |rw[key2 (lL 1 (wF (by omega)))]
     |rw[key2 (lL 2 (wF (by omega)))]
     |rw[key2 (lL 3 (wF (by omega)))]
     |rw[key2 (lL 4 (wF (by omega)))]
     |rw[key2 (lL 5 (wF (by omega)))])
 refine ap hC hGL ?_
 refine xw ?_
 repeat' (first|exact Le.n|refine Lc.mk ?_ ?_)
 all_goals intros
 all_goals (apply ak;refine congrArg (AVal.int .i64) ?_;first|rw[key0 (FO hj (by assumption))]|rw[key2 (GQ (by assumption))])
end
section
open Go Go.RowKit
set_option maxHeartbeats 8000000
attribute [local irreducible] AWp AOps aA OrOk ad ah aa
theorem kw {G:Glo}(hP:cQ G)(n:Nat)(hn:n≤9223372036854775807):FnIs Tryz.prog G 133 [.int .i64 (n:Int),.int .i64 10] (.str (Lib.decDigits n)):=by
 refine bB rfl Tryz.call133 ?_
 intro R args hr w hG hs
 obtain⟨x,t,e,hx,y,t',e',hy,rfl⟩:=hr
 have hx:=am.1 hx
 have hy:=am.1 hy
 subst hx hy
 obtain rfl:args=#[.int .i64 (n:Int),.int .i64 10]:=by cases args;simp_all
 have ht:Lib.TabIs Tryz.prog w "internal/strconv.uint64pow10" .u64 Lib.pow10Tab:=by
  obtain⟨e,fz,hR⟩:=hP R hG
  have hg:Tryz.prog.globalNamed "internal/strconv.uint64pow10" =some 10:=by kernel_rfl
  show w.var? Tryz.prog "internal/strconv.uint64pow10" =_
  simp only[World.var?,hg,Option.bind_some,hs _ _ hR]
 refine(Tryz.strconv_FormatInt_10 n (by omega) (by omega) w ht).mono ?_
 rintro e w' ⟨rfl,k,os,rfl⟩
 refine⟨?_,⟨rfl,rfl,rfl,?_,fun b hb=> ?_⟩⟩
 ·have:Lib.itoa (n:Int)=Lib.decDigits n:=by unfold Lib.itoa;rw[if_neg (by omega)];rfl
  rw[this]
  rfl
 ·show w.heap.size≤(w.heap++os).size
  rw[Array.size_append];omega
 ·show(w.heap++os)[b]? =w.heap[b]?
  rw[Array.getElem?_append_left hb]
theorem ii {i:Nat}(h:100≤i)(h1:i<1000):Lib.decDigits i=[UInt8.ofNat (48+i/100),UInt8.ofNat (48+i/10%10),UInt8.ofNat (48+i%10)]:=by
 rw[Lib.decDigits,dif_neg (by omega),fN (by omega) (by omega),show i/10/10=i/100 by omega]
 rfl
theorem oL {i:Nat}(h:1000≤i)(h1:i<10000):Lib.decDigits i=[UInt8.ofNat (48+i/1000),UInt8.ofNat (48+i/100%10),UInt8.ofNat (48+i/10%10),UInt8.ofNat (48+i%10)]:=by
 rw[Lib.decDigits,dif_neg (by omega),ii (by omega) (by omega),show i/10/10%10=i/100%10 by omega,show i/10/100=i/1000 by omega]
 rfl
theorem Aa (i:Nat):eo (i:Int)=[UInt8.ofNat (48+i/1000),UInt8.ofNat (48+i/100%10),UInt8.ofNat (48+i/10%10),UInt8.ofNat (48+i%10)]:=by
 unfold eo aU
 simp only[List.map]
 rw[show(48+(i:Int)/1000).toNat=48+i/1000 by omega,show(48+(i:Int)/100%10).toNat=48+i/100%10 by omega,show(48+(i:Int)/10%10).toNat=48+i/10%10 by omega,show(48+(i:Int)%10).toNat=48+i%10 by omega]
theorem mR {G:Glo}(hP:cQ G)(i:Nat)(h1:i<10000):FnIs Tryz.prog G 81 [.int .i64 (i:Int),.int .i64 10,.int .i64 4] (.str (eo i)):=by
 have hf:=kw (G:=G) hP i (by omega)
 rw[Aa]
 by_cases h2:i<10
 ·rw[fO h2] at hf
  have hGL:ad G []:=ab
  refine fn_x Tryz.func81 Tryz.call81 rfl rfl rfl rfl hGL ?_
  intro C hC
  refine xw1 ?_
  intros
  refine rds hC hGL 4 ?_
  refine xw1 ?_
  intros
  apply ak
  rw[show i/1000=0 by omega,show i/100%10=0 by omega,show i/10%10=0 by omega,show i%10=i by omega]
  rfl
 by_cases h3:i<100
 ·rw[fN (by omega) h3] at hf
  have hGL:ad G []:=ab
  refine fn_x Tryz.func81 Tryz.call81 rfl rfl rfl rfl hGL ?_
  intro C hC
  refine xw1 ?_
  intros
  refine rds hC hGL 3 ?_
  refine xw1 ?_
  intros
  apply ak
  rw[show i/1000=0 by omega,show i/100%10=0 by omega,show i/10%10=i/10 by omega]
  rfl
 by_cases h4:i<1000
 ·rw[ii (by omega) h4] at hf
  have hGL:ad G []:=ab
  refine fn_x Tryz.func81 Tryz.call81 rfl rfl rfl rfl hGL ?_
  intro C hC
  refine xw1 ?_
  intros
  refine rds hC hGL 2 ?_
  refine xw1 ?_
  intros
  apply ak
  rw[show i/1000=0 by omega,show i/100%10=i/100 by omega]
  rfl
 ·rw[oL (by omega) h1] at hf
  have hGL:ad G []:=ab
  refine fn_x Tryz.func81 Tryz.call81 rfl rfl rfl rfl hGL ?_
  intro C hC
  refine xw1 ?_
  intros
  refine rds hC hGL 1 ?_
  exact xw0
end
section
open Go Go.RowKit
set_option maxHeartbeats 8000000
def g9:List UInt8→Nat
 |[]=>0
 |c::r=>if c=57 then g9 r+1 else g9 r
theorem jk {form:List UInt8}{i:Nat}(h:i<form.length):form.drop i=form[i]::form.drop (i+1):=List.drop_eq_getElem_cons h
theorem qq {form:List UInt8}{i:Nat}(h:i<form.length)(hc:form[i]=57):g9 (form.drop i)=g9 (form.drop (i+1))+1:=by
 rw[jk h,g9,if_pos hc]
theorem z8 {form:List UInt8}{i:Nat}(h:i<form.length)(hc:form[i]≠57):g9 (form.drop i)=g9 (form.drop (i+1)):=by
 rw[jk h,g9,if_neg hc]
theorem wQ {form all:List UInt8}{i:Nat}(h:i<form.length)(hc:form[i]=57)(ha:0<all.length):ep (form.drop i) all=aU [(aa all 0:Int)]++ep (form.drop (i+1)) (all.drop 1):=by
 rw[jk h]
 cases all with
 |nil=>cases ha
 |cons x t=>
  rw[ep,if_pos hc]
  have:aU [(aa (x::t) 0:Int)]=[x]:=by
   show[UInt8.ofNat x.toNat]=[x]
   rw[UInt8.ofNat_toNat]
  rw[this]
  rfl
theorem wR {form all:List UInt8}{i:Nat}(h:i<form.length)(hc:form[i]≠57):ep (form.drop i) all=aU [(aa form i:Int)]++ep (form.drop (i+1)) all:=by
 rw[jk h]
 have e:ep (form[i]::form.drop (i+1)) all=form[i]::ep (form.drop (i+1)) all:=by simp only[ep,if_neg hc]
 rw[e]
 have:aU [(aa form i:Int)]=[form[i]]:=by
  rw[bp h]
  show[UInt8.ofNat form[i].toNat]=_
  rw[UInt8.ofNat_toNat]
 rw[this]
 rfl
theorem at57 {form:List UInt8}{i:Nat}(h:i<form.length):form[i]=57↔(aa form i:Int)=57:=by
 rw[bp h,←UInt8.toNat_inj]
 constructor
 ·intro k;rw[k];rfl
 ·intro k;have:form[i].toNat=57:=by omega
  rw[this];rfl
theorem GW {t:Stm}(hf:t.frm=true):0≤whN (tlB t.y) (tlB t.m) (tlB t.d)∧whN (tlB t.y) (tlB t.m) (tlB t.d)<7:=by
 have:=((fD t).1 hf).1
 have h2:=xL (tlB t.y) (tlB t.m) (tlB t.d)
 unfold Stm.dn Stm.tn at this
 omega
theorem GT {t:Stm}(hf:t.frm=true):0≤whN (tlB t.h) (tlB t.i) (tlB t.s)∧whN (tlB t.h) (tlB t.i) (tlB t.s)<7:=by
 have:=((fD t).1 hf).1
 have h2:=xL (tlB t.h) (tlB t.i) (tlB t.s)
 unfold Stm.dn Stm.tn at this
 omega
theorem Aj (i:Nat):(bj i).length≤8:=by
 match i with
 |0|1|2|3|4|5|6=>decide
 |n+7=>exact Nat.zero_le _
theorem CR (i:Nat):(clkF i).length≤6:=by
 match i with
 |0|1|2|3|4|5|6=>decide
 |n+7=>exact Nat.zero_le _
def numP (t:Stm):Nat→Int
 |0=>t.m
 |1=>t.d
 |2=>t.h
 |3=>t.i
 |_=>t.s
def allP (t:Stm):Nat→List UInt8
 |0=>if t.y= -1 then[] else eo t.y
 |k+1=>if numP t k= -1 then allP t k else allP t k++twoS (numP t k)
theorem fQ {t:Stm}{A:List UInt8}{k:Nat}(hA:A=allP t k)(h:numP t k≠ -1):A++twoS (numP t k)=allP t (k+1):=by
 rw[allP,if_neg h,hA]
theorem dX {t:Stm}{A:List UInt8}{k:Nat}(hA:A=allP t k)(h:numP t k= -1):A=allP t (k+1):=by
 rw[allP,if_pos h,hA]
theorem xH (t:Stm):∀k,(allP t k).length≤4+2*k
 |0=>by
  unfold allP
  split
  ·exact Nat.zero_le _
  ·exact Nat.le_refl _
 |k+1=>by
  have:=xH t k
  unfold allP
  split
  ·omega
  ·rw[List.length_append,show(twoS (numP t k)).length=2 from rfl];omega
def fq (form A:List UInt8)(i:Nat)(out all:List UInt8):Prop:=i≤form.length∧out.length=i∧all.length≤100∧g9 (form.drop i)≤all.length∧out++ep (form.drop i) all=ep form A
theorem jl {form A:List UInt8}(h:g9 form≤A.length)(hl:A.length≤4+2*5):fq form A 0 [] A:=⟨Nat.zero_le _,rfl,by omega,by rw[List.drop_zero];exact h,by rw[List.drop_zero];rfl⟩
theorem iK {form A:List UInt8}{i:Nat}{out all:List UInt8}(h:fq form A i out all)(hb:i<form.length∧(aa form i:Int)=57):0<all.length:=by
 have h4:=h.2.2.2.1
 rw[qq hb.1 ((at57 hb.1).2 hb.2)] at h4
 omega
theorem jm {form A:List UInt8}{i:Nat}{out all:List UInt8}(h:fq form A i out all)(h1:i<form.length)(hb:(aa form i:Int)=57):fq form A (i+1) (out++aU [(aa all 0:Int)]) (all.drop 1):=by
 have hp:=iK h ⟨h1,hb⟩
 obtain⟨a,b,c,d,e⟩:=h
 have hc:=(at57 h1).2 hb
 rw[qq h1 hc] at d
 rw[wQ h1 hc hp,←List.append_assoc] at e
 refine⟨h1,?_,?_,?_,e⟩
 ·rw[List.length_append,b];rfl
 ·rw[List.length_drop];omega
 ·rw[List.length_drop];omega
theorem jn {form A:List UInt8}{i:Nat}{out all:List UInt8}(h:fq form A i out all)(h1:i<form.length)(hb:(aa form i:Int)≠57):fq form A (i+1) (out++aU [(aa form i:Int)]) all:=by
 obtain⟨a,b,c,d,e⟩:=h
 have hc:form[i]≠57:=fun k=>hb ((at57 h1).1 k)
 rw[z8 h1 hc] at d
 rw[wR h1 hc,←List.append_assoc] at e
 refine⟨h1,?_,c,d,e⟩
 rw[List.length_append,b];rfl
theorem lc {form A:List UInt8}{i:Nat}{out all:List UInt8}(h:fq form A i out all)(h1:form.length≤i):out=ep form A:=by
 obtain⟨a,b,c,d,e⟩:=h
 rw[List.drop_of_length_le h1] at e
 rw[←e]
 simp[ep]
theorem qA {t:Stm}(hf:t.frm=true)(h:0<whN (tlB t.h) (tlB t.i) (tlB t.s)):g9 (bj (whN (tlB t.y) (tlB t.m) (tlB t.d)).toNat++([84]++clkF (whN (tlB t.h) (tlB t.i) (tlB t.s)).toNat))≤(allP t 5).length∧ep (bj (whN (tlB t.y) (tlB t.m) (tlB t.d)).toNat++([84]++clkF (whN (tlB t.h) (tlB t.i) (tlB t.s)).toNat)) (allP t 5)=iL (tlB t.y) (tlB t.m) (tlB t.d) t.y t.m t.d++gZ (tlB t.h) (tlB t.i) (tlB t.s) t.h t.i t.s:=by
 refine kq hf fun k kz=> ?_
 clear kz
 revert h k
 cases e1:tlB t.y<;>cases e2:tlB t.m<;>cases e3:tlB t.d<;>cases e4:tlB t.h<;>cases e5:tlB t.i<;>cases e6:tlB t.s<;>intro h k<;>first|exact absurd k (by decide)|exact absurd h (by decide)|(simp only[gY,xU] at e1 e2 e3 e4 e5 e6;simp only[allP,numP,e1,e2,e3,e4,e5,e6,if_true,if_false];exact⟨Nat.le_refl _,rfl⟩)
theorem qB {t:Stm}(hf:t.frm=true)(h:whN (tlB t.h) (tlB t.i) (tlB t.s)≤0):g9 (bj (whN (tlB t.y) (tlB t.m) (tlB t.d)).toNat)≤(allP t 5).length∧ep (bj (whN (tlB t.y) (tlB t.m) (tlB t.d)).toNat) (allP t 5)=iL (tlB t.y) (tlB t.m) (tlB t.d) t.y t.m t.d++gZ (tlB t.h) (tlB t.i) (tlB t.s) t.h t.i t.s:=by
 refine kq hf fun k kz=> ?_
 clear kz
 revert h k
 cases e1:tlB t.y<;>cases e2:tlB t.m<;>cases e3:tlB t.d<;>cases e4:tlB t.h<;>cases e5:tlB t.i<;>cases e6:tlB t.s<;>intro h k<;>first|exact absurd k (by decide)|exact absurd h (by decide)|(simp only[gY,xU] at e1 e2 e3 e4 e5 e6;simp only[allP,numP,e1,e2,e3,e4,e5,e6,if_true,if_false];exact⟨Nat.le_refl _,rfl⟩)
attribute [local irreducible] AWp AOps aA OrOk ad ah aa eo twoS zprS ep
theorem bA {G:Glo}(k:Int)(h0:0≤k)(h1:k<100):FnIs Tryz.prog G 81 [.int .i64 k,.int .i64 10,.int .i64 2] (.str (twoS k)):=by
 obtain⟨i,rfl⟩:=Int.eq_ofNat_of_zero_le h0
 exact iw i (by omega)
theorem jw {G:Glo}(hP:cQ G)(k:Int)(h0:0≤k)(h1:k<10000):FnIs Tryz.prog G 81 [.int .i64 k,.int .i64 10,.int .i64 4] (.str (eo k)):=by
 obtain⟨i,rfl⟩:=Int.eq_ofNat_of_zero_le h0
 exact mR hP i (by omega)
theorem rq {G:Glo}(hGL:ad G shapesTy)(hP:cQ G)(t:Stm)(hf:t.frm=true)(hr:t.rng=true):FnIs Tryz.prog G 80 [t.A] (.str t.txt):=by
 have h1:=iY hGL t.y t.m t.d
 have h2:=iY hGL t.h t.i t.s
 have h3:=jD (G:=G) t.o
 have kd:0≤whN (tlB t.y) (tlB t.m) (tlB t.d)∧whN (tlB t.y) (tlB t.m) (tlB t.d)<7:=GW hf
 have kt:=GT hf
 have hc:=Tryz.call131
 have l1:=uA t.y
 have l2:=dt t.m
 have l3:=dt t.d
 have l4:=dt t.h
 have l5:=dt t.i
 have l6:=dt t.s
 have l7:=xK t.o
 have l8:=Aj (whN (tlB t.y) (tlB t.m) (tlB t.d)).toNat
 have l9:=CR (whN (tlB t.h) (tlB t.i) (tlB t.s)).toNat
 have r:=hr
 unfold Stm.rng at r
 simp only[Bool.and_eq_true,nv] at r
 obtain⟨r1,r2,r3,r4,r5,r6, -⟩:=r
 have r3':t.d= -1∨1≤t.d∧t.d≤31:=by
  refine r3.imp_right fun h=>⟨h.1,?_⟩
  have:=h.2
  unfold Stm.day dayN at this
  (repeat' split at this)<;>omega
 refine kq hf fun k kz=> ?_
 unfold Stm.txt
 refine fn_x Tryz.func80 Tryz.call80 rfl rfl rfl rfl hGL ?_
 intro C hC
 by_cases hy:t.y= -1
 ·have k1:=fun n=>jw (G:=G) hP n
  refine xn1 ?_
  intros
  refine lp hC hGL (fun(x:Nat×List UInt8)=>[(1,.rop [.int .i64 t.y,.int .i64 t.m,.int .i64 t.d,.int .i64 t.h,.int .i64 t.i,.int .i64 t.s,.bool t.z,.int .i64 t.o] 0),(3,.str x.2),(29,.list 1 5 (bc [(0,.int .i64 t.m),(1,.int .i64 t.d),(2,.int .i64 t.h),(3,.int .i64 t.i),(4,.int .i64 t.s)])),(30,.int .i64 5),(31,.int .i64 (x.1:Nat))]) (fun _=>[]) (fun x=>x.1≤5∧x.2=allP t x.1) (fun x=>5-x.1) (0,[]) ⟨show 0≤5 by decide,(if_pos hy).symm⟩ (by repeat (first|exact trivial|refine And.intro rfl ?_)) rfl ?_
  rintro⟨k',A⟩ ⟨hk,hA⟩
  have hk:k'≤5:=hk
  have hA:A=allP t k':=hA
  have hl:=xH t k'
  rw[←hA] at hl
  rcases(show k'=0∨k'=1∨k'=2∨k'=3∨k'=4∨k'=5 by omega) with rfl|rfl|rfl|rfl|rfl|rfl
  ·have k1:=fun n=>bA (G:=G) n
   refine xm ?_
   repeat' (first|exact Le.n|refine Lc.mk ?_ ?_)
   all_goals intros
   ·refine nxs (1,A++twoS (numP t 0)) ⟨show(1:Nat)≤5 by decide,fQ hA (by assumption)⟩ (show 5-1<5-0 by decide) (by repeat (first|exact trivial|refine And.intro rfl ?_)) (by repeat (first|exact List.nil_sublist _|apply List.Sublist.cons_cons|apply List.Sublist.cons))
   ·refine nxs (1,A) ⟨show(1:Nat)≤5 by decide,dX hA (by assumption)⟩ (show 5-1<5-0 by decide) (by repeat (first|exact trivial|refine And.intro rfl ?_)) (by repeat (first|exact List.nil_sublist _|apply List.Sublist.cons_cons|apply List.Sublist.cons))
  ·have k1:=fun n=>bA (G:=G) n
   refine xm ?_
   repeat' (first|exact Le.n|refine Lc.mk ?_ ?_)
   all_goals intros
   ·refine nxs (2,A++twoS (numP t 1)) ⟨show(2:Nat)≤5 by decide,fQ hA (by assumption)⟩ (show 5-2<5-1 by decide) (by repeat (first|exact trivial|refine And.intro rfl ?_)) (by repeat (first|exact List.nil_sublist _|apply List.Sublist.cons_cons|apply List.Sublist.cons))
   ·refine nxs (2,A) ⟨show(2:Nat)≤5 by decide,dX hA (by assumption)⟩ (show 5-2<5-1 by decide) (by repeat (first|exact trivial|refine And.intro rfl ?_)) (by repeat (first|exact List.nil_sublist _|apply List.Sublist.cons_cons|apply List.Sublist.cons))
  ·have k1:=fun n=>bA (G:=G) n
   refine xm ?_
   repeat' (first|exact Le.n|refine Lc.mk ?_ ?_)
   all_goals intros
   ·refine nxs (3,A++twoS (numP t 2)) ⟨show(3:Nat)≤5 by decide,fQ hA (by assumption)⟩ (show 5-3<5-2 by decide) (by repeat (first|exact trivial|refine And.intro rfl ?_)) (by repeat (first|exact List.nil_sublist _|apply List.Sublist.cons_cons|apply List.Sublist.cons))
   ·refine nxs (3,A) ⟨show(3:Nat)≤5 by decide,dX hA (by assumption)⟩ (show 5-3<5-2 by decide) (by repeat (first|exact trivial|refine And.intro rfl ?_)) (by repeat (first|exact List.nil_sublist _|apply List.Sublist.cons_cons|apply List.Sublist.cons))
  ·have k1:=fun n=>bA (G:=G) n
   refine xm ?_
   repeat' (first|exact Le.n|refine Lc.mk ?_ ?_)
   all_goals intros
   ·refine nxs (4,A++twoS (numP t 3)) ⟨show(4:Nat)≤5 by decide,fQ hA (by assumption)⟩ (show 5-4<5-3 by decide) (by repeat (first|exact trivial|refine And.intro rfl ?_)) (by repeat (first|exact List.nil_sublist _|apply List.Sublist.cons_cons|apply List.Sublist.cons))
   ·refine nxs (4,A) ⟨show(4:Nat)≤5 by decide,dX hA (by assumption)⟩ (show 5-4<5-3 by decide) (by repeat (first|exact trivial|refine And.intro rfl ?_)) (by repeat (first|exact List.nil_sublist _|apply List.Sublist.cons_cons|apply List.Sublist.cons))
  ·have k1:=fun n=>bA (G:=G) n
   refine xm ?_
   repeat' (first|exact Le.n|refine Lc.mk ?_ ?_)
   all_goals intros
   ·refine nxs (5,A++twoS (numP t 4)) ⟨show(5:Nat)≤5 by decide,fQ hA (by assumption)⟩ (show 5-5<5-4 by decide) (by repeat (first|exact trivial|refine And.intro rfl ?_)) (by repeat (first|exact List.nil_sublist _|apply List.Sublist.cons_cons|apply List.Sublist.cons))
   ·refine nxs (5,A) ⟨show(5:Nat)≤5 by decide,dX hA (by assumption)⟩ (show 5-5<5-4 by decide) (by repeat (first|exact trivial|refine And.intro rfl ?_)) (by repeat (first|exact List.nil_sublist _|apply List.Sublist.cons_cons|apply List.Sublist.cons))
  refine xm1 ?_
  intros
  refine dw_p mixed hC hGL false (fun(_:Unit)=>[(1,.rop [.int .i64 t.y,.int .i64 t.m,.int .i64 t.d,.int .i64 t.h,.int .i64 t.i,.int .i64 t.s,.bool t.z,.int .i64 t.o] 0),(3,.str A),(6,.str (bj (whN (tlB t.y) (tlB t.m) (tlB t.d)).toNat))]) (fun _=>[]) (.take 1 (.take 2 (.take 3 (.take 4 (.take 5 (.take 6 (.br 0 (.br 7 (.br 8 (.take 9 (.take 10 (.take 11 (.take 12 (.done))))) (.nil)) (.nil)) (.br 7 (.br 0 (.br 8 (.take 9 (.take 10 (.take 11 (.take 12 (.done))))) (.nil)) (.br 8 (.br 0 (.take 9 (.take 10 (.take 11 (.take 12 (.done))))) (.nil)) (.nil))) (.nil))))))))) (by kernel_rfl) ?_ ?_
  ·refine xn ?_
   repeat' (first|exact Le.n|refine Lc.mk ?_ ?_)
   all_goals intros
   all_goals exact⟨(),⟨rfl,rfl,rfl,trivial⟩,rfl⟩
  intro _
  repeat' (first|(conv=>whnf);first|refine .w ?_|refine .v ?_|refine sc_c ?_ ?_<;>(intro hb;try exact dd hb)|apply ao|apply aG|(apply sc_i<;>intro hb)|(apply bx_i;intro hbd)|(apply ax;first|exact h2|exact h3)|(apply aw (i:=0) rfl;first|exact h2|exact h3)|(apply ab_i;intro bl)|(apply as_i;intro va vk vc hva)|(apply av_i;intro v)|(apply ac_i;intro bl cap hcap)|apply bo_l|(apply nx_i<;>intro hnx)|exact True.intro|(apply bc_i;intro C hC)|apply bt_i|apply og_n|(apply og_a;exact rfl)|(show Rt _ _ _;exact rt_w)|fail)
  all_goals try conv=>whnf
  ·have hG:=qA hf (by assumption)
   have hLF:(bj (whN (tlB t.y) (tlB t.m) (tlB t.d)).toNat++([84]++clkF (whN (tlB t.h) (tlB t.i) (tlB t.s)).toNat)).length≤15:=by first|(rw[List.length_append,List.length_append,List.length_singleton];omega)|omega
   rw[←hA] at hG
   refine lp hC hGL (fun(x:Nat×List UInt8×List UInt8)=>[(1,.rop [.int .i64 t.y,.int .i64 t.m,.int .i64 t.d,.int .i64 t.h,.int .i64 t.i,.int .i64 t.s,.bool t.z,.int .i64 t.o] 0),(3,.str x.2.2),(8,.str x.2.1),(73,.own 0 (.slice (some ⟨bl,0,none⟩) (bj (whN (tlB t.y) (tlB t.m) (tlB t.d)).toNat++([84]++clkF (whN (tlB t.h) (tlB t.i) (tlB t.s)).toNat)).length cap)),(74,.int .i64 ((bj (whN (tlB t.y) (tlB t.m) (tlB t.d)).toNat++([84]++clkF (whN (tlB t.h) (tlB t.i) (tlB t.s)).toNat)).length:Nat)),(75,.int .i64 (x.1:Nat))]) (fun _=>[.buf bl (bj (whN (tlB t.y) (tlB t.m) (tlB t.d)).toNat++([84]++clkF (whN (tlB t.h) (tlB t.i) (tlB t.s)).toNat)) cap]) (fun x=>fq (bj (whN (tlB t.y) (tlB t.m) (tlB t.d)).toNat++([84]++clkF (whN (tlB t.h) (tlB t.i) (tlB t.s)).toNat)) A x.1 x.2.1 x.2.2) (fun x=>(bj (whN (tlB t.y) (tlB t.m) (tlB t.d)).toNat++([84]++clkF (whN (tlB t.h) (tlB t.i) (tlB t.s)).toNat)).length-x.1) (0,[],A) (jl hG.1 hl) (by repeat (first|exact trivial|refine And.intro rfl ?_)) rfl ?_
   rintro⟨i,out,all⟩ hI
   have hI:fq (bj (whN (tlB t.y) (tlB t.m) (tlB t.d)).toNat++([84]++clkF (whN (tlB t.h) (tlB t.i) (tlB t.s)).toNat)) A i out all:=hI
   have hI1:=hI.1
   have hI2:=hI.2.1
   have hI3:=hI.2.2.1
   have hI0:=fun h=>iK hI h
   refine xw ?_
   repeat' (first|exact Le.n|refine Lc.mk ?_ ?_)
   all_goals intros
   ·refine aF hC hGL (bw [_] rfl (by intro v hv;obtain rfl:=List.mem_singleton.1 hv;exact⟨Int.natCast_nonneg _,by exact_mod_cast aO _ _⟩) rfl rfl rfl rfl rfl rfl) rfl rfl ?_
    refine xm1 ?_
    intros
    refine sp_i (show out.length+1≤9223372036854775807 by omega) ?_
    refine xm1 ?_
    intros
    refine nxt (i+1,out++aU [(aa all 0:Int)],all.drop 1) ?_ ?_ (by repeat (first|exact trivial|refine And.intro rfl ?_)) rfl
    ·exact jm hI (by omega) (by assumption)
    ·show _-(i+1)<_-i
     omega
   ·refine aF hC hGL (bw [_] rfl (by intro v hv;obtain rfl:=List.mem_singleton.1 hv;exact⟨Int.natCast_nonneg _,by exact_mod_cast aO _ _⟩) rfl rfl rfl rfl rfl rfl) rfl rfl ?_
    refine xm1 ?_
    intros
    refine sp_i (show out.length+1≤9223372036854775807 by omega) ?_
    refine xm1 ?_
    intros
    refine nxt (i+1,out++aU [(aa (bj (whN (tlB t.y) (tlB t.m) (tlB t.d)).toNat++([84]++clkF (whN (tlB t.h) (tlB t.i) (tlB t.s)).toNat)) i:Int)],all) ?_ ?_ (by repeat (first|exact trivial|refine And.intro rfl ?_)) rfl
    ·exact jn hI (by omega) (by assumption)
    ·show _-(i+1)<_-i
     omega
   all_goals
    apply ak
    refine congrArg AVal.str ?_
    have e:=lc hI (by omega)
    rw[hG.2] at e
    first
     |(rw[if_pos (by assumption),←e])
     |(rw[if_neg (by simp only[Bool.not_eq_true];assumption),←e,List.append_nil])
  ·have hG:=qB hf (by assumption)
   have hLF:(bj (whN (tlB t.y) (tlB t.m) (tlB t.d)).toNat).length≤15:=by first|(rw[List.length_append,List.length_append,List.length_singleton];omega)|omega
   rw[←hA] at hG
   refine lp hC hGL (fun(x:Nat×List UInt8×List UInt8)=>[(1,.rop [.int .i64 t.y,.int .i64 t.m,.int .i64 t.d,.int .i64 t.h,.int .i64 t.i,.int .i64 t.s,.bool t.z,.int .i64 t.o] 0),(3,.str x.2.2),(8,.str x.2.1),(73,.own 0 (.slice (some ⟨bl,0,none⟩) (bj (whN (tlB t.y) (tlB t.m) (tlB t.d)).toNat).length cap)),(74,.int .i64 ((bj (whN (tlB t.y) (tlB t.m) (tlB t.d)).toNat).length:Nat)),(75,.int .i64 (x.1:Nat))]) (fun _=>[.buf bl (bj (whN (tlB t.y) (tlB t.m) (tlB t.d)).toNat) cap]) (fun x=>fq (bj (whN (tlB t.y) (tlB t.m) (tlB t.d)).toNat) A x.1 x.2.1 x.2.2) (fun x=>(bj (whN (tlB t.y) (tlB t.m) (tlB t.d)).toNat).length-x.1) (0,[],A) (jl hG.1 hl) (by repeat (first|exact trivial|refine And.intro rfl ?_)) rfl ?_
   rintro⟨i,out,all⟩ hI
   have hI:fq (bj (whN (tlB t.y) (tlB t.m) (tlB t.d)).toNat) A i out all:=hI
   have hI1:=hI.1
   have hI2:=hI.2.1
   have hI3:=hI.2.2.1
   have hI0:=fun h=>iK hI h
   refine xw ?_
   repeat' (first|exact Le.n|refine Lc.mk ?_ ?_)
   all_goals intros
   ·refine aF hC hGL (bw [_] rfl (by intro v hv;obtain rfl:=List.mem_singleton.1 hv;exact⟨Int.natCast_nonneg _,by exact_mod_cast aO _ _⟩) rfl rfl rfl rfl rfl rfl) rfl rfl ?_
    refine xm1 ?_
    intros
    refine sp_i (show out.length+1≤9223372036854775807 by omega) ?_
    refine xm1 ?_
    intros
    refine nxt (i+1,out++aU [(aa all 0:Int)],all.drop 1) ?_ ?_ (by repeat (first|exact trivial|refine And.intro rfl ?_)) rfl
    ·exact jm hI (by omega) (by assumption)
    ·show _-(i+1)<_-i
     omega
   ·refine aF hC hGL (bw [_] rfl (by intro v hv;obtain rfl:=List.mem_singleton.1 hv;exact⟨Int.natCast_nonneg _,by exact_mod_cast aO _ _⟩) rfl rfl rfl rfl rfl rfl) rfl rfl ?_
    refine xm1 ?_
    intros
    refine sp_i (show out.length+1≤9223372036854775807 by omega) ?_
    refine xm1 ?_
    intros
    refine nxt (i+1,out++aU [(aa (bj (whN (tlB t.y) (tlB t.m) (tlB t.d)).toNat) i:Int)],all) ?_ ?_ (by repeat (first|exact trivial|refine And.intro rfl ?_)) rfl
    ·exact jn hI (by omega) (by assumption)
    ·show _-(i+1)<_-i
     omega
   all_goals
    apply ak
    refine congrArg AVal.str ?_
    have e:=lc hI (by omega)
    rw[hG.2] at e
    first
     |(rw[if_pos (by assumption),←e])
     |(rw[if_neg (by simp only[Bool.not_eq_true];assumption),←e,List.append_nil])
 ·have k1:=fun n=>jw (G:=G) hP n
  refine xn1 ?_
  intros
  refine lp hC hGL (fun(x:Nat×List UInt8)=>[(1,.rop [.int .i64 t.y,.int .i64 t.m,.int .i64 t.d,.int .i64 t.h,.int .i64 t.i,.int .i64 t.s,.bool t.z,.int .i64 t.o] 0),(3,.str x.2),(29,.list 1 5 (bc [(0,.int .i64 t.m),(1,.int .i64 t.d),(2,.int .i64 t.h),(3,.int .i64 t.i),(4,.int .i64 t.s)])),(30,.int .i64 5),(31,.int .i64 (x.1:Nat))]) (fun _=>[]) (fun x=>x.1≤5∧x.2=allP t x.1) (fun x=>5-x.1) (0,eo t.y) ⟨show 0≤5 by decide,(if_neg hy).symm⟩ (by repeat (first|exact trivial|refine And.intro rfl ?_)) rfl ?_
  rintro⟨k',A⟩ ⟨hk,hA⟩
  have hk:k'≤5:=hk
  have hA:A=allP t k':=hA
  have hl:=xH t k'
  rw[←hA] at hl
  rcases(show k'=0∨k'=1∨k'=2∨k'=3∨k'=4∨k'=5 by omega) with rfl|rfl|rfl|rfl|rfl|rfl
  ·have k1:=fun n=>bA (G:=G) n
   refine xm ?_
   repeat' (first|exact Le.n|refine Lc.mk ?_ ?_)
   all_goals intros
   ·refine nxs (1,A++twoS (numP t 0)) ⟨show(1:Nat)≤5 by decide,fQ hA (by assumption)⟩ (show 5-1<5-0 by decide) (by repeat (first|exact trivial|refine And.intro rfl ?_)) (by repeat (first|exact List.nil_sublist _|apply List.Sublist.cons_cons|apply List.Sublist.cons))
   ·refine nxs (1,A) ⟨show(1:Nat)≤5 by decide,dX hA (by assumption)⟩ (show 5-1<5-0 by decide) (by repeat (first|exact trivial|refine And.intro rfl ?_)) (by repeat (first|exact List.nil_sublist _|apply List.Sublist.cons_cons|apply List.Sublist.cons))
  ·have k1:=fun n=>bA (G:=G) n
   refine xm ?_
   repeat' (first|exact Le.n|refine Lc.mk ?_ ?_)
   all_goals intros
   ·refine nxs (2,A++twoS (numP t 1)) ⟨show(2:Nat)≤5 by decide,fQ hA (by assumption)⟩ (show 5-2<5-1 by decide) (by repeat (first|exact trivial|refine And.intro rfl ?_)) (by repeat (first|exact List.nil_sublist _|apply List.Sublist.cons_cons|apply List.Sublist.cons))
   ·refine nxs (2,A) ⟨show(2:Nat)≤5 by decide,dX hA (by assumption)⟩ (show 5-2<5-1 by decide) (by repeat (first|exact trivial|refine And.intro rfl ?_)) (by repeat (first|exact List.nil_sublist _|apply List.Sublist.cons_cons|apply List.Sublist.cons))
  ·have k1:=fun n=>bA (G:=G) n
   refine xm ?_
   repeat' (first|exact Le.n|refine Lc.mk ?_ ?_)
   all_goals intros
   ·refine nxs (3,A++twoS (numP t 2)) ⟨show(3:Nat)≤5 by decide,fQ hA (by assumption)⟩ (show 5-3<5-2 by decide) (by repeat (first|exact trivial|refine And.intro rfl ?_)) (by repeat (first|exact List.nil_sublist _|apply List.Sublist.cons_cons|apply List.Sublist.cons))
   ·refine nxs (3,A) ⟨show(3:Nat)≤5 by decide,dX hA (by assumption)⟩ (show 5-3<5-2 by decide) (by repeat (first|exact trivial|refine And.intro rfl ?_)) (by repeat (first|exact List.nil_sublist _|apply List.Sublist.cons_cons|apply List.Sublist.cons))
  ·have k1:=fun n=>bA (G:=G) n
   refine xm ?_
   repeat' (first|exact Le.n|refine Lc.mk ?_ ?_)
   all_goals intros
   ·refine nxs (4,A++twoS (numP t 3)) ⟨show(4:Nat)≤5 by decide,fQ hA (by assumption)⟩ (show 5-4<5-3 by decide) (by repeat (first|exact trivial|refine And.intro rfl ?_)) (by repeat (first|exact List.nil_sublist _|apply List.Sublist.cons_cons|apply List.Sublist.cons))
   ·refine nxs (4,A) ⟨show(4:Nat)≤5 by decide,dX hA (by assumption)⟩ (show 5-4<5-3 by decide) (by repeat (first|exact trivial|refine And.intro rfl ?_)) (by repeat (first|exact List.nil_sublist _|apply List.Sublist.cons_cons|apply List.Sublist.cons))
  ·have k1:=fun n=>bA (G:=G) n
   refine xm ?_
   repeat' (first|exact Le.n|refine Lc.mk ?_ ?_)
   all_goals intros
   ·refine nxs (5,A++twoS (numP t 4)) ⟨show(5:Nat)≤5 by decide,fQ hA (by assumption)⟩ (show 5-5<5-4 by decide) (by repeat (first|exact trivial|refine And.intro rfl ?_)) (by repeat (first|exact List.nil_sublist _|apply List.Sublist.cons_cons|apply List.Sublist.cons))
   ·refine nxs (5,A) ⟨show(5:Nat)≤5 by decide,dX hA (by assumption)⟩ (show 5-5<5-4 by decide) (by repeat (first|exact trivial|refine And.intro rfl ?_)) (by repeat (first|exact List.nil_sublist _|apply List.Sublist.cons_cons|apply List.Sublist.cons))
  refine xm1 ?_
  intros
  refine dw_p mixed hC hGL false (fun(_:Unit)=>[(1,.rop [.int .i64 t.y,.int .i64 t.m,.int .i64 t.d,.int .i64 t.h,.int .i64 t.i,.int .i64 t.s,.bool t.z,.int .i64 t.o] 0),(3,.str A),(6,.str (bj (whN (tlB t.y) (tlB t.m) (tlB t.d)).toNat))]) (fun _=>[]) (.take 1 (.take 2 (.take 3 (.take 4 (.take 5 (.take 6 (.br 0 (.br 7 (.br 8 (.take 9 (.take 10 (.take 11 (.take 12 (.done))))) (.nil)) (.nil)) (.br 7 (.br 0 (.br 8 (.take 9 (.take 10 (.take 11 (.take 12 (.done))))) (.nil)) (.br 8 (.br 0 (.take 9 (.take 10 (.take 11 (.take 12 (.done))))) (.nil)) (.nil))) (.nil))))))))) (by kernel_rfl) ?_ ?_
  ·refine xn ?_
   repeat' (first|exact Le.n|refine Lc.mk ?_ ?_)
   all_goals intros
   all_goals exact⟨(),⟨rfl,rfl,rfl,trivial⟩,rfl⟩
  intro _
  repeat' (first|(conv=>whnf);first|refine .w ?_|refine .v ?_|refine sc_c ?_ ?_<;>(intro hb;try exact dd hb)|apply ao|apply aG|(apply sc_i<;>intro hb)|(apply bx_i;intro hbd)|(apply ax;first|exact h2|exact h3)|(apply aw (i:=0) rfl;first|exact h2|exact h3)|(apply ab_i;intro bl)|(apply as_i;intro va vk vc hva)|(apply av_i;intro v)|(apply ac_i;intro bl cap hcap)|apply bo_l|(apply nx_i<;>intro hnx)|exact True.intro|(apply bc_i;intro C hC)|apply bt_i|apply og_n|(apply og_a;exact rfl)|(show Rt _ _ _;exact rt_w)|fail)
  all_goals try conv=>whnf
  ·have hG:=qA hf (by assumption)
   have hLF:(bj (whN (tlB t.y) (tlB t.m) (tlB t.d)).toNat++([84]++clkF (whN (tlB t.h) (tlB t.i) (tlB t.s)).toNat)).length≤15:=by first|(rw[List.length_append,List.length_append,List.length_singleton];omega)|omega
   rw[←hA] at hG
   refine lp hC hGL (fun(x:Nat×List UInt8×List UInt8)=>[(1,.rop [.int .i64 t.y,.int .i64 t.m,.int .i64 t.d,.int .i64 t.h,.int .i64 t.i,.int .i64 t.s,.bool t.z,.int .i64 t.o] 0),(3,.str x.2.2),(8,.str x.2.1),(73,.own 0 (.slice (some ⟨bl,0,none⟩) (bj (whN (tlB t.y) (tlB t.m) (tlB t.d)).toNat++([84]++clkF (whN (tlB t.h) (tlB t.i) (tlB t.s)).toNat)).length cap)),(74,.int .i64 ((bj (whN (tlB t.y) (tlB t.m) (tlB t.d)).toNat++([84]++clkF (whN (tlB t.h) (tlB t.i) (tlB t.s)).toNat)).length:Nat)),(75,.int .i64 (x.1:Nat))]) (fun _=>[.buf bl (bj (whN (tlB t.y) (tlB t.m) (tlB t.d)).toNat++([84]++clkF (whN (tlB t.h) (tlB t.i) (tlB t.s)).toNat)) cap]) (fun x=>fq (bj (whN (tlB t.y) (tlB t.m) (tlB t.d)).toNat++([84]++clkF (whN (tlB t.h) (tlB t.i) (tlB t.s)).toNat)) A x.1 x.2.1 x.2.2) (fun x=>(bj (whN (tlB t.y) (tlB t.m) (tlB t.d)).toNat++([84]++clkF (whN (tlB t.h) (tlB t.i) (tlB t.s)).toNat)).length-x.1) (0,[],A) (jl hG.1 hl) (by repeat (first|exact trivial|refine And.intro rfl ?_)) rfl ?_
   rintro⟨i,out,all⟩ hI
   have hI:fq (bj (whN (tlB t.y) (tlB t.m) (tlB t.d)).toNat++([84]++clkF (whN (tlB t.h) (tlB t.i) (tlB t.s)).toNat)) A i out all:=hI
   have hI1:=hI.1
   have hI2:=hI.2.1
   have hI3:=hI.2.2.1
   have hI0:=fun h=>iK hI h
   refine xw ?_
   repeat' (first|exact Le.n|refine Lc.mk ?_ ?_)
   all_goals intros
   ·refine aF hC hGL (bw [_] rfl (by intro v hv;obtain rfl:=List.mem_singleton.1 hv;exact⟨Int.natCast_nonneg _,by exact_mod_cast aO _ _⟩) rfl rfl rfl rfl rfl rfl) rfl rfl ?_
    refine xm1 ?_
    intros
    refine sp_i (show out.length+1≤9223372036854775807 by omega) ?_
    refine xm1 ?_
    intros
    refine nxt (i+1,out++aU [(aa all 0:Int)],all.drop 1) ?_ ?_ (by repeat (first|exact trivial|refine And.intro rfl ?_)) rfl
    ·exact jm hI (by omega) (by assumption)
    ·show _-(i+1)<_-i
     omega
   ·refine aF hC hGL (bw [_] rfl (by intro v hv;obtain rfl:=List.mem_singleton.1 hv;exact⟨Int.natCast_nonneg _,by exact_mod_cast aO _ _⟩) rfl rfl rfl rfl rfl rfl) rfl rfl ?_
    refine xm1 ?_
    intros
    refine sp_i (show out.length+1≤9223372036854775807 by omega) ?_
    refine xm1 ?_
    intros
    refine nxt (i+1,out++aU [(aa (bj (whN (tlB t.y) (tlB t.m) (tlB t.d)).toNat++([84]++clkF (whN (tlB t.h) (tlB t.i) (tlB t.s)).toNat)) i:Int)],all) ?_ ?_ (by repeat (first|exact trivial|refine And.intro rfl ?_)) rfl
    ·exact jn hI (by omega) (by assumption)
    ·show _-(i+1)<_-i
     omega
   all_goals
    apply ak
    refine congrArg AVal.str ?_
    have e:=lc hI (by omega)
    rw[hG.2] at e
    first
     |(rw[if_pos (by assumption),←e])
     |(rw[if_neg (by simp only[Bool.not_eq_true];assumption),←e,List.append_nil])
  ·have hG:=qB hf (by assumption)
   have hLF:(bj (whN (tlB t.y) (tlB t.m) (tlB t.d)).toNat).length≤15:=by first|(rw[List.length_append,List.length_append,List.length_singleton];omega)|omega
   rw[←hA] at hG
   refine lp hC hGL (fun(x:Nat×List UInt8×List UInt8)=>[(1,.rop [.int .i64 t.y,.int .i64 t.m,.int .i64 t.d,.int .i64 t.h,.int .i64 t.i,.int .i64 t.s,.bool t.z,.int .i64 t.o] 0),(3,.str x.2.2),(8,.str x.2.1),(73,.own 0 (.slice (some ⟨bl,0,none⟩) (bj (whN (tlB t.y) (tlB t.m) (tlB t.d)).toNat).length cap)),(74,.int .i64 ((bj (whN (tlB t.y) (tlB t.m) (tlB t.d)).toNat).length:Nat)),(75,.int .i64 (x.1:Nat))]) (fun _=>[.buf bl (bj (whN (tlB t.y) (tlB t.m) (tlB t.d)).toNat) cap]) (fun x=>fq (bj (whN (tlB t.y) (tlB t.m) (tlB t.d)).toNat) A x.1 x.2.1 x.2.2) (fun x=>(bj (whN (tlB t.y) (tlB t.m) (tlB t.d)).toNat).length-x.1) (0,[],A) (jl hG.1 hl) (by repeat (first|exact trivial|refine And.intro rfl ?_)) rfl ?_
   rintro⟨i,out,all⟩ hI
   have hI:fq (bj (whN (tlB t.y) (tlB t.m) (tlB t.d)).toNat) A i out all:=hI
   have hI1:=hI.1
   have hI2:=hI.2.1
   have hI3:=hI.2.2.1
   have hI0:=fun h=>iK hI h
   refine xw ?_
   repeat' (first|exact Le.n|refine Lc.mk ?_ ?_)
   all_goals intros
   ·refine aF hC hGL (bw [_] rfl (by intro v hv;obtain rfl:=List.mem_singleton.1 hv;exact⟨Int.natCast_nonneg _,by exact_mod_cast aO _ _⟩) rfl rfl rfl rfl rfl rfl) rfl rfl ?_
    refine xm1 ?_
    intros
    refine sp_i (show out.length+1≤9223372036854775807 by omega) ?_
    refine xm1 ?_
    intros
    refine nxt (i+1,out++aU [(aa all 0:Int)],all.drop 1) ?_ ?_ (by repeat (first|exact trivial|refine And.intro rfl ?_)) rfl
    ·exact jm hI (by omega) (by assumption)
    ·show _-(i+1)<_-i
     omega
   ·refine aF hC hGL (bw [_] rfl (by intro v hv;obtain rfl:=List.mem_singleton.1 hv;exact⟨Int.natCast_nonneg _,by exact_mod_cast aO _ _⟩) rfl rfl rfl rfl rfl rfl) rfl rfl ?_
    refine xm1 ?_
    intros
    refine sp_i (show out.length+1≤9223372036854775807 by omega) ?_
    refine xm1 ?_
    intros
    refine nxt (i+1,out++aU [(aa (bj (whN (tlB t.y) (tlB t.m) (tlB t.d)).toNat) i:Int)],all) ?_ ?_ (by repeat (first|exact trivial|refine And.intro rfl ?_)) rfl
    ·exact jn hI (by omega) (by assumption)
    ·show _-(i+1)<_-i
     omega
   all_goals
    apply ak
    refine congrArg AVal.str ?_
    have e:=lc hI (by omega)
    rw[hG.2] at e
    first
     |(rw[if_pos (by assumption),←e])
     |(rw[if_neg (by simp only[Bool.not_eq_true];assumption),←e,List.append_nil])
end
section
open Go Go.RowKit
set_option maxHeartbeats 8000000
theorem Stm.three (t:Stm):(t.frm=true∧t.rng=true∧t.E= .none∧t.e=0∧t.T=t.txt)∨(t.E= .errno 2∧t.e=2∧t.T=[])∨(t.E= .errno 3∧t.e=3∧t.T=[]):=by
 unfold Stm.E Stm.e Stm.T
 cases t.frm<;>cases t.rng<;>simp
attribute [local irreducible] AWp AOps aA OrOk ad ah aa Stm.txt dayN
theorem pm {G:Glo}(hS:ad G shapesTy)(hP:cQ G)(t:Stm):FnIs Tryz.prog G 44 [t.A] (.tuple [.str t.T,.int .i64 t.e]):=by
 have h1:=fL hS t
 rcases Stm.three t with⟨hf,hr,h2,h3,h4⟩|⟨h2,h3,h4⟩|⟨h2,h3,h4⟩
 ·have h5:=rq hS hP t hf hr
  rw[h3] at h1
  rw[h3,h4]
  have hGL:ad G []:=ab
  refine fn_x Tryz.func44 Tryz.call44 rfl rfl rfl rfl hGL ?_
  intro C hC
  repeat' (first|(conv=>whnf);first|refine .w ?_|refine .v ?_|refine sc_c ?_ ?_<;>(intro hb;try exact dd hb)|apply ao|apply aG|(apply sc_i<;>intro hb)|(apply bx_i;intro hbd)|(apply ax;first|exact h1|exact h5)|(apply aw (i:=0) rfl;first|exact h1|exact h5)|(apply ab_i;intro bl)|(apply as_i;intro va vk vc hva)|(apply av_i;intro v)|(apply ac_i;intro bl cap hcap)|apply bo_l|(apply nx_i<;>intro hnx)|apply dw_q mixed hC hGL (by kernel_rfl)|(apply cq;assumption;(first|exact h1|exact h5);exact rfl)|(show Rt _ _ _;exact rt_w)|fail)
  all_goals try conv=>whnf
 ·rw[h3] at h1
  rw[h3,h4]
  have hGL:ad G []:=ab
  refine fn_x Tryz.func44 Tryz.call44 rfl rfl rfl rfl hGL ?_
  intro C hC
  repeat' (first|(conv=>whnf);first|refine .w ?_|refine .v ?_|refine sc_c ?_ ?_<;>(intro hb;try exact dd hb)|apply ao|apply aG|(apply sc_i<;>intro hb)|(apply bx_i;intro hbd)|(apply ax;first|exact h1)|(apply aw (i:=0) rfl;first|exact h1)|(apply ab_i;intro bl)|(apply as_i;intro va vk vc hva)|(apply av_i;intro v)|(apply ac_i;intro bl cap hcap)|apply bo_l|(apply nx_i<;>intro hnx)|apply dw_q mixed hC hGL (by kernel_rfl)|(apply cq;assumption;(first|exact h1);exact rfl)|(show Rt _ _ _;exact rt_w)|fail)
  all_goals try conv=>whnf
 ·rw[h3] at h1
  rw[h3,h4]
  have hGL:ad G []:=ab
  refine fn_x Tryz.func44 Tryz.call44 rfl rfl rfl rfl hGL ?_
  intro C hC
  repeat' (first|(conv=>whnf);first|refine .w ?_|refine .v ?_|refine sc_c ?_ ?_<;>(intro hb;try exact dd hb)|apply ao|apply aG|(apply sc_i<;>intro hb)|(apply bx_i;intro hbd)|(apply ax;first|exact h1)|(apply aw (i:=0) rfl;first|exact h1)|(apply ab_i;intro bl)|(apply as_i;intro va vk vc hva)|(apply av_i;intro v)|(apply ac_i;intro bl cap hcap)|apply bo_l|(apply nx_i<;>intro hnx)|apply dw_q mixed hC hGL (by kernel_rfl)|(apply cq;assumption;(first|exact h1);exact rfl)|(show Rt _ _ _;exact rt_w)|fail)
  all_goals try conv=>whnf
end
section
open Go Go.RowKit
attribute [local irreducible] AWp AOps aa aA OrOk ad ah
theorem D4 {G:Glo}(c:Crd)(ho:∀x∈c.l,Itm.OK 1048576 x)(hl:c.l.length≤1048576):ah Tryz.prog G 4 [c.A] [] (fun r H=>(∃a,r= .ret a∧∃b,a= .bool b∧(b=false→c.fine))∧H=[]):=by
  obtain⟨v,l⟩:=c
  dsimp only at ho hl
  have hGL:ad G []:=ab
  refine fn_x Tryz.func4 Tryz.call4 rfl rfl rfl rfl hGL ?_
  intro C hC
  refine xw ?_
  repeat' (first|exact Le.n|refine Lc.mk ?_ ?_)
  all_goals intros
  · exact⟨[],List.nil_sublist _,⟨_,rfl,true,rfl,fun h=>by cases h⟩,rfl⟩
  have h70 : l.length ≤ 70 := by have:(l.length:Int)≤70:=by assumption
                                 omega
  refine lp hC hGL (fun k:Nat=>[(10,.list 15 l.length (itsF l)),(11,.int .i64 (l.length:Nat)),(12,.int .i64 (k:Nat))]) (fun _=>[]) (fun k=>k≤l.length∧∀j,j<k→Itm.OK 2500 (l.getD j Itm.z)) (fun k=>l.length-k) 0 ⟨Nat.zero_le _,fun j h=>absurd h (Nat.not_lt_zero _)⟩ ae rfl ?_
  rintro k ⟨h1,h2⟩
  by_cases hk:k<l.length
  · have hx:=iF ho hk
    have hw:=B5 (G:=G) (l.getD k Itm.z).p hx.p
    have ht:=zQ (G:=G) (l.getD k Itm.z).2 (by have:=hx.s;omega) hx.L
    refine xw1 ?_
    intros
    refine sj hw ?_
    rintro _ ⟨b,rfl,hb⟩
    cases b with
    | true=>
      refine xw1 ?_
      exact⟨[],List.nil_sublist _,⟨_,rfl,true,rfl,fun h=>by cases h⟩,rfl⟩
    | false=>
      refine xw1 ?_
      refine sj ht ?_
      rintro _ ⟨b,rfl,hb2⟩
      cases b with
      | true=>
        refine xw1 ?_
        exact⟨[],List.nil_sublist _,⟨_,rfl,true,rfl,fun h=>by cases h⟩,rfl⟩
      | false=>
        refine xw1 ?_
        intros
        refine nxs (k+1) ⟨hk,fun j hj=> ?_⟩ (by omega) ae aB
        rcases Nat.lt_or_eq_of_le (Nat.le_of_lt_succ hj) with h|rfl
        · exact h2 j h
        · exact⟨hb rfl,hb2 rfl,hx.L⟩
  · refine xw1 ?_
    intros
    exact⟨[],List.nil_sublist _,⟨_,rfl,false,rfl,fun _=>⟨h70,yy fun j hj=>h2 j (by dsimp only at hj;omega)⟩⟩,rfl⟩
end
section
open Go.ChangeShapes Go.WideShapes Go.ChangeAt Go.RowKit Go.WideMaps Go.WideElems
theorem CY {H:Type}(d:DataW H):1≤Rows.uptoBulk d:=by
 cases d with
 |lit l=>cases l<;>simp[Rows.uptoBulk]
 |_=>simp[Rows.uptoBulk]
theorem lr {H:Type}:∀l:List (DataW H),l.length≤Rows.uptoBulkAll l
 |[]=>Nat.zero_le _
 |x::r=>by
  have h1:=CY x
  have h2:=lr r
  simp only[Rows.uptoBulkAll,List.length_cons]
  omega
theorem lq {H:Type}{d:DataW H}:∀{l:List (DataW H)},d∈l→Rows.uptoBulk d≤Rows.uptoBulkAll l
 |[],h=>by cases h
 |x::r,h=>by
  simp only[Rows.uptoBulkAll]
  rcases List.mem_cons.1 h with rfl|h
  ·omega
  ·have:=lq h;omega
theorem qF {H:Type}:∀l:List (List UInt8),Rows.uptoBulkAll (H:=H) (l.map fun s=>.lit (.string s))=Lib.lens l+l.length
 |[]=>rfl
 |s::r=>by
  have e1:Lib.lens (s::r)=s.length+Lib.lens r:=by simp[Lib.lens]
  have h:=qF (H:=H) r
  simp only[List.map_cons,Rows.uptoBulkAll,Rows.uptoBulk,h,e1,List.length_cons]
  omega
section
variable {H:Type} {enc:TypeId×Value→H} {W:World}
theorem tB {m:Nat}{f:Nat→AVal}{a:Addr}{cap:Nat}(hm:m≤cap){V:Nat→Value}(hV:∀i,i<m→W.cell? (a.add i)=some (V i)∧RelC (az W W.heap.size) (f i) [V i]):
  Rel (az W W.heap.size) (.list 1 m f) (.slice (some a) m cap):=by
 refine⟨⟨some a,cap,rfl,hm,?_⟩,rfl⟩
 rcases Nat.eq_zero_or_pos m with h0|h0
 ·exact .inl h0
 ·refine .inr ?_
  obtain⟨b,o,sp⟩:=a
  have h1:=(hV 0 h0).1
  rw[show(⟨b,o,sp⟩:Addr).add 0=⟨b,o,sp⟩ from rfl] at h1
  unfold World.cell? at h1
  dsimp only at h1
  cases hW:W.heap[b]? with
  |none=>rw[hW] at h1;cases h1
  |some ob=>
   cases ob with
   |cells C e fz=>
    rw[hW] at h1
    cases sp with
    |some s=>simp at h1
    |none=>
     refine⟨b,o,C,e,fz,rfl,?_,fun i hi=> ?_⟩
     ·unfold az
      rw[if_pos (Array.getElem?_eq_some_iff.1 hW).1]
      exact hW
     ·obtain⟨h2,h3⟩:=hV i hi
      have ha:(⟨b,o,none⟩:Addr).add i=⟨b,o+i,none⟩:=by
       unfold Addr.add
       split
       ·rename_i h;rw[h];rfl
       ·rfl
      rw[ha] at h2
      have hci:C[o+i]? =some (V i):=by
       unfold World.cell? at h2
       simpa[hW] using h2
      have hlt:o+i<C.toList.length:=by simpa using(Array.getElem?_eq_some_iff.1 hci).1
      have e1:(C.toList.drop (o+i*1)).take 1=[V i]:=by
       rw[Nat.mul_one,List.drop_eq_getElem_cons hlt,List.take_succ_cons,List.take_zero]
       have:C.toList[o+i]? =some (V i):=by rw[Array.getElem?_toList];exact hci
       rw[List.getElem?_eq_getElem hlt] at this
       rw[Option.some.inj this]
      rw[e1]
      exact h3
   |_=>rw[hW] at h1;cases h1
theorem tA {fuel:Nat}{spare:Nat→Bool}{held:Bool}{v:Value}{x:DataW H×List MemPlace}(h:DataW.trod enc Tryz.prog W 0 spare held fuel 26 [v]=some x):
  ∃l:List (List UInt8),Rel (az W W.heap.size) (.list 1 l.length (aq l)) v∧l.length≤Rows.uptoBulk x.1∧Lib.lens l≤Rows.uptoBulk x.1:=by
 rcases Go.Deep.open_strs Tryz.underlying26 Tryz.underlying9 (by kernel_rfl) h with⟨hv,rfl⟩|⟨a,len,cap,m,Sx,hv,_,hl,_,hm,rfl,hx⟩
 ·obtain rfl:v= .slice none 0 0:=by simpa using hv
  exact⟨[],⟨⟨none,0,rfl,Nat.le_refl _,.inl rfl⟩,rfl⟩,Nat.zero_le _,Nat.zero_le _⟩
 ·obtain rfl:v= .slice (some a) len cap:=by simpa using hv
  have hlm:len≤m:=by rw[hm];split<;>omega
  let l:List (List UInt8):=(List.range len).map fun i=>(Sx i).data.toList
  have hll:l.length=len:=by simp[l]
  have hget:∀i,i<len→l.getD i []=(Sx i).data.toList:=fun i hi=>by simp[l,List.getD,hi]
  refine⟨l,?_,?_⟩
  ·rw[hll]
   refine tB hl (V:=fun i=>.string (Sx i)) (fun i hi=>⟨(hx i (by omega)).1,?_⟩)
   have:=(aE (R:=az W W.heap.size) (s:=l.getD i []) (v:=.string (Sx i))).2 (by rw[hget i hi,io])
   exact this.1
  ·have e1:((List.range len).map fun i=>(DataW.lit (.string (Sx i).data.toList):DataW H))=l.map fun s=>.lit (.string s):=by simp[l,List.map_map,Function.comp_def]
   have h1:=qF (H:=H) l
   simp only[Rows.uptoBulk]
   rw[e1,h1]
   omega
theorem zA {fuel:Nat}{spare:Nat→Bool}{held:Bool}{v:Value}{x:DataW H×List MemPlace}(h:DataW.trod enc Tryz.prog W 0 spare held fuel 42 [v]=some x)(hb:Rows.uptoBulk x.1≤1048576):
  ∃L:List (List (List UInt8)),Rel (az W W.heap.size) (.list 1 L.length (bY L)) v∧Small L:=by
 rcases Go.Deep.open_slice1 Tryz.underlying42 (by kernel_rfl) h with⟨hv,rfl⟩|⟨a,len,cap,m,n,V,D,Pl,hv,_,hl,_,hm,rfl,hx⟩
 ·obtain rfl:v= .slice none 0 0:=by simpa using hv
  refine⟨[],⟨⟨none,0,rfl,Nat.le_refl _,.inl rfl⟩,rfl⟩,⟨by simp,fun k=> ?_⟩⟩
  rw[List.getD_nil]
  exact⟨by simp,by simp[Lib.lens]⟩
 ·obtain rfl:v= .slice (some a) len cap:=by simpa using hv
  have hlm:len≤m:=by rw[hm];split<;>omega
  obtain⟨Lx,hLx⟩:=Go.Deep.choose_lt (α:=List (List UInt8)) (n:=len) (p:=fun i l=>Rel (az W W.heap.size) (.list 1 l.length (aq l)) (V i)∧l.length≤Rows.uptoBulk (D i)∧Lib.lens l≤Rows.uptoBulk (D i)) (fun i hi=>tA (hx i (by omega)).2)
  let L:List (List (List UInt8)):=(List.range len).map Lx
  have hll:L.length=len:=by simp[L]
  have hget:∀i,i<len→L.getD i []=Lx i:=fun i hi=>by simp[L,List.getD,hi]
  simp only[Rows.uptoBulk] at hb
  have h1:=lr ((List.range len).map D)
  rw[List.length_map,List.length_range] at h1
  refine⟨L,?_,⟨by omega,fun k=> ?_⟩⟩
  ·rw[hll]
   refine tB hl (V:=V) (fun i hi=>⟨(hx i (by omega)).1,?_⟩)
   have h2:=(hLx i hi).1
   unfold bY
   rw[hget i hi]
   have h3:=h2.1
   obtain⟨c,cp,e,h4⟩:=h3
   have e2:[V i]=[.slice c (Lx i).length cp]:=by
    obtain⟨c2,cp2,e3,_⟩:=aP h2 rfl
    have e4:V i= .slice c2 (Lx i).length cp2:=by simpa using e3
    rw[e4] at e ⊢
    exact e
   exact⟨c,cp,e2,h4⟩
  ·by_cases hk:k<len
   ·rw[hget k hk]
    have h2:=(hLx k hk).2
    have h3:=lq (d:=D k) (l:=(List.range len).map D) (List.mem_map.2 ⟨k,List.mem_range.2 hk,rfl⟩)
    omega
   ·rw[List.getD_eq_getElem?_getD,List.getElem?_eq_none (by omega)]
    exact⟨by simp,by simp[Lib.lens]⟩
end
end
section
open Go Go.ChangeShapes Go.WideShapes Go.ChangeAt Go.RowKit Go.WideMaps Go.WideElems
theorem qT {α:Type}{l:List α}(h:l.length=2):∃a b,l=[a,b]:=by
 match l,h with
 |[a,b],_=>exact⟨a,b,rfl⟩
theorem Ei {α:Type}{l:List α}(h:l.length=4):∃a b c d,l=[a,b,c,d]:=by
 match l,h with
 |[a,b,c,d],_=>exact⟨a,b,c,d,rfl⟩
theorem vo (b o n:Nat):(⟨b,o,none⟩:Addr).add n=⟨b,o+n,none⟩:=by
 unfold Addr.add
 split
 ·rename_i h;rw[h];rfl
 ·rfl
theorem Al {W:World}{b o:Nat}{C:Array Value}{e:TypeId}{fz:Nat×Nat}(h:W.heap[b]? =some (.cells C e fz)):W.cell? ⟨b,o,none⟩=C[o]? :=by
 unfold World.cell?
 simp[h]
section
variable {H:Type} {enc:TypeId×Value→H} {W:World}
theorem pY {sz m:Nat}(hz:0<sz){f:Nat→AVal}{a:Addr}{cap:Nat}(hm:m≤cap){cs:Nat→List Value}(hV:∀i,i<m→W.cells? 0 (a.add (i*sz)) sz=some (cs i)∧RelC (az W W.heap.size) (f i) (cs i)):
  Rel (az W W.heap.size) (.list sz m f) (.slice (some a) m cap):=by
 refine⟨⟨some a,cap,rfl,hm,?_⟩,rfl⟩
 rcases Nat.eq_zero_or_pos m with h0|h0
 ·exact .inl h0
 ·refine .inr ?_
  obtain⟨b,o,sp⟩:=a
  obtain⟨_,hl0,hc0⟩:=World.cells?_some (hV 0 h0).1
  have h1:=hc0 0 hz
  rw[Nat.zero_mul,show(⟨b,o,sp⟩:Addr).add 0=⟨b,o,sp⟩ from rfl,show(⟨b,o,sp⟩:Addr).add 0=⟨b,o,sp⟩ from rfl,List.getElem?_eq_getElem (by omega)] at h1
  unfold World.cell? at h1
  dsimp only at h1
  cases hW:W.heap[b]? with
  |none=>rw[hW] at h1;cases h1
  |some ob=>
   cases ob with
   |cells C e fz=>
    rw[hW] at h1
    cases sp with
    |some s=>simp at h1
    |none=>
     refine⟨b,o,C,e,fz,rfl,?_,fun i hi=> ?_⟩
     ·unfold az
      rw[if_pos (Array.getElem?_eq_some_iff.1 hW).1]
      exact hW
     ·obtain⟨h2,h3⟩:=hV i hi
      obtain⟨_,hl,hc⟩:=World.cells?_some h2
      have e1:(C.toList.drop (o+i*sz)).take sz=cs i:=by
       refine List.ext_getElem? fun k=> ?_
       by_cases hk:k<sz
       ·have h4:=hc k hk
        rw[vo,vo,Al hW] at h4
        rw[←h4,List.getElem?_take_of_lt hk,List.getElem?_drop,Array.getElem?_toList]
       ·rw[List.getElem?_eq_none (by rw[List.length_take];omega),List.getElem?_eq_none (by omega)]
      rw[e1]
      exact h3
   |_=>rw[hW] at h1;cases h1
theorem zB {fuel:Nat}{spare:Nat→Bool}{held:Bool}{cs:List Value}{x:DataW H×List MemPlace}(h:DataW.trod enc Tryz.prog W 0 spare held fuel 60 cs=some x):
  ∃q:Pr,RelC (az W W.heap.size) (.agg [.str q.n,.list 1 q.vs.length (aq q.vs)]) cs∧q.n.length≤Rows.uptoBulk x.1∧q.vs.length≤Rows.uptoBulk x.1∧Lib.lens q.vs≤Rows.uptoBulk x.1:=by
 obtain⟨xs,n,_,hx,hl,hxl,hf⟩:=DataW.trod_struct Tryz.underlying60 h
 have hc:Tryz.prog.cellsOf 60=2:=by kernel_rfl
 have hcs:Tryz.prog.cellsOf 9=1:=by kernel_rfl
 have hcp:Tryz.prog.cellsOf 26=1:=by kernel_rfl
 rw[hc] at hl
 have hxl:xs.length=2:=hxl
 obtain⟨x0,x1,rfl⟩:=qT hxl
 obtain⟨u0,u1,rfl⟩:=qT hl
 have g0:DataW.trod enc Tryz.prog W 0 spare held n 9 (([u0,u1].drop 0).take (Tryz.prog.cellsOf 9))=some x0:=hf 0 _ rfl
 have g1:DataW.trod enc Tryz.prog W 0 spare held n 26 (([u0,u1].drop 1).take (Tryz.prog.cellsOf 26))=some x1:=hf 1 _ rfl
 rw[hcs] at g0
 rw[hcp] at g1
 simp only[List.drop_zero,List.drop_succ_cons,List.take_succ_cons,List.take_zero] at g0 g1
 obtain⟨s0,q0,e0,_⟩:=DataW.trod_string Tryz.underlying9 g0
 obtain⟨l,r1,hb1,hb2⟩:=tA g1
 obtain rfl:=List.singleton_inj.1 q0
 rw[hx]
 simp only[List.map_cons,List.map_nil,Rows.uptoBulk,Rows.uptoBulkAll]
 refine⟨⟨s0.data.toList,l⟩,⟨_,_,rfl,by rw[RelC,io],_,_,rfl,aP r1 rfl,rfl⟩,?_,by dsimp only;omega,by dsimp only;omega⟩
 rw[e0]
 simp only[Rows.uptoBulk]
 omega
theorem v6 {fuel:Nat}{spare:Nat→Bool}{held:Bool}{v:Value}{x:DataW H×List MemPlace}(h:DataW.trod enc Tryz.prog W 0 spare held fuel 41 [v]=some x):
  ∃L:List Pr,Rel (az W W.heap.size) (.list 2 L.length (prF L)) v∧L.length≤Rows.uptoBulk x.1∧∀k,(L.getD k Pr.z).n.length≤Rows.uptoBulk x.1∧(L.getD k Pr.z).vs.length≤Rows.uptoBulk x.1∧Lib.lens (L.getD k Pr.z).vs≤Rows.uptoBulk x.1:=by
 have hc:Tryz.prog.cellsOf 60=2:=by kernel_rfl
 rcases Go.Deep.open_slice Tryz.underlying41 h with⟨hv,rfl⟩|⟨a,len,cap,m,n,D,Pl,hv,_,hl,_,hm,rfl,hx⟩
 ·obtain rfl:v= .slice none 0 0:=by simpa using hv
  refine⟨[],⟨⟨none,0,rfl,Nat.le_refl _,.inl rfl⟩,rfl⟩,Nat.zero_le _,fun k=> ?_⟩
  rw[List.getD_nil]
  exact⟨by simp[Pr.z],by simp[Pr.z],by simp[Pr.z,Lib.lens]⟩
 ·obtain rfl:v= .slice (some a) len cap:=by simpa using hv
  rw[hc] at hx
  have hlm:len≤m:=by rw[hm];split<;>omega
  obtain⟨Cx,hCx⟩:=Go.Deep.choose_lt (α:=List Value) (n:=len) (p:=fun i cs=>W.cells? 0 (a.add (i*2)) 2=some cs∧DataW.trod enc Tryz.prog W 0 spare held n 60 cs=some (D i,Pl i)) (fun i hi=>hx i (by omega))
  obtain⟨Lx,hLx⟩:=Go.Deep.choose_lt (α:=Pr) (n:=len) (p:=fun i q=>RelC (az W W.heap.size) (.agg [.str q.n,.list 1 q.vs.length (aq q.vs)]) (Cx i)∧q.n.length≤Rows.uptoBulk (D i)∧q.vs.length≤Rows.uptoBulk (D i)∧Lib.lens q.vs≤Rows.uptoBulk (D i)) (fun i hi=>zB (hCx i hi).2)
  let L:List Pr:=(List.range len).map Lx
  have hll:L.length=len:=by simp[L]
  have hget:∀i,i<len→L.getD i Pr.z=Lx i:=fun i hi=>by simp[L,List.getD,hi]
  have h1:=lr ((List.range len).map D)
  rw[List.length_map,List.length_range] at h1
  simp only[Rows.uptoBulk]
  refine⟨L,?_,by omega,fun k=> ?_⟩
  ·rw[hll]
   refine pY (by decide) hl (cs:=Cx) (fun i hi=>⟨(hCx i hi).1,?_⟩)
   unfold prF
   rw[hget i hi]
   exact(hLx i hi).1
  ·by_cases hk:k<len
   ·rw[hget k hk]
    have h2:=(hLx k hk).2
    have h3:=lq (d:=D k) (l:=(List.range len).map D) (List.mem_map.2 ⟨k,List.mem_range.2 hk,rfl⟩)
    omega
   ·rw[List.getD_eq_getElem?_getD,List.getElem?_eq_none (by omega)]
    exact⟨by simp[Pr.z],by simp[Pr.z],by simp[Pr.z,Lib.lens]⟩
end
end
section
open Go Go.ChangeShapes Go.WideShapes
theorem oQ {W:World}{a:Addr}{v:Value}(h:W.cell? a=some v):∃b o C e fz,a=⟨b,o,none⟩∧W.heap[b]? =some (.cells C e fz):=by
 obtain⟨b,o,sp⟩:=a
 unfold World.cell? at h
 dsimp only at h
 cases hW:W.heap[b]? with
 |none=>rw[hW] at h;cases h
 |some ob=>
  cases ob with
  |cells C e fz=>
   rw[hW] at h
   cases sp with
   |some s=>simp at h
   |none=>exact⟨b,o,C,e,fz,rfl,hW⟩
  |_=>rw[hW] at h;cases h
theorem vp (b o i:Nat):(⟨b,o,none⟩:Addr).add i=⟨b,o+i,none⟩:=by
 unfold Addr.add
 split
 ·rename_i h;rw[h];rfl
 ·rfl
theorem EA {W:World}{b o:Nat}{C:Array Value}{e:TypeId}{fz:Nat×Nat}(hW:W.heap[b]? =some (.cells C e fz)):W.cell? ⟨b,o,none⟩=C.toList[o]? :=by
 unfold World.cell?
 simp[hW]
theorem xo {W:World}{base b o n:Nat}{C:Array Value}{e:TypeId}{fz:Nat×Nat}(hW:W.heap[b]? =some (.cells C e fz)){cs:List Value}(h:W.cells? base ⟨b,o,none⟩ n=some cs):(C.toList.drop o).take n=cs:=by
 obtain⟨_,hl,hi⟩:=World.cells?_some h
 have hx:∀i,i<n→C.toList[o+i]? =cs[i]? :=fun i k=>by
  have:=hi i k
  rwa [vp,EA hW] at this
 apply List.ext_getElem?
 intro i
 by_cases k:i<n
 ·rw[List.getElem?_take_of_lt k,List.getElem?_drop,hx i k]
 ·rw[List.getElem?_eq_none (by rw[List.length_take];omega),List.getElem?_eq_none (by omega)]
theorem tz {R:Seal}{x y z:List UInt8}{cs:List Value}{s0 s1 s2:ByteArray}(h:cs=[.string s0,.string s1,.string s2])(h0:s0.data.toList=x)(h1:s1.data.toList=y)(h2:s2.data.toList=z):RelC R (.agg [.str x,.str y,.str z]) cs:=by
 subst h h0 h1 h2
 exact⟨_,_,rfl,by rw[RelC,io],_,_,rfl,by rw[RelC,io],_,_,rfl,by rw[RelC,io],rfl⟩
theorem AU {α:Type}{l:List α}(h:l.length=3):∃a b c,l=[a,b,c]:=by
 match l,h with
 |[a,b,c],_=>exact⟨a,b,c,rfl⟩
theorem uP {α:Type}{l:List α}(h:l.length=8):∃a b c d e f g i,l=[a,b,c,d,e,f,g,i]:=by
 match l,h with
 |[a,b,c,d,e,f,g,i],_=>exact⟨a,b,c,d,e,f,g,i,rfl⟩
def nG {H:Type}(i:Nat):DataW H:=.agg [.lit (.string (EU i)),.lit (.string (bj i)),.lit (.string (clkF i))]
theorem sZ {W:World}{laid:List (String×DataW Unit)}(hL:laidMetH Tryz.prog laid W)(hm:("visitingcard/visitingcardref.shapes",Rows.laid_visitingcard_visitingcardref_shapes)∈laid):bX (az W W.heap.size) 2 0 [.list 3 7 qY]:=by
 obtain⟨C0,e0,fz0,fuel,p,hW0,hd⟩:=gJ hL hm (by kernel_rfl) (g:=2) (t:=190) (by kernel_rfl) (by kernel_rfl)
 rcases Go.Deep.open_slice Tryz.underlying190 hd with⟨_,hx⟩|⟨a,len,cap,m,n,D,Pl,hv,_,hl,_,hm2,hx,hi⟩
 ·cases hx
 have e1:(List.range 7).map (fun i=>(nG i:DataW Unit))=(List.range len).map D:=by
  have:=(DataW.slice.inj (Prod.mk.inj hx).1).1
  rw[←this]
  rfl
 have hlen:len=7:=by
  have:=congrArg List.length e1
  simpa using this.symm
 subst hlen
 have hD:∀i,i<7→D i=nG i:=fun i k=>by
  have h1:((List.range 7).map D)[i]? =some (D i):=by simp[k]
  have h2:((List.range 7).map (fun i=>(nG i:DataW Unit)))[i]? =some (nG i):=by simp[k]
  rw[e1,h1] at h2
  exact Option.some.inj h2
 have hm7:7≤m:=by rw[hm2];split<;>omega
 have hc3:Tryz.prog.cellsOf 189=3:=by kernel_rfl
 have hc1:Tryz.prog.cellsOf 9=1:=by kernel_rfl
 rw[hc3] at hi
 obtain⟨c0,hc0,_⟩:=hi 0 (by omega)
 have hcell:∃v,W.cell? a=some v:=by
  obtain⟨_,h1,h2⟩:=World.cells?_some hc0
  have h3:=h2 0 (by decide)
  rw[Nat.zero_mul,show(a.add 0).add 0=a from rfl,List.getElem?_eq_getElem (by omega)] at h3
  exact⟨_,h3⟩
 obtain⟨v,hv0⟩:=hcell
 obtain⟨b,o,C,e,fz,rfl,hWb⟩:=oQ hv0
 refine dv (iP hW0) hW0 ?_
 rw[hv]
 refine⟨_,_,rfl,⟨some ⟨b,o,none⟩,cap,rfl,hl,.inr ⟨b,o,C,e,fz,rfl,?_,fun i k=> ?_⟩⟩,rfl⟩
 ·unfold az
  rw[if_pos (iP hWb)]
  exact hWb
 ·obtain⟨cs,h1,h2⟩:=hi i (by omega)
  rw[vp] at h1
  have h3:=xo hWb h1
  rw[h3]
  rw[hD i k] at h2
  obtain⟨y0,y1,y2,n2,hy,hcl,g0,g1,g2⟩:=Go.Deep.trod_struct3 Tryz.underlying189 h2
  rw[hc3] at hcl
  obtain⟨s0,q0,r0,_⟩:=DataW.trod_string Tryz.underlying9 g0
  obtain⟨s1,q1,r1,_⟩:=DataW.trod_string Tryz.underlying9 g1
  obtain⟨s2,q2,r2,_⟩:=DataW.trod_string Tryz.underlying9 g2
  have hy1:=(Prod.mk.inj hy).1
  rw[r0,r1,r2] at hy1
  unfold nG at hy1
  simp only[DataW.agg.injEq,List.cons.injEq,DataW.lit.injEq,Lit.string.injEq,and_true] at hy1
  refine tz (s0:=s0) (s1:=s1) (s2:=s2) ?_ hy1.1.symm hy1.2.1.symm hy1.2.2.symm
  obtain⟨u0,u1,u2,rfl⟩:=AU hcl
  have q0:([u0,u1,u2].drop 0).take (Tryz.prog.cellsOf 9)=[.string s0]:=q0
  have q1:([u0,u1,u2].drop 1).take (Tryz.prog.cellsOf 9)=[.string s1]:=q1
  have q2:([u0,u1,u2].drop 2).take (Tryz.prog.cellsOf 9)=[.string s2]:=q2
  rw[hc1] at q0 q1 q2
  simp at q0 q1 q2
  rw[q0,q1,q2]
theorem zz {H:Type}{enc:TypeId×Value→H}{W:World}{base:Nat}{spare:Nat→Bool}{held:Bool}{R:Seal}{v:Value}{d:DataW H}{ps:List MemPlace}(h:DataW.Trod enc Tryz.prog W base spare held 44 v d ps):
  ∃t:Stm,Rel R t.A v:=by
 obtain⟨fuel,h⟩:=h
 obtain⟨xs,n,_,hx,hl,hxl,hf⟩:=DataW.trod_struct Tryz.underlying44 h
 have hc:Tryz.prog.cellsOf 44=8:=by kernel_rfl
 have hci:Tryz.prog.cellsOf 3=1:=by kernel_rfl
 have hcb:Tryz.prog.cellsOf 4=1:=by kernel_rfl
 rw[hc] at hl
 have hxl:xs.length=8:=hxl
 obtain⟨x0,x1,x2,x3,x4,x5,x6,x7,rfl⟩:=uP hxl
 obtain⟨u0,u1,u2,u3,u4,u5,u6,u7,hu⟩:=uP hl
 rw[hu] at hf
 have g0:DataW.trod enc Tryz.prog W base spare held n 3 (([u0,u1,u2,u3,u4,u5,u6,u7].drop 0).take (Tryz.prog.cellsOf 3))=some x0:=hf 0 _ rfl
 have g1:DataW.trod enc Tryz.prog W base spare held n 3 (([u0,u1,u2,u3,u4,u5,u6,u7].drop 1).take (Tryz.prog.cellsOf 3))=some x1:=hf 1 _ rfl
 have g2:DataW.trod enc Tryz.prog W base spare held n 3 (([u0,u1,u2,u3,u4,u5,u6,u7].drop 2).take (Tryz.prog.cellsOf 3))=some x2:=hf 2 _ rfl
 have g3:DataW.trod enc Tryz.prog W base spare held n 3 (([u0,u1,u2,u3,u4,u5,u6,u7].drop 3).take (Tryz.prog.cellsOf 3))=some x3:=hf 3 _ rfl
 have g4:DataW.trod enc Tryz.prog W base spare held n 3 (([u0,u1,u2,u3,u4,u5,u6,u7].drop 4).take (Tryz.prog.cellsOf 3))=some x4:=hf 4 _ rfl
 have g5:DataW.trod enc Tryz.prog W base spare held n 3 (([u0,u1,u2,u3,u4,u5,u6,u7].drop 5).take (Tryz.prog.cellsOf 3))=some x5:=hf 5 _ rfl
 have g6:DataW.trod enc Tryz.prog W base spare held n 4 (([u0,u1,u2,u3,u4,u5,u6,u7].drop 6).take (Tryz.prog.cellsOf 4))=some x6:=hf 6 _ rfl
 have g7:DataW.trod enc Tryz.prog W base spare held n 3 (([u0,u1,u2,u3,u4,u5,u6,u7].drop 7).take (Tryz.prog.cellsOf 3))=some x7:=hf 7 _ rfl
 rw[hci] at g0 g1 g2 g3 g4 g5 g7
 rw[hcb] at g6
 simp only[List.drop_zero,List.drop_succ_cons,List.take_succ_cons,List.take_zero] at g0 g1 g2 g3 g4 g5 g6 g7
 obtain⟨n0,q0,_,_⟩:=DataW.trod_int Tryz.underlying3 g0
 obtain⟨n1,q1,_,_⟩:=DataW.trod_int Tryz.underlying3 g1
 obtain⟨n2,q2,_,_⟩:=DataW.trod_int Tryz.underlying3 g2
 obtain⟨n3,q3,_,_⟩:=DataW.trod_int Tryz.underlying3 g3
 obtain⟨n4,q4,_,_⟩:=DataW.trod_int Tryz.underlying3 g4
 obtain⟨n5,q5,_,_⟩:=DataW.trod_int Tryz.underlying3 g5
 obtain⟨n6,q6,_⟩:=DataW.trod_bool Tryz.underlying4 g6
 obtain⟨n7,q7,_,_⟩:=DataW.trod_int Tryz.underlying3 g7
 refine⟨⟨n0,n1,n2,n3,n4,n5,n6,n7⟩,?_,?_⟩
 ·rw[hu]
  obtain rfl:=List.singleton_inj.1 q0
  obtain rfl:=List.singleton_inj.1 q1
  obtain rfl:=List.singleton_inj.1 q2
  obtain rfl:=List.singleton_inj.1 q3
  obtain rfl:=List.singleton_inj.1 q4
  obtain rfl:=List.singleton_inj.1 q5
  obtain rfl:=List.singleton_inj.1 q6
  obtain rfl:=List.singleton_inj.1 q7
  exact⟨_,_,rfl,rfl,_,_,rfl,rfl,_,_,rfl,rfl,_,_,rfl,rfl,_,_,rfl,rfl,_,_,rfl,rfl,_,_,rfl,rfl,_,_,rfl,rfl,rfl⟩
 ·cases v with
  |agg cs=>rfl
  |_=>exact absurd (congrArg List.length hu) (by simp[Value.cells])
theorem Ez {W:World}{g:Nat}{v:Value}(h:W.cell? ⟨g,0,none⟩=some v):g<W.heap.size:=by
 obtain⟨b,o,C,e,fz,ha,hW⟩:=oQ h
 cases ha
 exact iP hW
end
end Go.Proofs.YtdpbejofgemloaaGreatDoor
