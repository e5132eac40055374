/- Parts of the proof of jcardReads_card. -/
import Derived.Deep.Strs
import Derived.Shelf.Vars
import Derived.SizedLaws
import Derived.Test.YtpgdnpielhfpgaaGreatDoorBao
set_option linter.unusedVariables false
set_option linter.unusedSimpArgs false
set_option linter.unusedSectionVars false
namespace Go.Proofs.YtpgdnpielhfpgaaGreatDoor
open Go Go.RowKit
open Go.Proofs.Tryz Go.Proofs.YtpgdnpielhfpgaaGreatDoor.Tryz
set_option maxRecDepth 20000
set_option maxHeartbeats 4000000
section
theorem GQ {α β:Type}(k:Nat)(E:α->List β)(hE:∀z,(E z).length=k):∀(zs:List α) (cs:List β),cs.length=zs.length*k->
  (∀i z,zs[i]? =some z->(cs.drop (i*k)).take k=E z)->cs=zs.flatMap E
 |[],cs,hl,_=>by
  simp only[List.length_nil,Nat.zero_mul] at hl
  simp[List.eq_nil_of_length_eq_zero hl]
 |z::zs,cs,hl,h=>by
  have h0:=h 0 z rfl
  simp only[Nat.zero_mul,List.drop_zero] at h0
  have hr:=GQ k E hE zs (cs.drop k) (by rw[List.length_drop,hl,List.length_cons,Nat.succ_mul];omega) (λi y hy=>by
   have:=h (i+1) y hy
   rw[List.drop_drop]
   rw[Nat.succ_mul,Nat.add_comm] at this
   exact this)
  rw[List.flatMap_cons,<-h0,<-hr,List.take_append_drop]
theorem sc {R:Seal}:∀(l:List (IntKind×Int)),ce R (l.map λx=>.int x.1 x.2) (l.map λx=>.int x.1 x.2)
 |[]=>rfl
 |_::l=>⟨_,_,rfl,rfl,sc l⟩
section
variable {P:Program} {H:Type} {enc:TypeId×Value->H} {w:World} {base:Nat} {spare:Nat->Bool} {held:Bool}
theorem rN {t e n fuel:Nat}{k:IntKind}{cs:List Value}{ps:List MemPlace}{zs:List Nat}(ht:P.underlying t=some (.array n e))(he:P.underlying e=some (.int k))(hc:P.cellsOf e=1)(hct:P.cellsOf t=n)
  (h:DataW.trod enc P w base spare held fuel t cs=some (.agg (zs.map λx:Nat=>.lit (.int k (x:Int))),ps)) (hz:zs.length=n):cs=zs.flatMap λx:Nat=>[Value.int k (x:Int)]:=by
 obtain⟨xs,m,_,ex,hl,hxl,hel⟩:=DataW.trod_array ht h
 have e3:(xs.map (·.1))=zs.map λx:Nat=>.lit (.int k x):=(DataW.agg.inj (Prod.mk.inj ex).1).symm
 refine GQ 1 _ (λ_=>rfl) zs cs (by omega) (λi z hi=> ?_)
 have hin:i<zs.length:=(List.getElem?_eq_some_iff.1 hi).1
 have hE:=hel i (by omega)
 rw[hc,List.getElem?_eq_getElem (by omega)] at hE
 obtain⟨y,e1,e2,_⟩:=DataW.trod_int he hE
 have e4:(xs.map (·.1))[i]? =(zs.map λx:Nat=>(DataW.lit (.int k x):DataW H))[i]? :=by rw[e3]
 rw[List.getElem?_map,List.getElem?_map,List.getElem?_eq_getElem (by omega:i<xs.length),hi,e2] at e4
 simp only[Option.map_some,Option.some.injEq,DataW.lit.injEq,Lit.int.injEq,true_and] at e4
 rw[e1,e4]
end
theorem mD {P:Program}{W:World}{laid:List (String×DataW Unit)}(hL:laidMetH P laid W){n:String}{d:DataW Unit}(hm:(n,d)∈laid)(hn:d.handleName?.isNone=true){g:Nat}{t:TypeId}(hg:P.globalNamed n=some g)(ht:(P.globals[g]?).map (·.type)=some t):
  ∃cs e fz fuel p,W.heap[g]? =some (.cells cs e fz)/\DataW.trod (λ_=>()) P W 0 (λ_=>true) false fuel t cs.toList=some (d,p):=by
 have h1:=(laidMetH_iff.1 hL).1;obtain⟨ps,h,_⟩:=h1;have key:∀(l:List (String×DataW Unit)) (ps:List MemPlace),DataW.LaidVars P W l ps->(n,d)∈l->∃cs e fz fuel p,W.heap[g]? =some (.cells cs e fz)/\DataW.trod (λ_=>()) P W 0 (λ_=>true) false fuel t cs.toList=some (d,p):=by
  intro l;induction l with
  |nil=>intro ps _ hm;cases hm
  |cons a r ih=>
   obtain⟨m,b⟩:=a;rintro ps ⟨g',t',cs,fuel,p,q,e1,e2,e3,e4,e5,_⟩ hm;rcases List.mem_cons.1 hm with hm|hm
   ·cases hm;obtain rfl:=Option.some.inj (hg.symm.trans e1);obtain rfl:=Option.some.inj (ht.symm.trans e2);obtain⟨e,fz,hh⟩:=u4 hg e3;exact⟨cs,e,fz,fuel,p,hh,e4⟩
   ·exact ih q e5 hm
 exact key _ ps h (List.mem_filter.2 ⟨hm,hn⟩)
theorem M6 {W:World}(h:W.ShapedOpen prog):∃m,W.cell? ⟨3,0,none⟩=some (.int .i64 m):=
 cell_of_shapedOpen_int (t:=3) (zero:=#[.int .i64 0]) h (of_decide_eq_true (by kernel_rfl)) (by kernel_rfl) rfl (by kernel_rfl) (by kernel_rfl) underlying3
theorem FX {W:World}{k:Nat}(hk:3<k){m:Int}(h:W.cell? ⟨3,0,none⟩=some (.int .i64 m)):dz (bi W k) 3 0 [.int .i64 m]:=by
 unfold World.cell? at h;split at h
 ·rename_i C e fz hW;refine gV hk hW ?_;have h:C[0]? =some (.int .i64 m):=h;have h0:=(Array.getElem?_eq_some_iff.1 h);obtain⟨hlt,h1⟩:=h0;have e1:C.toList.take 1=[.int .i64 m]:=by
   have hl:0<C.toList.length:=by simpa using hlt
   have:=List.take_succ_eq_append_getElem (l:=C.toList) (i:=0) hl;simp at this;rw[show(1:Nat)=0+1 from rfl,List.take_succ_eq_append_getElem hl];simp[h1]
  show ce _ _ (C.toList.take 1);rw[e1];exact⟨_,_,rfl,rfl,rfl⟩
 ·cases h
def Bh (A B:Glo):Glo:=⟨λR=>A.p R/\B.p R,λR R' h k=>⟨A.mono R R' h k.1,B.mono R R' h k.2⟩⟩
theorem qT {A B:Glo}{L:List (Nat×List AVal)}(h:ab A L):ab (Bh A B) L:=λg cs hg R hR=>h g cs hg R hR.1
def NU:Glo:=⟨λR=>∃e fz,R 10=some (.cells (Lib.pow10Tab.map λz=>Value.int .u64 z).toArray e fz),λ_ _ hle ⟨e,fz,h⟩=>⟨e,fz,hle _ _ h⟩⟩
theorem Mz {W:World}{k:Nat}(hk:10<k){laid:List (String×DataW Unit)}(hL:laidMetH prog laid W)(hm:("internal/strconv.uint64pow10",Rows.laid_internal_strconv_uint64pow10)∈laid):NU.p (bi W k):=by
 obtain⟨C,e,fz,fuel,p,hW,hd⟩:=mD hL hm (by kernel_rfl) (g:=10) (t:=369) (by kernel_rfl) (by kernel_rfl)
 have hc:=rN (n:=20) (zs:=(List.range 20).map (10^ ·)) underlying369 underlying300 (by kernel_rfl) (by kernel_rfl) hd (by simp)
 have e1:C=(Lib.pow10Tab.map fun z=>Value.int .u64 z).toArray:=by
  apply Array.ext'
  rw[hc]
  unfold Lib.pow10Tab
  simp
  rfl
 refine⟨e,fz,?_⟩
 unfold bi
 rw[if_pos hk,hW,e1]
theorem nW {W:World}{g:Nat}{o:Obj}(h:W.heap[g]? =some o):g<W.heap.size:=(Array.getElem?_eq_some_iff.1 h).1
theorem uA {W:World}{laid:List (String×DataW Unit)}(hL:laidMetH prog laid W){n:String}{d:DataW Unit}(hm:(n,d)∈laid)(hn:d.handleName?.isNone=true){g:Nat}{t:TypeId}(hg:prog.globalNamed n=some g)(ht:(prog.globals[g]?).map (·.type)=some t):g<W.heap.size:=by
 obtain⟨_,_,_,_,_,hW,_⟩:=mD hL hm hn hg ht;exact nW hW
end
section
section
variable {P:Program} {H:Type} {enc:TypeId×Value->H} {w:World} {base:Nat} {spare:Nat->Bool} {held:Bool}
theorem E9 {t e n fuel u:Nat}{k:IntKind}{f0 f1:Field}{cs:List Value}{ps:List MemPlace}{zs:List (Nat×Nat)}(ht:P.underlying t=some (.array n e))(he:P.underlying e=some (.struct #[f0,f1]))(hc:P.cellsOf e=2)(hct:P.cellsOf t=n*2)
  (hf0:f0.type=u) (hf1:f1.type=u) (ho0:f0.offset=0) (ho1:f1.offset=1) (hu:P.underlying u=some (.int k)) (hcu:P.cellsOf u=1)
  (h:DataW.trod enc P w base spare held fuel t cs=some (.agg (zs.map λx:Nat×Nat=>.agg [.lit (.int k (x.1:Int)),.lit (.int k (x.2:Int))]),ps)) (hz:zs.length=n):cs=zs.flatMap λx:Nat×Nat=>[Value.int k (x.1:Int),Value.int k (x.2:Int)]:=by
 obtain⟨xs,m,_,ex,hl,hxl,hel⟩:=DataW.trod_array ht h;have e3:(xs.map (·.1))=zs.map λx:Nat×Nat=>.agg [.lit (.int k x.1),.lit (.int k x.2)]:=(DataW.agg.inj (Prod.mk.inj ex).1).symm;refine GQ 2 _ (λ_=>rfl) zs cs (by omega) (λi z hi=> ?_);have hin:i<zs.length:=(List.getElem?_eq_some_iff.1 hi).1;have hE:=hel i (by omega);rw[hc,List.getElem?_eq_getElem (by omega)] at hE;generalize hcc:(cs.drop (i*2)).take 2=c at hE;obtain⟨y0,y1,m',e2,hl2,h0,h1⟩:=Go.ChangeShapes.trod_struct2 he hE;rw[hf0,ho0,hcu] at h0;rw[hf1,ho1,hcu] at h1;obtain⟨a0,c0,d0,_⟩:=DataW.trod_int hu h0;obtain⟨a1,c1,d1,_⟩:=DataW.trod_int hu h1;have e4:(xs.map (·.1))[i]? =(zs.map λx:Nat×Nat=>(DataW.agg [.lit (.int k x.1),.lit (.int k x.2)]:DataW H))[i]? :=by rw[e3]
 rw[List.getElem?_map,List.getElem?_map,List.getElem?_eq_getElem (by omega:i<xs.length),hi,e2,d0,d1] at e4;simp only[Option.map_some,Option.some.injEq,DataW.agg.injEq,List.cons.injEq,DataW.lit.injEq,Lit.int.injEq,true_and,and_true] at e4;rw[hc] at hl2
 match c,hl2 with
 |[x0,x1],_=>
  simp only[List.drop_zero,List.take_succ_cons,List.take_zero,List.cons.injEq,and_true,List.drop_succ_cons] at c0 c1;rw[c0,c1,e4.1,e4.2]
end
theorem GA {W:World}{k:Nat}(hk:5<k){laid:List (String×DataW Unit)}(hL:laidMetH prog laid W)(hm:("unicode/utf8.first",Rows.laid_unicode_utf8_first)∈laid):dz (bi W k) 5 0 firstTab:=by
 obtain⟨C,e,fz,fuel,p,hW,hd⟩:=mD hL hm (by kernel_rfl) (g:=5) (t:=205) (by kernel_rfl) (by kernel_rfl)
 refine gV hk hW ?_
 have hc:=rN (n:=256) (zs:=Go.Pinned.utf8FirstZ) underlying205 underlying5 (by kernel_rfl) (by kernel_rfl) hd (by kernel_rfl)
 have e1:firstTab=(Go.Pinned.utf8FirstZ.map fun x:Nat=>(IntKind.u8,(x:Int))).map fun x=>.int x.1 x.2:=by simp[firstTab]
 have e2:C.toList.take firstTab.length=(Go.Pinned.utf8FirstZ.map fun x:Nat=>(IntKind.u8,(x:Int))).map fun x=>.int x.1 x.2:=by
  have:C.toList=Go.Pinned.utf8FirstZ.map fun x:Nat=>Value.int .u8 (x:Int):=by
   rw[hc];generalize Go.Pinned.utf8FirstZ=l;induction l<;>simp_all
  rw[this,List.take_of_length_le (by simp[firstTab])]
  simp
 rw[e2,e1]
 exact sc _
def IN:List (Nat×Nat):=[(128,191),(160,191),(128,159),(144,191),(128,143),(0,0),(0,0),(0,0),(0,0),(0,0),(0,0),(0,0),(0,0),(0,0),(0,0),(0,0)]
theorem EJ {W:World}{k:Nat}(hk:6<k){laid:List (String×DataW Unit)}(hL:laidMetH prog laid W)(hm:("unicode/utf8.acceptRanges",Rows.laid_unicode_utf8_acceptRanges)∈laid):dz (bi W k) 6 0 acceptTab:=by
 obtain⟨C,e,fz,fuel,p,hW,hd⟩:=mD hL hm (by kernel_rfl) (g:=6) (t:=280) (by kernel_rfl) (by kernel_rfl)
 refine gV hk hW ?_
 rw[E9 (n:=16) (zs:=IN) underlying280 underlying279 (by kernel_rfl) (by kernel_rfl) rfl rfl rfl rfl underlying5 (by kernel_rfl) hd (by kernel_rfl)]
 exact sc ((IN.flatMap fun x:Nat×Nat=>[x.1,x.2]).map fun x:Nat=>(IntKind.u8,(x:Int)))
end
section
attribute [local irreducible] bN aw aC bg ab ae
attribute [local irreducible] fx Lv gk To
abbrev Wi (br vc:Nat):HEnt:=HEnt.row (.slice (some ⟨br,0,none⟩) 8 vc) none 1 8 [.str [92],.str [92,92],.str [44],.str [92,44],.str [59],.str [92,59],.str [10],.str [92,110]]
abbrev W6 (br bl vc:Nat)(cs:List AVal)(va:Option Addr)(vk vt bz b1 c1 b2 c2 b3 c3 b4 c4:Nat):Heap:=[Wi br vc,.cells bl (some 330) cs,.row (.slice va vk vt) (some 9) 1 4 [.str [10],.str [59],.str [44],.str [92]],.cells bz (some 366) (oM (.own 4 (.slice (some ⟨b1,0,none⟩) 2 c1)) (.own 5 (.slice (some ⟨b2,0,none⟩) 2 c2)) (.own 6 (.slice (some ⟨b3,0,none⟩) 2 c3)) (.own 7 (.slice (some ⟨b4,0,none⟩) 2 c4)) (.own 2 (.slice va vk vt))),.buf b1 [92,110] c1,.buf b2 [92,59] c2,.buf b3 [92,44] c3,.buf b4 [92,92] c4]
theorem KD {G:Glo}(br bl vc:Nat):ae prog G 246 [.raw (pv bl 0)] [Wi br vc,.cells bl (some 330) ((jT (.slice (some ⟨br,0,none⟩) 8 vc)).set 1 (.int .i32 1))]
  (λr H=>∃va vk vt bz b1 c1 b2 c2 b3 c3 b4 c4,EM 4 va vk/\r= .ret (.iface 367 (.own 3 (pv bz 0)))/\H=W6 br bl vc ((jT (.slice (some ⟨br,0,none⟩) 8 vc)).set 1 (.int .i32 1)) va vk vt bz b1 c1 b2 c2 b3 c3 b4 c4):=by
 have hGL:ab G []:=aG;unfold jT;refine qX 1 func246 call246 rfl rfl rfl rfl hGL rfl ?_;intro C hC;refine az ?_;intros;have d0:([.str [92],.str [92,92],.str [44],.str [92,44],.str [59],.str [92,59],.str [10],.str [92,110]]:List AVal)[0]? =some (.str [92]):=rfl;have r0:eW (.slice (some ⟨br,0,none⟩) 8 vc) br 8/\0<8*1:=⟨⟨_,rfl⟩,by decide⟩;have d1:([.str [92],.str [92,92],.str [44],.str [92,44],.str [59],.str [92,59],.str [10],.str [92,110]]:List AVal)[1]? =some (.str [92,92]):=rfl;have r1:eW (.slice (some ⟨br,0,none⟩) 8 vc) br 8/\1<8*1:=⟨⟨_,rfl⟩,by decide⟩;have d2:([.str [92],.str [92,92],.str [44],.str [92,44],.str [59],.str [92,59],.str [10],.str [92,110]]:List AVal)[2]? =some (.str [44]):=rfl;have r2:eW (.slice (some ⟨br,0,none⟩) 8 vc) br 8/\2<8*1:=⟨⟨_,rfl⟩,by decide⟩;have d3:([.str [92],.str [92,92],.str [44],.str [92,44],.str [59],.str [92,59],.str [10],.str [92,110]]:List AVal)[3]? =some (.str [92,44]):=rfl;have r3:eW (.slice (some ⟨br,0,none⟩) 8 vc) br 8/\3<8*1:=⟨⟨_,rfl⟩,by decide⟩;have d4:([.str [92],.str [92,92],.str [44],.str [92,44],.str [59],.str [92,59],.str [10],.str [92,110]]:List AVal)[4]? =some (.str [59]):=rfl;have r4:eW (.slice (some ⟨br,0,none⟩) 8 vc) br 8/\4<8*1:=⟨⟨_,rfl⟩,by decide⟩;have d5:([.str [92],.str [92,92],.str [44],.str [92,44],.str [59],.str [92,59],.str [10],.str [92,110]]:List AVal)[5]? =some (.str [92,59]):=rfl;have r5:eW (.slice (some ⟨br,0,none⟩) 8 vc) br 8/\5<8*1:=⟨⟨_,rfl⟩,by decide⟩;have d6:([.str [92],.str [92,92],.str [44],.str [92,44],.str [59],.str [92,59],.str [10],.str [92,110]]:List AVal)[6]? =some (.str [10]):=rfl;have r6:eW (.slice (some ⟨br,0,none⟩) 8 vc) br 8/\6<8*1:=⟨⟨_,rfl⟩,by decide⟩;have d7:([.str [92],.str [92,92],.str [44],.str [92,44],.str [59],.str [92,59],.str [10],.str [92,110]]:List AVal)[7]? =some (.str [92,110]):=rfl
 have r7:eW (.slice (some ⟨br,0,none⟩) 8 vc) br 8/\7<8*1:=⟨⟨_,rfl⟩,by decide⟩
 refine og hC hGL 5 ?_
 refine az ?_
 intros
 refine zj (m:=4) hC hGL rfl rfl (by omega) rfl rfl rfl rfl rfl rfl rfl (λbt=> ?_)
 refine az ?_
 intros
 refine og hC hGL 5 ?_
 refine az ?_
 intros
 refine aP hC hGL (cW [10] rfl (by intro v hv;simp only[List.mem_cons,List.not_mem_nil,or_false] at hv;omega) rfl rfl rfl rfl rfl rfl) rfl rfl ?_
 refine az ?_
 intros
 refine aP hC hGL (cW [59] rfl (by intro v hv;simp only[List.mem_cons,List.not_mem_nil,or_false] at hv;omega) rfl rfl rfl rfl rfl rfl) rfl rfl ?_
 refine az ?_
 intros
 refine aP hC hGL (cW [44] rfl (by intro v hv;simp only[List.mem_cons,List.not_mem_nil,or_false] at hv;omega) rfl rfl rfl rfl rfl rfl) rfl rfl ?_
 refine az ?_
 intros
 refine aP hC hGL (cW [92] rfl (by intro v hv;simp only[List.mem_cons,List.not_mem_nil,or_false] at hv;omega) rfl rfl rfl rfl rfl rfl) rfl rfl ?_
 refine az ?_
 intros
 exact⟨_,List.Sublist.refl _,_,_,_,_,_,_,_,_,_,_,_,_,by assumption,rfl,rfl⟩
end
section
abbrev Wh:List AVal:=[.str [92],.str [92,92],.str [44],.str [92,44],.str [59],.str [92,59],.str [10],.str [92,110]]
set_option maxRecDepth 20000 in
theorem PQ (a0 a1 a2 a3 t x:AVal):(oM a0 a1 a2 a3 t).set 10 x=oM x a1 a2 a3 t:=rfl
set_option maxRecDepth 20000 in
theorem PO (a0 a1 a2 a3 t x:AVal):(oM a0 a1 a2 a3 t).set 59 x=oM a0 x a2 a3 t:=rfl
set_option maxRecDepth 20000 in
theorem PP (a0 a1 a2 a3 t x:AVal):(oM a0 a1 a2 a3 t).set 44 x=oM a0 a1 x a3 t:=rfl
set_option maxRecDepth 20000 in
theorem PN (a0 a1 a2 a3 t x:AVal):(oM a0 a1 a2 a3 t).set 92 x=oM a0 a1 a2 x t:=rfl
set_option maxRecDepth 20000 in
theorem LU (a0 a1 a2 a3 t x:AVal):(oM a0 a1 a2 a3 t).set 256 x=oM a0 a1 a2 a3 x:=rfl
abbrev Uq (i:Nat):AVal:=.str [([10,59,44,92]:List UInt8).getD i 0]
theorem Rr:R7 escF [10,59,44,92] (oM (.list 1 2 (jx [92,110])) (.list 1 2 (jx [92,59])) (.list 1 2 (jx [92,44])) (.list 1 2 (jx [92,92])) (.list 1 4 Uq)):=by
 refine⟨λc hc=> ?_,λc hc=> ?_,Cl ..,by decide⟩
 ·rw[lD c.toNat_lt];simp only[List.mem_cons,List.not_mem_nil,or_false] at hc;rcases hc with rfl|rfl|rfl|rfl
  all_goals exact⟨rfl,rfl⟩
 ·rw[lD c.toNat_lt];simp only[List.mem_cons,List.not_mem_nil,or_false,not_or] at hc;have h:∀k:UInt8,c≠k->c.toNat≠k.toNat:=λk hk e=>hk (UInt8.toNat_inj.1 e);have h0:c.toNat≠10:=h 10 hc.1;have h1:c.toNat≠59:=h 59 hc.2.1;have h2:c.toNat≠44:=h 44 hc.2.2.1;have h3:c.toNat≠92:=h 92 hc.2.2.2;exact⟨by rw[if_neg h3,if_neg h2,if_neg h1,if_neg h0],Eb h3 h2 h1 h0⟩
theorem N7 (s:List UInt8):escS s=s.flatMap escF:=rfl
attribute [local irreducible] bN aw aa aC bg ab ae
attribute [local irreducible] oM escF escS
theorem GZ {G:Glo}:EP G 8 Wh escF [10,59,44,92]:=λbr bl vc=>by
 refine wW (KD (G:=G) br bl vc) ?_
 rintro r H ⟨va,vk,vt,bz,b1,c1,b2,c2,b3,c3,b4,c4,hva,rfl,rfl⟩;intro C R w e hm he;obtain⟨r2,H2,R2,⟨e1,e2⟩,h2,h3⟩:=vf (a':=.rop (oM (.list 1 2 (jx [92,110])) (.list 1 2 (jx [92,59])) (.list 1 2 (jx [92,44])) (.list 1 2 (jx [92,92])) (.list 1 4 Uq)) 0) (H':=[OU br 8 vc Wh,.cells bl (some 330) (Vb br 8 vc)])
  (λC=>aE (kb (i:=7) (k:=3) (p:=92) rfl rfl λR hr=>ij (PN ..) (lD (by decide)) λ_=>df hr)
   (aE (kb (i:=6) (k:=3) (p:=44) rfl rfl λR hr=>ij (PP ..) (lD (by decide)) λ_=>df hr)
   (aE (kb (i:=5) (k:=3) (p:=59) rfl rfl λR hr=>ij (PO ..) (lD (by decide)) λ_=>df hr)
   (aE (kb (i:=4) (k:=3) (p:=10) rfl rfl λR hr=>ij (PQ ..) (lD (by decide)) λ_=>df hr)
   (aE (jC (i:=2) (k:=2) (p:=256) Uq rfl rfl (λj hj=>by rcases(show j=0\/j=1\/j=2\/j=3 by omega) with rfl|rfl|rfl|rfl<;>exact⟨rfl,rfl⟩) λR hr=>ij (LU ..) (Cl ..) λ_=>df hr)
   (aE (aK (i:=2) (k:=0) rfl rfl) (cQ ad an))))))) C R w e hm he
 exact⟨r2,H2,R2,⟨_,Rr,e1,e2⟩,h2,h3⟩
theorem sV {G:Glo}(s:List UInt8)(hl:s.length<=2000000)(hct:∀c,aj prog G 209 [.str s,.str [c]] (.int .i64 (s.countP (· ==c):Nat))):aj prog G 200 [.str s] (.str (escS s)):=by
 refine ao func200 call200 λC hC hGL=> ?_;refine az ?_;intros;refine⟨_,m5 8 _ (by decide) (by decide) ?_,?_,?_⟩
 ·unfold aC;exact lF rfl
 ·rintro v H' ⟨bl,va,vk,vc,hva,e,rfl⟩;cases e;obtain⟨br,rfl,rfl⟩:=hva (by omega);have e2:=s4 (GZ (G:=G)) (by decide) br bl vc s hl hct;rw[<-N7] at e2;refine az ?_;intros;refine Ox e2 ?_;exact cx
 ·rintro v H' ⟨bl,va,vk,vc,hva,e,rfl⟩;cases e
end
section
attribute [local irreducible] bN aw aa aC bg ab ae
attribute [local irreducible] escF escS
theorem I9 {G:Glo}(l:List (List UInt8))(hn:l.length<=2000000)(hl:Lib.lens l<=2000000):aj prog G 228 [.list 1 l.length (ay l)] (.tuple [.str (joinT l),(qP l).A]):=by
 have hE:=λk=>sV (G:=G) (l.getD k []) (by have:=eo (l:=l) (k:=k);omega) (oI _);have hj:=ot l;refine ao func228 call228 λC hC hGL=> ?_;cases l with
 |nil=>
  exact ba
 |cons x r=>
  refine a6 ?_;intros;refine gv 4 1 rfl ?_;refine lp hC hGL (λ(y:List (List UInt8)×Value)=>[(4,.own 0 y.2),(11,.list 1 (x::r).length (ay (x::r))),(12,.int .i64 ((x::r).length:Nat)),(13,.int .i64 (y.1.length:Nat))]) (λy=>[.row y.2 none 1 y.1.length (bc y.1)]) (λy=>y.1.length<=(x::r).length/\y.1=((x::r).map escS).take y.1.length) (λy=>(x::r).length-y.1.length) ([],.slice none 0 0) ?_ ad rfl ?_
  ·exact⟨Nat.zero_le _,rfl⟩
  ·rintro⟨ps,v⟩ ⟨h1,h2⟩;have h1:ps.length<=(x::r).length:=h1;have h2:ps=((x::r).map escS).take ps.length:=h2;repeat' (first|(conv=>whnf);first|refine .w ?_|refine .v ?_|refine cj ?_ ?_<;>(intro hb;try exact dd hb)|apply aF|apply bf|(apply bQ<;>intro hb)|(apply bR;intro hbd)|(apply aZ;exact hE _)|(apply aL (i:=0) rfl;exact hE _)|(apply bS;intro bl)|(apply cb;intro va vk vc hva)|(apply ca;intro v)|(apply cd;intro bl cap hcap)|apply cg|(apply bZ<;>intro hnx)|apply cK mixed hC hGL (by kernel_rfl)|(apply cq;assumption;exact hE _;exact rfl)|(show Rt _ _ _;exact bK)|fail)
   all_goals try conv=>whnf
   ·have hb:((ps.length:Nat):Int)<(((x::r).length:Nat):Int):=hb;have hlt:ps.length<(x::r).length:=by omega
    refine di (ps++[escS ((x::r).getD ps.length [])],.slice va vk vc) ?_ ?_ ⟨rfl,rfl,rfl,?_,trivial⟩ ?_
    ·refine⟨?_,?_⟩
     ·show(ps++[escS ((x::r).getD ps.length [])]).length<=(x::r).length;rw[List.length_append,List.length_singleton];omega
     ·show ps++[escS ((x::r).getD ps.length [])]=((x::r).map escS).take (ps++[escS ((x::r).getD ps.length [])]).length;rw[List.length_append,List.length_singleton,x6 hlt,<-h2]
    ·show(x::r).length-(ps++[escS ((x::r).getD ps.length [])]).length<(x::r).length-ps.length;rw[List.length_append,List.length_singleton];omega
    ·show some (AVal.int .i64 (((ps.length:Nat):Int)+1))=some (AVal.int .i64 ((ps++[escS ((x::r).getD ps.length [])]).length:Nat));rw[List.length_append];rfl
    ·dsimp only
     rw[<-bJ,List.length_append];rfl
   ·have hb:(((x::r).length:Nat):Int)<=((ps.length:Nat):Int):=hb;have h3:ps=(x::r).map escS:=by rw[h2,List.take_of_length_le (by rw[List.length_map];omega)]
    subst h3;refine aL (i:=0) rfl (eu ((x::r).map escS) [44] v (by omega) (by have:(Lib.join ((x::r).map escS) [44]).length<=_:=hj;omega)) ?_;exact ba
theorem Mq {G:Glo}(l:List (List UInt8))(hn:l.length<=2000000)(hl:Lib.lens l<=2000000):aj prog G 212 [.list 1 l.length (ay l)] (.tuple [.str (joinT l),.int .i64 (qP l).e]):=by
 have hE:=λk=>vR (G:=G) (l.getD k []) (by have:=eo (l:=l) (k:=k);omega);have hj:=ot l;refine ao func212 call212 λC hC hGL=> ?_;cases l with
 |nil=>
  exact ba
 |cons x r=>
  have hq:∀k,(escS x++Lib.joinTail [44] ((r.map escS).take k)).length<=(joinT (x::r)).length:=λk=>by
   unfold joinT;rw[List.map_cons,Lib.join_cons,List.length_append,List.length_append];have:=Lib.joinTail_take_le [44] (r.map escS) k;omega
  have hx:∀k,(escS ((x::r).getD k [])).length<=4000000:=λk=>by
   have h1:=(rj ((x::r).getD k [])).2;have h2:=eo (l:=x::r) (k:=k);omega
  have k1:=@hE;refine a6 ?_;intros;refine lp hC hGL (λk:Nat=>[(4,.str (escS x++Lib.joinTail [44] ((r.map escS).take k))),(15,.list 1 ((x::r).length-1) (λk=>ay (x::r) (1+k))),(16,.int .i64 (((x::r).length-1:Nat):Int)),(17,.int .i64 (k:Nat))]) (λ_=>[]) (λk=>k<=r.length) (λk=>r.length-k) 0 (Nat.zero_le _) ⟨?_,rfl,rfl,rfl,trivial⟩ rfl ?_
  ·show some (AVal.str (escS x))=some (AVal.str (escS x++Lib.joinTail [44] []));simp[Lib.joinTail]
  ·intro k hk;have hq1:=hq k;have hx1:=hx (1+k);have hgl:(x::r).getD (1+k) []=r.getD k []:=by rw[Nat.add_comm];rfl
   repeat' (first|(conv=>whnf);first|refine .w ?_|refine .v ?_|refine cj ?_ ?_<;>(intro hb;try exact dd hb)|apply aF|apply bf|(apply bQ<;>intro hb)|(apply bR;intro hbd)|(apply aZ;exact hE _)|(apply aL (i:=0) rfl;exact hE _)|(apply bS;intro bl)|(apply cb;intro va vk vc hva)|(apply ca;intro v)|(apply cd;intro bl cap hcap)|apply cg|(apply bZ<;>intro hnx)|apply cK mixed hC hGL (by kernel_rfl)|(apply cq;assumption;exact hE _;exact rfl)|(show Rt _ _ _;exact bK)|fail)
   all_goals try conv=>whnf
   ·have hb2:((k:Nat):Int)<((r.length:Nat):Int):=hb;have hlt:k<r.length:=by omega
    refine di (k+1) ?_ ?_ ⟨?_,rfl,rfl,rfl,trivial⟩ rfl
    ·exact hlt
    ·show r.length-(k+1)<r.length-k;omega
    ·show some (AVal.str (escS x++Lib.joinTail [44] ((r.map escS).take k)++([44]++escS ((x::r).getD (1+k) []))))=some (AVal.str (escS x++Lib.joinTail [44] ((r.map escS).take (k+1))));rw[Lib.joinTail_take_succ [44] (r.map escS) k (escS (r.getD k [])) (by rw[List.getElem?_map,List.getD_eq_getElem?_getD,List.getElem?_eq_getElem hlt];rfl),hgl];simp only[List.append_assoc]
   ·have hb2:((r.length:Nat):Int)<=((k:Nat):Int):=hb;apply ak;unfold joinT;rw[List.take_of_length_le (by rw[List.length_map];omega),List.map_cons,Lib.join_cons];rfl
end
section
attribute [local irreducible] bN aw aa aC bg ab ae
attribute [local irreducible] escF escS joinT qP
theorem zC:qP []= .errno 8:=by unfold qP;rw[if_pos rfl]
theorem wE {l:List (List UInt8)}(h:l≠[]):qP l= .none:=by unfold qP;rw[if_neg h]
theorem vi {G:Glo}(L:List (List (List UInt8)))(hs:Small L):aj prog G 201 [.list 1 L.length (eF L)] (.tuple [.str (gw L),(g9 L).A]):=by
 have hJ:=λk=>I9 (G:=G) (L.getD k []) (hs.k k).1 (hs.k k).2;have hn:=hs.n;by_cases h0:L=[]
 ·subst h0;refine ao func201 call201 λC hC hGL=> ?_;exact ba
 ·have h00:L.length≠0:=λh=>h0 (List.eq_nil_of_length_eq_zero h);refine ao func201 call201 λC hC hGL=> ?_;refine a6 ?_;intros;refine gv 4 1 rfl ?_;refine lp hC hGL (λ(y:List (List UInt8)×Value)=>[(4,.own 0 y.2),(13,.list 1 L.length (eF L)),(14,.int .i64 (L.length:Nat)),(15,.int .i64 (y.1.length:Nat))]) (λy=>[.row y.2 none 1 y.1.length (bc y.1)]) (λy=>y.1.length<=dS L/\y.1=(L.map joinT).take y.1.length) (λy=>L.length-y.1.length) ([],.slice none 0 0) ?_ ad rfl ?_
  ·exact⟨Nat.zero_le _,rfl⟩
  ·rintro⟨ps,v⟩ ⟨h1,h2⟩;have h1:ps.length<=dS L:=h1;have h2:ps=(L.map joinT).take ps.length:=h2;have h3:=qI L;by_cases hlt:ps.length<L.length
   ·have hJ1:=hJ ps.length;by_cases hnil:L.getD ps.length []=[]
    ·have hk:=sl hlt h1 hnil;rw[show qP (L.getD ps.length [])= .errno 8 by rw[hnil];exact zC] at hJ1;refine a6 ?_;intros;apply ak;unfold gw g9;rw[if_pos (by omega),if_neg h0,if_pos (by omega),hk];rfl
    ·rw[wE hnil] at hJ1;repeat' (first|(conv=>whnf);first|refine .w ?_|refine .v ?_|refine cj ?_ ?_<;>(intro hb;try exact dd hb)|apply aF|apply bf|(apply bQ<;>intro hb)|(apply bR;intro hbd)|(apply aZ;exact hJ1)|(apply aL (i:=0) rfl;exact hJ1)|(apply bS;intro bl)|(apply cb;intro va vk vc hva)|(apply ca;intro v)|(apply cd;intro bl cap hcap)|apply cg|(apply bZ<;>intro hnx)|apply cK mixed hC hGL (by kernel_rfl)|(apply cq;assumption;exact hJ1;exact rfl)|(show Rt _ _ _;exact bK)|fail)
     all_goals try conv=>whnf
     have hm:=pN hlt h1 hnil;refine di (ps++[joinT (L.getD ps.length [])],.slice va vk vc) ?_ ?_ ⟨rfl,rfl,rfl,?_,trivial⟩ ?_
     ·refine⟨?_,?_⟩
      ·show(ps++[joinT (L.getD ps.length [])]).length<=dS L;rw[List.length_append,List.length_singleton];exact hm
      ·show ps++[joinT (L.getD ps.length [])]=(L.map joinT).take (ps++[joinT (L.getD ps.length [])]).length;rw[List.length_append,List.length_singleton,nj hlt,<-h2]
     ·show L.length-(ps++[joinT (L.getD ps.length [])]).length<L.length-ps.length;rw[List.length_append,List.length_singleton];omega
     ·show some (AVal.int .i64 (((ps.length:Nat):Int)+1))=some (AVal.int .i64 ((ps++[joinT (L.getD ps.length [])]).length:Nat));rw[List.length_append];rfl
     ·dsimp only
      rw[<-bJ,List.length_append];rfl
   ·refine a6 ?_;intros;have h5:dS L=L.length:=by omega
    have h4:ps=L.map joinT:=by rw[h2,List.take_of_length_le (by rw[List.length_map];omega)]
    subst h4;refine aL (i:=0) rfl (eu (L.map joinT) [59] v (by omega) (vy hs)) ?_;refine a6 ?_;intros;apply ak;unfold gw g9;rw[if_neg (by omega),if_neg h0,if_neg (by omega)];rfl
theorem yn {G:Glo}(L:List (List (List UInt8)))(hs:Small L):aj prog G 177 [.list 1 L.length (eF L)] (.tuple [.str (gw L),.agg [.int .i64 (g9 L).e,.int .i64 (g9 L).p]]):=by
 have hJ:=λk=>Mq (G:=G) (L.getD k []) (hs.k k).1 (hs.k k).2;have hn:=hs.n;have hb8:=ja (G:=G) 8;have hg:=fG (G:=G);by_cases h0:L=[]
 ·subst h0;refine ao func177 call177 λC hC hGL=> ?_;exact ba
 ·have h00:L.length≠0:=λh=>h0 (List.eq_nil_of_length_eq_zero h);refine ao func177 call177 λC hC hGL=> ?_;refine a6 ?_;intro bl;intros;refine gv 4 1 rfl ?_;refine lp hC hGL (λ(y:List (List UInt8)×Value)=>[(0,.list 1 L.length (eF L)),(3,.own 0 (pv bl 0)),(4,.own 1 y.2),(13,.int .i64 (L.length:Nat)),(14,.int .i64 (y.1.length:Nat))]) (λy=>[.cells bl (some 32) [.int .i64 0,.int .i64 0],.row y.2 none 1 y.1.length (bc y.1)]) (λy=>y.1.length<=dS L/\y.1=(L.map joinT).take y.1.length) (λy=>L.length-y.1.length) ([],.slice none 0 0) ?_ ad rfl ?_
  ·exact⟨Nat.zero_le _,rfl⟩
  ·rintro⟨ps,v⟩ ⟨h1,h2⟩;have h1:ps.length<=dS L:=h1;have h2:ps=(L.map joinT).take ps.length:=h2;have h3:=qI L;by_cases hlt:ps.length<L.length
   ·have hJ1:=hJ ps.length;by_cases hnil:L.getD ps.length []=[]
    ·have hk:=sl hlt h1 hnil;rw[show qP (L.getD ps.length [])= .errno 8 by rw[hnil];exact zC] at hJ1;have hJ1:aj prog G 212 [.list 1 (L.getD ps.length []).length (ay (L.getD ps.length []))] (.tuple [.str (joinT (L.getD ps.length [])),.int .i64 8]):=hJ1;refine a6 ?_;intros;apply ak;unfold gw g9;rw[if_pos (by omega),if_neg h0,if_pos (by omega),hk];rfl
    ·rw[wE hnil] at hJ1;have hJ1:aj prog G 212 [.list 1 (L.getD ps.length []).length (ay (L.getD ps.length []))] (.tuple [.str (joinT (L.getD ps.length [])),.int .i64 0]):=hJ1;repeat' (first|(conv=>whnf);first|refine .w ?_|refine .v ?_|refine cj ?_ ?_<;>(intro hb;try exact dd hb)|apply aF|apply bf|(apply bQ<;>intro hb)|(apply bR;intro hbd)|(apply aZ;exact hJ1)|(apply aL (i:=0) rfl;exact hJ1)|(apply bS;intro bl)|(apply cb;intro va vk vc hva)|(apply ca;intro v)|(apply cd;intro bl cap hcap)|apply cg|(apply bZ<;>intro hnx)|apply cK mixed hC hGL (by kernel_rfl)|(apply cq;assumption;exact hJ1;exact rfl)|(show Rt _ _ _;exact bK)|fail)
     all_goals try conv=>whnf
     have hm:=pN hlt h1 hnil;refine di (ps++[joinT (L.getD ps.length [])],.slice va vk vc) ?_ ?_ ⟨rfl,rfl,rfl,rfl,?_,trivial⟩ ?_
     ·refine⟨?_,?_⟩
      ·show(ps++[joinT (L.getD ps.length [])]).length<=dS L;rw[List.length_append,List.length_singleton];exact hm
      ·show ps++[joinT (L.getD ps.length [])]=(L.map joinT).take (ps++[joinT (L.getD ps.length [])]).length;rw[List.length_append,List.length_singleton,nj hlt,<-h2]
     ·show L.length-(ps++[joinT (L.getD ps.length [])]).length<L.length-ps.length;rw[List.length_append,List.length_singleton];omega
     ·show some (AVal.int .i64 (((ps.length:Nat):Int)+1))=some (AVal.int .i64 ((ps++[joinT (L.getD ps.length [])]).length:Nat));rw[List.length_append];rfl
     ·dsimp only
      rw[<-bJ,List.length_append];rfl
   ·refine a6 ?_;intros;have h5:dS L=L.length:=by omega
    have h4:ps=L.map joinT:=by rw[h2,List.take_of_length_le (by rw[List.length_map];omega)]
    subst h4;refine aL (i:=1) rfl (eu (L.map joinT) [59] v (by omega) (vy hs)) ?_;refine a6 ?_;intros;apply ak;unfold gw g9;rw[if_neg (by omega),if_neg h0,if_neg (by omega)];rfl
end
section
attribute [local irreducible] bN aw aa aC bg ab ae
attribute [local irreducible] al dI Pr.fit Ln.E Ln.T Vl.E Vl.T j9 ci iN
theorem Ep {G:Glo}(s:List UInt8)(hs:s.length<=1000000):aj prog G 90 [.str s] (.bool (Kb s)):=by
 have h1:=fK (G:=G) s (by omega);unfold Kb;generalize al 97 122 (-32) s=u at*
 refine ao func90 call90 λC hC hGL=> ?_;refine xw ?_;repeat' first|exact .n|apply Lc.mk
 all_goals intros
 all_goals
  apply ak;refine congrArg AVal.bool ?_;rw[Bool.eq_iff_iff];simp only[Bool.or_eq_true,bx];simp[*]
theorem Lk {G:Glo}{m:Int}(hE:ab G errTy)(hM:ab G (ct m))(x:Vl)(hs:x.s.length<=10000)(hL:Small x.L)(hv:x.OK):aj prog G 154 [x.A] (.tuple [.str x.T,x.E.A]):=
 B5 x (sU hE hM x hv) (sV x.s (by omega) (oI _)) (vi x.L hL) (EW hM x.st)
theorem KA {G:Glo}{m:Int}(hE:ab G errTy)(hM:ab G (ct m))(v:Int)(x:Itm)(hx:x.OK 10000):aj prog G 95 [DL x,.int .i64 v] (.tuple [x.ln.A,x.2.E.A]):=by
 have h1:=Lk hE hM x.2 hx.s hx.L hx.v;generalize x.2.E=e at*
 unfold Vl.A at h1;rcases e with _|e|⟨e,p⟩
 ·simp only[Err.A] at h1 ⊢;refine ao func95 call95 λC hC hGL=> ?_;exact ba
 ·simp only[Err.A,fq] at h1 ⊢;refine ao func95 call95 λC hC hGL=> ?_;exact ba
 ·simp only[Err.A,BJ] at h1 ⊢;refine ao func95 call95 λC hC hGL=> ?_;exact ba
theorem OL {G:Glo}{m:Int}(hE:ab G errTy)(hE2:rJ G)(hP:fW G)(hM:ab G (ct m))(hS:rI G)(v:Int)(hv:v=3\/v=4)(x:Itm)(hx:x.OK 10000):aj prog G 51 [DL x,.int .i64 v] (.int .i64 (x.w v)):=by
 have q1:=call89;have q2:=call88;have q3:=call96;have hc:=Er (G:=G) v;have h1:=wm (G:=G) x.p (cm v 4) hx.p.fit;have h4:=rE (G:=G) hE (x.p.E (cm v 4));have hn:x.1.n.length<=10000:=hx.p.n;have hps:x.1.ps.length<=10000:=hx.p.ps;have hq:∀k,(x.1.ps.getD k Pr.z).n.length<=1100000/\(x.1.ps.getD k Pr.z).vs.length<=10000/\Lib.lens (x.1.ps.getD k Pr.z).vs<=10000:=hx.p.q;have hvl:∀k j,((x.1.ps.getD k Pr.z).vs.getD j []).length<=10000:=λk j=>by
  have:=eo (l:=(x.1.ps.getD k Pr.z).vs) (k:=j);have:=(hq k).2.2;omega
 have hF:=Ep (G:=G) x.1.n (by omega);have hve:dR v= .none:=by unfold dR;rw[if_pos hv]
 have hT:=Fy (G:=G) hS v x.1.n x.1.ps (by omega) (by omega) (λk=>by have:=(hq k).1;omega) (λk=>⟨by have:=(hq k).2.1;omega,by have:=hvl k 0;omega⟩);have hV:=sU hE hM x.2 hx.v;have h5:=rE (G:=G) hE x.2.E;have hR:=nr (G:=G) hS v x.1.n (by omega);have hpr:=KA (G:=G) hE hM v x hx;have hLP:=F1 (G:=G) x.ln (cm v 4) (Itm.fit hx);have hw:∀(_:x.p.E (cm v 4)= .none) (_:Kb x.1.n=false),(pI x.1.ps≠0->x.w v=pI x.1.ps)/\(pI x.1.ps=0->(x.k v≠x.2.t->x.w v=1)/\(x.k v=x.2.t->(x.2.E≠ .none->x.w v=x.2.E.e)/\(x.2.E= .none->x.w v=x.r v))):=λa b=>⟨Sf a b,λc=>⟨Sg a b c,λd=>⟨Se a b c d,w_r a b c d⟩⟩⟩;have hwl:=λa=>SS (v:=v) (x:=x) a;have hwf:=λa b=>Vm (v:=v) (x:=x) a b;have hln:x.2.E= .none->x.p.E (cm v 4)= .none->x.ln.E (cm v 4)= .none:=λ_ b=>Ln.E_v (p:=x.ln) b (Vl.T_hd _);rw[hve] at hT hR;generalize x.w v=W at*
 unfold Itm.r Itm.L at hw;unfold Itm.k at hw;obtain⟨⟨g,n,ps,vv⟩,u⟩:=x;unfold DL at hpr ⊢;unfold Vl.A at hV;unfold Itm.p at h1 h4 hw hwl hwf hln;unfold Itm.ln at hpr hLP hln hw;dsimp only at*
 generalize Ln.E (cm v 4) ⟨g,n,ps,u.T⟩=eL at*
 generalize Ln.T (cm v 4) ⟨g,n,ps,u.T⟩=tL at*
 generalize j9 v n ps=K at*
 generalize ci v n=r at*
 unfold Rl.A at hR;obtain⟨r0,r1,r2,r3⟩:=r;dsimp only at*
 generalize u.E=eV at*
 generalize u.T=tV at*
 generalize hE0:Ln.E (cm v 4) ⟨g,n,ps,[]⟩=e0 at*
 rcases e0 with _|e|⟨e,p⟩
 ·simp only[Err.A] at h1;cases hfr:Kb n with
  |true=>
   rw[hwf rfl hfr];rw[hfr] at hF;refine ao func51 call51 λC hC hGL=> ?_;exact ba
  |false=>
   rw[hfr] at hF;have hw:=hw rfl hfr;refine ao func51 call51 λC hC hGL=> ?_;refine a6 ?_;intros;refine lp hC hGL (λk:Nat=>[(1,.int .i64 v),(2,.rop (dG (⟨g,n,ps,vv⟩,u)) 0),(35,.list 2 ps.length (fH ps)),(36,.int .i64 (ps.length:Nat)),(37,.int .i64 (k:Nat))]) (λ_=>[]) (λk=>k<=ps.length/\∀j,j<k->pE ps j=0) (λk=>ps.length-k) 0 ⟨Nat.zero_le _,λj h=>absurd h (Nat.not_lt_zero _)⟩ ad rfl ?_;rintro k ⟨k1,k2⟩;by_cases hk:k<ps.length
   ·have hqk:=hq k;have hfi:=FA hE2 hP hM (ps.getD k Pr.z) (by omega) (by omega) (λj=>by have:=hvl k j;omega);have hsa:=sm (G:=G) (ps.getD k Pr.z).n nTYP (by omega) (by decide);rw[show al 97 122 (-32) nTYP=nTYP by decide+kernel] at hsa;have hfd:=vJ (G:=G) ps (ps.getD k Pr.z).n (by omega) (λk=>by have:=(hq k).1;omega) (by omega);cases hf:(ps.getD k Pr.z).fit with
    |false=>
     rw[hf] at hfi;have e:=VF hf;rw[hw.1 (by rw[kX hk k2 (by rw[e];decide),e];decide),kX hk k2 (by rw[e];decide),e];exact ba
    |true=>
     rw[hf] at hfi;cases hty:aS (al 97 122 (-32) (ps.getD k Pr.z).n) nTYP with
     |true=>
      rw[hty] at hsa;have e:=TL hf (λh=>h.1 (bx.1 hty));refine a6 ?_;intros;exact cJ (k+1) ⟨by omega,aV k2 e⟩ (by omega) ad an
     |false=>
      rw[hty] at hsa;by_cases hd:dI (ps.getD k Pr.z).n ps 0<(k:Int)
      ·have e:=VE hf (du.1 hty) hd;rw[hw.1 (by rw[kX hk k2 (by rw[e];decide),e];decide),kX hk k2 (by rw[e];decide),e];exact ba
      ·have e:=TL hf (λh=>hd h.2);refine a6 ?_;intros;exact cJ (k+1) ⟨by omega,aV k2 e⟩ (by omega) ad an
   ·have hw:=hw.2 (MC (by omega) k2);by_cases hK:K=u.t
    ·have hw:=hw.2 hK;rcases eV with _|e|⟨e,p⟩
     ·have hw:=hw.2 rfl;have hln:=hln rfl rfl;subst hln;simp only[Err.A] at hV hpr hLP;subst hw;obtain rfl:=hK;by_cases ha:u.t=3/\0<r3/\r3≠(u.L.length:Int)
      ·rw[if_pos ha];obtain⟨a1,a2,a3⟩:=ha;have a4:(u.L.length:Int)≠r3:=λh=>a3 h.symm;exact ba
      ·rw[if_neg ha];by_cases a1:u.t=3
       ·by_cases a2:0<r3
        ·have a3:(u.L.length:Int)=r3:=by
          apply Classical.byContradiction;intro h;exact ha ⟨a1,a2,λk=>h k.symm⟩
         by_cases hl:1500<tL.length
         ·rw[if_pos hl];refine az ?_;intros;rename_i b11 b13 _ _ _ _ _;refine eQ (aK (i:=1) (k:=13) rfl rfl) ?_;refine cR mixed hC hGL false (λ_:Unit=>[(15,.str tL)]) (λ_=>[.cells b11 (some 90) [.int .i64 r0,.int .i64 r1,.int .i64 r2,.int .i64 r3],fp]) .p0 (by kernel_rfl) ?_ ?_
          ·refine xn ?_;repeat' first|exact .n|apply Lc.mk
           all_goals intros
           all_goals exact⟨(),ad,rfl⟩
          intro _;exact ba
         ·rw[if_neg hl];refine az ?_;intros;rename_i b11 b13 _ _ _ _ _;refine eQ (aK (i:=1) (k:=13) rfl rfl) ?_;refine cR mixed hC hGL false (λ_:Unit=>[(15,.str tL)]) (λ_=>[.cells b11 (some 90) [.int .i64 r0,.int .i64 r1,.int .i64 r2,.int .i64 r3],fp]) .p0 (by kernel_rfl) ?_ ?_
          ·refine xn ?_;repeat' first|exact .n|apply Lc.mk
           all_goals intros
           all_goals exact⟨(),ad,rfl⟩
          intro _;exact ba
        ·have a2':¬0<r3:=a2;by_cases hl:1500<tL.length
         ·rw[if_pos hl];refine az ?_;intros;rename_i b11 b13 _ _ _ _;refine eQ (aK (i:=1) (k:=13) rfl rfl) ?_;refine cR mixed hC hGL false (λ_:Unit=>[(15,.str tL)]) (λ_=>[.cells b11 (some 90) [.int .i64 r0,.int .i64 r1,.int .i64 r2,.int .i64 r3],fp]) .p0 (by kernel_rfl) ?_ ?_
          ·refine xn ?_;repeat' first|exact .n|apply Lc.mk
           all_goals intros
           all_goals exact⟨(),ad,rfl⟩
          intro _;exact ba
         ·rw[if_neg hl];refine az ?_;intros;rename_i b11 b13 _ _ _ _;refine eQ (aK (i:=1) (k:=13) rfl rfl) ?_;refine cR mixed hC hGL false (λ_:Unit=>[(15,.str tL)]) (λ_=>[.cells b11 (some 90) [.int .i64 r0,.int .i64 r1,.int .i64 r2,.int .i64 r3],fp]) .p0 (by kernel_rfl) ?_ ?_
          ·refine xn ?_;repeat' first|exact .n|apply Lc.mk
           all_goals intros
           all_goals exact⟨(),ad,rfl⟩
          intro _;exact ba
       ·by_cases hl:1500<tL.length
        ·rw[if_pos hl];refine az ?_;intros;rename_i b11 b13 _ _ _;refine eQ (aK (i:=1) (k:=13) rfl rfl) ?_;refine cR mixed hC hGL false (λ_:Unit=>[(15,.str tL)]) (λ_=>[.cells b11 (some 90) [.int .i64 r0,.int .i64 r1,.int .i64 r2,.int .i64 r3],fp]) .p0 (by kernel_rfl) ?_ ?_
         ·refine xn ?_;repeat' first|exact .n|apply Lc.mk
          all_goals intros
          all_goals exact⟨(),ad,rfl⟩
         intro _;exact ba
        ·rw[if_neg hl];refine az ?_;intros;rename_i b11 b13 _ _ _;refine eQ (aK (i:=1) (k:=13) rfl rfl) ?_;refine cR mixed hC hGL false (λ_:Unit=>[(15,.str tL)]) (λ_=>[.cells b11 (some 90) [.int .i64 r0,.int .i64 r1,.int .i64 r2,.int .i64 r3],fp]) .p0 (by kernel_rfl) ?_ ?_
         ·refine xn ?_;repeat' first|exact .n|apply Lc.mk
          all_goals intros
          all_goals exact⟨(),ad,rfl⟩
         intro _;exact ba
     ·rw[hw.1 (λh=>by cases h)];simp only[Err.A,Err.e,fq] at hV h5 ⊢;exact ba
     ·rw[hw.1 (λh=>by cases h)];simp only[Err.A,Err.e,BJ] at hV h5 ⊢;exact ba
    ·rw[hw.1 hK];exact ba
 ·rw[hwl (λh=>by cases h)];simp only[Err.A,Err.e,fq] at h1 h4 ⊢;refine ao func51 call51 λC hC hGL=> ?_;exact ba
 ·rw[hwl (λh=>by cases h)];simp only[Err.A,Err.e,BJ] at h1 h4 ⊢;refine ao func51 call51 λC hC hGL=> ?_;refine az ?_;intros;refine cR mixed hC hGL false (λ_:Unit=>[(5,BJ e p)]) (λ_=>[]) (.t 0 (.t 1 (.t 2 (.t 3 (.t 4 (.t 5 (.t 6 (.t 7 (.b 8 (.b 9 (.t 10 .done))))))))))) (by kernel_rfl) ?_ ?_
  ·refine xn ?_;repeat' first|exact .n|apply Lc.mk
   all_goals intros
   all_goals exact⟨(),ad,rfl⟩
  intro _;exact ba
end
section
theorem ko (s:List UInt8){z:Nat->Prop}{f:AVal×AVal->List (AVal×AVal)->(Nat->Prop)->Nat->Prop}{L:List (List UInt8×Int)}(h:f (.str s,.int .i64 (jc s L)) [] (λ_=>True) 0)
  (hf:∀t n r ih i,(aS s t=true->f (.str s,.int .i64 n) [] (λ_=>True) 0)->(aS s t=false->ih (i+1))->f (.str t,.int .i64 n) r ih i:=by exact λ_ _ _ _ _ h1 h2=>(⟨λe=>(h1 e).1 (bx.2 rfl),h2⟩:Sc _ _ _))
  (hz:f (.str s,.int .i64 0) [] (λ_=>True) 0->∀i,z i:=by exact λh _=>h.1 (bx.2 rfl)):List.rec (motive:=λ_=>Nat->Prop) z f (iq L) 0:=by
 have h1:∀(L:List (List UInt8×Int)) (i:Nat),(match dx s L i with|some (_,n)=>f (.str s,.int .i64 n) [] (λ_=>True) 0|none=>∀i,z i)->List.rec (motive:=λ_=>Nat->Prop) z f (iq L) i:=by
  intro L;induction L with
  |nil=>exact λi h=>h i
  |cons x L ih=>
   intro i h;refine hf x.1 x.2 (iq L) _ i (λe=> ?_) (λe=> ?_)
   ·simp only[dx,e,if_true] at h;exact h
   ·simp only[dx,e,Bool.false_eq_true,if_false] at h;exact ih (i+1) h
 refine h1 L 0 ?_;unfold jc at h;cases hl:dx s L 0 with
 |none=>rw[hl] at h;exact hz h
 |some y=>rw[hl] at h;exact h
theorem A3 (s:List UInt8){z:Nat->Prop}{f:AVal×AVal->List (AVal×AVal)->(Nat->Prop)->Nat->Prop}{L:List (List UInt8×Int)}(h1:∀j n,dx s L 0=some (j,n)->f (.str s,.int .i64 n) [] (λ_=>True) j)(h2:dx s L 0=none->∀i,z i)
  (hf:∀t n r ih i,(aS s t=true->f (.str s,.int .i64 n) [] (λ_=>True) i)->(aS s t=false->ih (i+1))->f (.str t,.int .i64 n) r ih i:=by exact λ_ _ _ _ _ h1 h2=>(⟨λe=>(h1 e).1 (bx.2 rfl),h2⟩:Sc _ _ _)):List.rec (motive:=λ_=>Nat->Prop) z f (iq L) 0:=by
 have g:∀(L:List (List UInt8×Int)) (i:Nat),(∀j n,dx s L i=some (j,n)->f (.str s,.int .i64 n) [] (λ_=>True) j)->(dx s L i=none->∀i,z i)->List.rec (motive:=λ_=>Nat->Prop) z f (iq L) i:=by
  intro L;induction L with
  |nil=>exact λi _ h=>h rfl i
  |cons x L ih=>
   intro i k1 k2;refine hf x.1 x.2 (iq L) _ i (λe=> ?_) (λe=> ?_)
   ·exact k1 i x.2 (by simp only[dx,e,if_true])
   ·refine ih (i+1) (λj n hj=>k1 j n ?_) (λhj=>k2 ?_)
    ·simp only[dx,e,Bool.false_eq_true,if_false];exact hj
    ·simp only[dx,e,Bool.false_eq_true,if_false];exact hj
 exact g L 0 h1 h2
theorem E7 (s:List UInt8):(al 97 122 (-32) s).length=s.length:=by unfold al;rw[List.length_map]
theorem SJ {v:Int}{l:List Itm}(hv:v=3\/v=4)(h:60<l.length):Crd.E ⟨v,l⟩= .errno 4:=by unfold Crd.E;rw[if_pos hv,if_pos h]
theorem SK {v:Int}{l:List Itm}(hv:¬(v=3\/v=4)):Crd.E ⟨v,l⟩= .errno 1:=by unfold Crd.E;rw[if_neg hv]
theorem SG {v:Int}{l:List Itm}(hv:v=3\/v=4)(h:¬60<l.length){k:Nat}(hk:k<l.length)(hj:∀j,j<k->(l.getD j Itm.z).w v=0)(hb:(l.getD k Itm.z).w v≠0):Crd.E ⟨v,l⟩= .at ((l.getD k Itm.z).w v) k:=by
 unfold Crd.E;rw[if_pos hv,if_neg h,uF (f:=λi=>(l.getD i Itm.z).w v) hk hj hb]
theorem SH {v:Int}{l:List Itm}(hv:v=3\/v=4)(h:¬60<l.length)(hw:∀j,j<l.length->(l.getD j Itm.z).w v=0){k:Nat}(hk:k<l.length)(hj:∀j,j<k->kn v l j=0)(hb:kn v l k≠0):Crd.E ⟨v,l⟩= .at (kn v l k) k:=by
 unfold Crd.E;rw[if_pos hv,if_neg h,j4 (f:=λi=>(l.getD i Itm.z).w v) hw];dsimp only
 rw[uF hk hj hb]
theorem SI {v:Int}{l:List Itm}(hv:v=3\/v=4)(h:¬60<l.length)(hw:∀j,j<l.length->(l.getD j Itm.z).w v=0)(hm:∀j,j<l.length->kn v l j=0):Crd.E ⟨v,l⟩=if Bk (H8 v l) (aH v).length=0 then .none else .errno 7:=by
 unfold Crd.E;rw[if_pos hv,if_neg h,j4 (f:=λi=>(l.getD i Itm.z).w v) hw];dsimp only
 rw[j4 hm]
theorem M3 {v:Int}{l:List Itm}{i:Nat}(h:0<(ci v (l.getD i Itm.z).1.n).b)(h2:(ci v (l.getD i Itm.z).1.n).b<=(iN l (al 97 122 (-32) (l.getD i Itm.z).1.n) i:Int)):kn v l i=9:=by unfold kn;rw[if_pos ⟨h,h2⟩]
theorem M4 {v:Int}{l:List Itm}{i:Nat}(h:¬(0<(ci v (l.getD i Itm.z).1.n).b/\(ci v (l.getD i Itm.z).1.n).b<=(iN l (al 97 122 (-32) (l.getD i Itm.z).1.n) i:Int))):kn v l i=0:=by unfold kn;rw[if_neg h]
theorem VX {v:Int}{l:List Itm}{i:Nat}(h:(iN l ((aH v).getD i []) l.length:Int)<(ci v ((aH v).getD i [])).a):H8 v l i=7:=by unfold H8;rw[if_pos h]
theorem VY {v:Int}{l:List Itm}{i:Nat}(h:¬(iN l ((aH v).getD i []) l.length:Int)<(ci v ((aH v).getD i [])).a):H8 v l i=0:=by unfold H8;rw[if_neg h]
theorem RG {l:List Itm}{k:Nat}(hk:k<l.length){L:List (List UInt8×Int)}(h:∀s,jc s L=iN l s k):∀s,jc s (jB (al 97 122 (-32) (l.getD k Itm.z).1.n) (jc (al 97 122 (-32) (l.getD k Itm.z).1.n) L+1) L)=iN l s (k+1):=by
 intro s;rw[MR,sO hk,h,h];cases hs:aS s (al 97 122 (-32) (l.getD k Itm.z).1.n) with
 |true=>
  have:=bx.1 hs;rw[if_pos rfl,<-this,if_pos (bx.2 rfl)];omega
 |false=>
  rw[if_neg (by decide),if_neg (λh=>absurd (bx.2 (bx.1 h).symm) (by rw[hs];decide))];omega
attribute [local irreducible] bN aw aa aC bg ab ae
attribute [local irreducible] al ci iN iq dx jc jB aH Itm.w kn H8
theorem GU {G:Glo}{m:Int}(hE:ab G errTy)(hE2:rJ G)(hP:fW G)(hM:ab G (ct m))(hS:rI G)(c:Crd)(hf:c.ok):aj prog G 26 [c.A] c.E.A:=by
 obtain⟨v,l⟩:=c;obtain⟨h70,ho⟩:=hf;dsimp only at h70 ho;have hN:=CT (G:=G) v;by_cases hv:v=3\/v=4
 ·have hve:dR v= .none:=by unfold dR;rw[if_pos hv]
  rw[hve] at hN;simp only[Err.A] at hN;by_cases h60:60<l.length
  ·rw[SJ hv h60];refine ao func26 call26 λC hC hGL=> ?_;exact ba
  ·have hone:∀k,k<l.length->aj prog G 51 [DL (l.getD k Itm.z),.int .i64 v] (.int .i64 ((l.getD k Itm.z).w v)):=λk hk=>OL hE hE2 hP hM hS v hv _ (sw ho hk);refine ao func26 call26 λC hC hGL=> ?_;refine a6 ?_;intros;refine lp hC hGL (λk:Nat=>[(1,.rop [.int .i64 v,.list 15 l.length (eJ l)] 0),(3,.list 1 (aH v).length (ay (aH v))),(33,.list 15 l.length (eJ l)),(34,.int .i64 (l.length:Nat)),(35,.int .i64 (k:Nat))]) (λ_=>[]) (λk=>k<=l.length/\∀j,j<k->(l.getD j Itm.z).w v=0) (λk=>l.length-k) 0 ⟨Nat.zero_le _,λj h=>absurd h (Nat.not_lt_zero _)⟩ ad rfl ?_;rintro k ⟨k1,k2⟩;by_cases hk:k<l.length
   ·have h1:=hone k hk;unfold DL at h1;by_cases hw:(l.getD k Itm.z).w v=0
    ·rw[hw] at h1;refine a6 ?_;intros;exact cJ (k+1) ⟨hk,aV k2 hw⟩ (by omega) ad an
    ·rw[SG hv h60 hk k2 hw];simp only[Err.A,BJ];exact ba
   ·obtain rfl:k=l.length:=by omega
    refine a6 ?_;intro bl;intros;refine lp hC hGL (λz:Nat×List (List UInt8×Int)=>[(1,.rop [.int .i64 v,.list 15 l.length (eJ l)] 0),(3,.list 1 (aH v).length (ay (aH v))),(8,.own 0 (.map (some bl))),(54,.list 15 l.length (eJ l)),(55,.int .i64 (l.length:Nat)),(56,.int .i64 (z.1:Nat))]) (λz=>[.mp bl (iq z.2)]) (λz=>z.1<=l.length/\(∀s,jc s z.2=iN l s z.1)/\∀j,j<z.1->kn v l j=0) (λz=>l.length-z.1) (0,[]) ⟨Nat.zero_le _,λs=>by rw[zX];unfold jc;simp only[dx];rfl,λj h=>absurd h (Nat.not_lt_zero _)⟩ ad (by unfold iq;rfl) ?_;rintro⟨k,L⟩ ⟨k1,kL,km⟩;dsimp only at k1 kL km ⊢;by_cases hk:k<l.length
    ·have hnl:(l.getD k Itm.z).1.n.length<=10000:=(sw ho hk).p.n;have hU:=fK (G:=G) (l.getD k Itm.z).1.n (by omega);have hul:=E7 (l.getD k Itm.z).1.n;have hR:=nr (G:=G) hS v (al 97 122 (-32) (l.getD k Itm.z).1.n) (by omega);have hcnt:=kL (al 97 122 (-32) (l.getD k Itm.z).1.n);have hcl:=ro l (al 97 122 (-32) (l.getD k Itm.z).1.n) k;have hupd:=RG hk kL;have h9:=M3 (v:=v) (l:=l) (i:=k);have h0:=M4 (v:=v) (l:=l) (i:=k);have hsc:=hupd (al 97 122 (-32) (l.getD k Itm.z).1.n);have hsu:=sO (s:=al 97 122 (-32) (l.getD k Itm.z).1.n) hk;rw[if_pos (bx.2 rfl)] at hsu;rw[Qg,hve] at hR;unfold Rl.A at hR;simp only[Err.A] at hR;refine a6 ?_;intros;have hcm:=λh=>SH (v:=v) hv h60 k2 hk km h;generalize ci v (l.getD k Itm.z).1.n=r at*
     obtain⟨r0,r1,r2,r3⟩:=r;dsimp only at*
     generalize al 97 122 (-32) (l.getD k Itm.z).1.n=U at*
     refine ko U ?_;generalize jc U L=NN at*
     generalize iN l U k=cn at*
     by_cases hb:0<r2
     ·by_cases hc:r2<=(cn:Int)
      ·have h9:=h9 hb hc;rw[h9] at hcm;rw[hcm (by decide)];simp only[Err.A,BJ];refine a6 ?_;intros;refine A3 U (λj n hl=> ?_) (λhl i=> ?_)
       ·have eL:(iq L).set j (AVal.str U,AVal.int .i64 (NN+1))=iq (jB U (NN+1) L):=by rw[wj];unfold jB;rw[hl]
        refine a6 ?_;intros;rw[eL];refine ko U ?_;generalize jc U (jB U (NN+1) L)=N2 at*
        exact ba
       ·have eL:iq L++[(AVal.str U,AVal.int .i64 (NN+1))]=iq (jB U (NN+1) L):=by rw[so];unfold jB;rw[hl]
        refine a6 ?_;intros;rw[eL];refine ko U ?_;generalize jc U (jB U (NN+1) L)=N2 at*
        exact ba
      ·have h0:=h0 (λh=>hc h.2);refine a6 ?_;intros;refine A3 U (λj n hl=> ?_) (λhl i=> ?_)
       ·have eL:(iq L).set j (AVal.str U,AVal.int .i64 (NN+1))=iq (jB U (NN+1) L):=by rw[wj];unfold jB;rw[hl]
        refine a6 ?_;intros;rw[eL];refine ko U ?_;have hsc2:=hsc;generalize jc U (jB U (NN+1) L)=N2 at hsc2 ⊢;refine a6 ?_;intros;exact cJ (k+1,jB U (NN+1) L) ⟨hk,hupd,aV km h0⟩ (by dsimp only;omega) ad an
       ·have eL:iq L++[(AVal.str U,AVal.int .i64 (NN+1))]=iq (jB U (NN+1) L):=by rw[so];unfold jB;rw[hl]
        refine a6 ?_;intros;rw[eL];refine ko U ?_;have hsc2:=hsc;generalize jc U (jB U (NN+1) L)=N2 at hsc2 ⊢;refine a6 ?_;intros;exact cJ (k+1,jB U (NN+1) L) ⟨hk,hupd,aV km h0⟩ (by dsimp only;omega) ad an
     ·have h0:=h0 (λh=>hb h.1);refine a6 ?_;intros;refine A3 U (λj n hl=> ?_) (λhl i=> ?_)
      ·have eL:(iq L).set j (AVal.str U,AVal.int .i64 (NN+1))=iq (jB U (NN+1) L):=by rw[wj];unfold jB;rw[hl]
       refine a6 ?_;intros;rw[eL];exact cJ (k+1,jB U (NN+1) L) ⟨hk,hupd,aV km h0⟩ (by dsimp only;omega) ad an
      ·have eL:iq L++[(AVal.str U,AVal.int .i64 (NN+1))]=iq (jB U (NN+1) L):=by rw[so];unfold jB;rw[hl]
       refine a6 ?_;intros;rw[eL];exact cJ (k+1,jB U (NN+1) L) ⟨hk,hupd,aV km h0⟩ (by dsimp only;omega) ad an
    ·obtain rfl:k=l.length:=by omega
     rw[SI hv h60 k2 km];refine a6 ?_;intros;refine lp hC hGL (λk:Nat=>[(1,.rop [.int .i64 v,.list 15 l.length (eJ l)] 0),(8,.own 0 (.map (some bl))),(91,.list 1 (aH v).length (ay (aH v))),(92,.int .i64 ((aH v).length:Nat)),(93,.int .i64 (k:Nat))]) (λ_=>[.mp bl (iq L)]) (λk=>k<=(aH v).length/\∀j,j<k->H8 v l j=0) (λk=>(aH v).length-k) 0 ⟨Nat.zero_le _,λj h=>absurd h (Nat.not_lt_zero _)⟩ ad rfl ?_;rintro k ⟨k1,kl⟩;by_cases hk:k<(aH v).length
     ·have hnn:=Dq hk;have hnl:=zn v;have hR:=nr (G:=G) hS v ((aH v).getD k []) (by omega);have hcl:=ro l ((aH v).getD k []) l.length;have hcnt:=kL ((aH v).getD k []);rw[hve] at hR;unfold Rl.A at hR;simp only[Err.A] at hR;have h7:=VX (v:=v) (l:=l) (i:=k);have h0:=VY (v:=v) (l:=l) (i:=k);have hf7:=λh=>uE (f:=H8 v l) hk kl h;generalize ci v ((aH v).getD k [])=r at*
      obtain⟨r0,r1,r2,r3⟩:=r;dsimp only at*
      generalize iN l ((aH v).getD k []) l.length=N at*
      by_cases hb:(N:Int)<r1
      ·have h7:=h7 hb;rw[h7] at hf7;rw[hf7 (by decide),if_neg (by decide)];simp only[Err.A,fq];refine a6 ?_;intros;refine ko ((aH v).getD k []) ?_;rw[hcnt];exact ba
      ·have h0:=h0 hb;refine a6 ?_;intros;refine ko ((aH v).getD k []) ?_;rw[hcnt];refine a6 ?_;intros;exact cJ (k+1) ⟨hk,aV kl h0⟩ (by omega) ad an
     ·obtain rfl:k=(aH v).length:=by omega
      rw[lT (f:=H8 v l) kl,if_pos rfl];simp only[Err.A];exact ba
 ·rw[SK hv];have hve:dR v= .errno 1:=by unfold dR;rw[if_neg hv]
  rw[hve] at hN;simp only[Err.A,fq] at hN ⊢;refine ao func26 call26 λC hC hGL=> ?_;exact ba
end
section
theorem wS {f:Nat->Int}:∀{n:Nat},(tW f n= .none)\/∃k,k<n/\tW f n= .at (f k) k/\f k≠0
 |0=>.inl rfl
 |n+1=>by
  rcases wS (f:=f) (n:=n) with h|⟨k,h1,h2,h3⟩
  ·rw[tW,h];by_cases h0:f n=0
   ·exact .inl (by simp only[h0,if_true])
   ·exact .inr ⟨n,by omega,by simp only[h0,if_false],h0⟩
  ·exact .inr ⟨k,by omega,by rw[tW,h2],h3⟩
theorem UC (c:Crd):c.E= .none\/(c.E.e≠0/\∀e p,c.E= .at e p->0<=p):=by
 unfold Crd.E;split
 ·split
  ·exact .inr ⟨by decide,λe p h=>by cases h⟩
  ·rcases wS (f:=λi=>(c.l.getD i Itm.z).w c.v) (n:=c.l.length) with h|⟨k,h1,h2,h3⟩
   ·rw[h];dsimp only
    rcases wS (f:=kn c.v c.l) (n:=c.l.length) with h|⟨k,h1,h2,h3⟩
    ·rw[h];dsimp only
     split
     ·exact .inl rfl
     ·exact .inr ⟨by decide,λe p h=>by cases h⟩
    ·rw[h2];exact .inr ⟨h3,λe p h=>by cases h;omega⟩
   ·rw[h2];exact .inr ⟨h3,λe p h=>by cases h;omega⟩
 ·exact .inr ⟨by decide,λe p h=>by cases h⟩
theorem IH {c:Crd}{e p:Int}(h:c.E= .at e p):0<=p/\p<c.l.length:=by
 unfold Crd.E at h;split at h
 ·split at h
  ·cases h
  ·rcases wS (f:=λi=>(c.l.getD i Itm.z).w c.v) (n:=c.l.length) with g|⟨k,h1,h2,h3⟩
   ·rw[g] at h;dsimp only at h;rcases wS (f:=kn c.v c.l) (n:=c.l.length) with g|⟨k,h1,h2,h3⟩
    ·rw[g] at h;dsimp only at h;split at h<;>cases h
    ·rw[h2] at h;cases h;omega
   ·rw[h2] at h;cases h;omega
 ·cases h
end
section
theorem tl {E v:AVal}{H:Heap}(e:v= .tuple [.agg [.int .i64 0,ax],E]):Rt (OF ⟨0,[]⟩ E) v H:=⟨[],List.nil_sublist _,ax,by rw[e],rfl,.inl ⟨rfl,rfl⟩⟩
theorem NC {x:Js}(h:(gM x).e=0):gM x= .none:=by
 have hr:∀l k,(cE l k).2.e=0->(cE l k).2= .none:=λl k=>by
  have h9:=Ld (aA l 0).t k;unfold cE
  (repeat' split)<;>first|exact h9|exact λ_=>rfl|exact λh=>absurd h (by decide)
 unfold gM at h ⊢;split at h
 ·cases h
 ·split at h
  ·cases h
  ·split at h
   ·cases h
   ·rename_i h1 h2 h3;rw[if_neg h1,if_neg h2,if_neg h3];exact hr _ _ h
theorem Uk {x:Js}(h:kM 12 x≠0):x.fE= .errno (kM 12 x):=by unfold Js.fE;rw[if_pos h]
theorem Ul {x:Js}(h:kM 12 x=0)(h1:ud x=false):x.fE= .errno 3:=by unfold Js.fE;rw[if_neg (by rw[h];decide),if_pos h1]
theorem Wf {x:Js}(h:kM 12 x=0)(h1:ud x=true)(h2:(aA x.l 1).l.length=0\/mf (aA (aA x.l 1).l 0)=false):x.fE= .at 3 0:=by unfold Js.fE;rw[if_neg (by rw[h];decide),if_neg (by rw[h1];decide),if_pos h2]
theorem Wg {x:Js}(h:kM 12 x=0)(h1:ud x=true)(h2:(aA x.l 1).l.length≠0)(h3:mf (aA (aA x.l 1).l 0)=true):x.fE=th (aA x.l 1).l:=by unfold Js.fE;rw[if_neg (by rw[h];decide),if_neg (by rw[h1];decide),if_neg (λg=>by rcases g with g|g;exact h2 g;rw[h3] at g;cases g)]
theorem w9 {x:Js}(h:x.fE≠ .none):x.fC=⟨0,[]⟩:=by
 unfold Js.fC;split
 ·rename_i g;exact absurd g h
 ·rfl
theorem N5 {x:Js}(h:x.fE= .none):x.fC=jg (aA x.l 1).l:=by unfold Js.fC;rw[h]
theorem It {l:List Js}{k:Nat}(hk:k<l.length-1)(h:∀j,j<k->gM (aA l (j+1))= .none)(h1:gM (aA l (k+1))≠ .none):th l= .at (gM (aA l (k+1))).e (k+1):=by
 unfold th NY;rw[uF (f:=λi=>(gM (aA l (i+1))).e) hk (λj hj=>by rw[h j hj];rfl) (λg=>h1 (NC g))];rfl
theorem Is {l:List Js}(h:∀j,j<l.length-1->gM (aA l (j+1))= .none):th l=PE (jg l).E:=by
 unfold th NY;rw[j4 (f:=λi=>(gM (aA l (i+1))).e) λj hj=>by rw[h j hj];rfl]
theorem By {x:Js}:ud x=true↔x.k=6/\x.l.length=2/\tT (aA x.l 0) Pz=true/\(aA x.l 1).k=6:=by
 unfold ud;simp only[Bool.and_eq_true,bP];constructor
 ·rintro⟨h1,h2,h3,h4⟩;exact⟨h1,by omega,h3,h4⟩
 ·rintro⟨h1,h2,h3,h4⟩;exact⟨h1,by omega,h3,h4⟩
theorem uI {x:Js}(h:¬(x.k=6/\x.l.length=2/\tT (aA x.l 0) Pz=true/\(aA x.l 1).k=6)):ud x=false:=by
 cases hc:ud x with
 |false=>rfl
 |true=>exact absurd (By.1 hc) h
def qQ (l:List Js)(k:Nat):List Itm:=((l.drop 1).take k).map xU
theorem wG {l:List Js}{k:Nat}(h:k<=l.length-1):(qQ l k).length=k:=by unfold qQ;rw[List.length_map,List.length_take,List.length_drop];omega
theorem Nz {l:List Js}{k:Nat}(h:k<l.length-1):qQ l (k+1)=qQ l k++[xU (aA l (k+1))]:=by
 have h1:k<(l.drop 1).length:=by rw[List.length_drop];omega
 unfold qQ;rw[List.take_succ_eq_append_getElem h1,List.map_append,List.map_singleton,<-mN h1,il,Nat.add_comm 1 k]
theorem DJ (l:List Js):qQ l (l.length-1)=(jg l).l:=by
 unfold qQ jg;rw[List.take_of_length_le (by rw[List.length_drop];omega)]
theorem Bl {m:Nat}{d:Nat}{l:List Js}(h:∀i,Js.thin (m+4) (aA l i))(hf:∀i,Lib.lens (aA (aA l i).l 1).ks<=1048576)(hl:l.length<=1000000):(jg l).ok:=by
 refine⟨by show((l.drop 1).map xU).length<=_;rw[List.length_map,List.length_drop];omega,λx hx=> ?_⟩;obtain⟨y,hy,rfl⟩:=List.mem_map.1 hx;obtain⟨i,hi,rfl⟩:=List.getElem_of_mem hy;rw[<-mN hi,il];exact V6 (h _) (hf _)
theorem T7 {x:Js}(h:gM x= .none):DK x=xU x:=by
 unfold DK;refine if_neg λg=> ?_;unfold gM at h;rcases g with g|g|g
 ·rw[if_pos g] at h;cases h
 ·split at h
  ·cases h
  ·cases h
 ·split at h
  ·cases h
  ·split at h
   ·cases h
   ·cases h
attribute [local irreducible] bN aw aa aC bg ab ae
attribute [local irreducible] Crd.E gM xU DK th jg oP qQ mf Js.fE Js.fC fH eF
theorem Ny {G:Glo}{m:Int}(hE:ab G errTy)(hE2:rJ G)(hU:ab G utfTy)(hP:fW G)(hM:ab G (ct m))(hS:rI G)(d w:Nat)(x:Js)(hd:Js.le d x)(hs:Js.sz d x<=1048576)(ht:Js.thin (w+6) x):
  ae prog G 6 [Js.R d x] [] (OF x.fC x.fE.A):=by
 have hR:=Ga (G:=G) d x hd hs;have hf:=vj hd hs;by_cases hj:kM 12 x=0;case neg=>
  rw[la hj] at hR;rw[w9 (by rw[Uk hj];exact λh=>by cases h),Uk hj];simp only[Err.A,fq] at hR ⊢;generalize kM 12 x=j at*
  unfold Js.R at*
  refine ao func6 call6 λC hC hGL=> ?_;refine az ?_;intros;exact tl rfl
 rw[hj,show J2 0= .none from rfl] at hR;have hc0:∀{H},ud x=false->Rt (OF x.fC x.fE.A) (.tuple [.agg [.int .i64 0,ax],fq 3]) H:=λ{H} h=>by
  rw[w9 (by rw[Ul hj h];exact λh=>by cases h),Ul hj h];exact tl rfl
 simp only[Err.A,fq] at hR hc0;have hjk:=pi hj;by_cases h6:x.k=6;case neg=>
  have hb:=uI λg=>h6 g.1;unfold Js.R at*
  refine ao func6 call6 λC hC hGL=> ?_;refine az ?_;intros;exact hc0 hb
 by_cases h2:x.l.length=2;case neg=>
  have hb:=uI λg=>h2 g.2.1;unfold Js.R at*
  refine ao func6 call6 λC hC hGL=> ?_;refine az ?_;intros;exact hc0 hb
 obtain⟨e,rfl, -⟩:=e8 hd (show 0<x.l.length by omega);have i0:=Id (G:=G) e (aA x.l 0) [118,99,97,114,100];cases hv:tT (aA x.l 0) Pz with
 |false=>
  have hb:=uI λg=>by rw[hv] at g;cases g.2.2.1
  rw[show tT (aA x.l 0) [118,99,97,114,100]=false from hv] at i0;unfold Js.R at*
  refine ao func6 call6 λC hC hGL=> ?_;refine az ?_;intros;exact hc0 hb
 |true=>
 rw[show tT (aA x.l 0) [118,99,97,114,100]=true from hv] at i0;by_cases h7:(aA x.l 1).k=6;case neg=>
  have hb:=uI λg=>h7 g.2.2.2;unfold Js.R at*
  refine ao func6 call6 λC hC hGL=> ?_;refine az ?_;intros;exact hc0 hb
 have hb:=By.2 ⟨h6,h2,hv,h7⟩;clear hc0;have hy:=hd 1 (by omega);have hjy:=hjk.2.2 1 (by omega);have hty:=cp ht 1;have hfy:=hf.2 1 (by omega);have f3:=Wf hj hb;have f4:=Wg hj hb;have fno:=w9 (x:=x);have fok:=N5 (x:=x);unfold Js.R at hR i0 ⊢;generalize x.fE=E at*
 generalize x.fC=Cc at*
 have hl600:=hty.1.2.2.1;have htl:=cp hty;have hok:(jg (aA x.l 1).l).ok:=Bl (m:=w) (d:=e) htl (λi=>by
  by_cases hi:i<(aA x.l 1).l.length
  ·obtain⟨e',rfl, -,hfi⟩:=kA hfy hy hi;by_cases h1:1<(aA (aA x.l 1).l i).l.length
   ·obtain⟨e'',rfl, -,hfi2⟩:=kA hfi ((hy i hi)) h1;exact(rc hfi2).2.2.1
   ·rw[lh (by omega)];exact Nat.zero_le _
  ·rw[lh (show(aA x.l 1).l.length<=i by omega)];exact Nat.zero_le _) (by omega)
 have hCv:(jg (aA x.l 1).l).v=4:=by unfold jg;rfl
 clear hs ht hjk hf;generalize hyy:aA x.l 1=y at*
 have hfat:=λk=>It (l:=y.l) (k:=k);have hfno:=Is (l:=y.l);have hiK:=DJ y.l;generalize jg y.l=F at*
 generalize hl:y.l=l at*
 refine fN func6 call6 λC hC hGL=> ?_;refine dU hC hGL (λb:Nat=>[(1,.rop (Js.C (e+1) x) 0),(2,.own 0 (bX b)),(3,.raw .nilIface)]) (λb=>[mL b 0 ax]) (λ_=>True) ?_ ?_
 ·refine az ?_;intro b;intros;exact cy b trivial
 intro b2 _;refine cut hC hGL [(1,.rop (Js.C (e+1) x) 0),(2,.own 0 (bX b2)),(3,.raw .nilIface)] [mL b2 0 ax] True ?_ λ_=> ?_
 ·exact cx
 refine cut hC hGL [(1,.rop (Js.C (e+1) x) 0),(2,.own 0 (bX b2)),(3,.raw .nilIface)] [mL b2 0 ax] True ?_ λ_=> ?_
 ·rw[<-hyy] at h7;exact cx
 refine dU hC hGL (λb:Nat=>[(1,.rop (Js.C (e+1) x) 0),(2,.own 0 (bX b2)),(3,.raw .nilIface),(5,.own 1 (bX b))]) (λb=>[mL b2 0 ax,mL b 4 ax]) (λ_=>True) ?_ ?_
 ·refine az ?_;intro b;intros;exact cy b trivial
 intro b5 _;refine yF (λ_:Unit=>[(2,.own 0 (bX b2)),(3,.raw .nilIface),(5,.own 1 (bX b5)),(6,.list 4 l.length (kR e l))]) (λ_=>[mL b2 0 ax,mL b5 4 ax]) (λ_=>True) (am hC hGL ?_) ?_
 ·refine az ?_;intros;rw[hyy,hl];exact BY () trivial (cQ ad an)
 intro _ _;by_cases hn:l.length=0
 ·have f3:=f3 (.inl hn);subst f3;rw[fno (λh=>by cases h)];simp only[Err.A,BJ];refine am hC hGL (az ?_);intros;exact tl rfl
 have hyl:∀i,i<l.length->∃e',e=e'+1/\Js.le e' (aA l i)/\Js.fit e' (aA l i):=λi hi=>by subst hl;exact kA hfy hy hi
 obtain⟨e',rfl,hle,hfe⟩:=hyl 0 (by omega);have hve:=Gh (G:=G) e' (aA l 0) hle;unfold Js.R at hve;cases hvr:mf (aA l 0) with
 |false=>
  have f3:=f3 (.inr hvr);rw[hvr] at hve;subst f3;rw[fno (λh=>by cases h)];simp only[Err.A,BJ];refine am hC hGL (az ?_);intros;exact tl rfl
 |true=>
 have f4:=f4 hn hvr;clear f3;rw[hvr] at hve;refine cut hC hGL [(2,.own 0 (bX b2)),(3,.raw .nilIface),(5,.own 1 (bX b5)),(6,.list 4 l.length (kR (e'+1) l))] [mL b2 0 ax,mL b5 4 ax] True cx λ_=> ?_;have hit:=λi (hi:i<l.length)=>QY (G:=G) hU hM hS e' 8 w (aA l i) (by obtain⟨e2,h,g, -⟩:=hyl i hi;cases h;exact g) (htl i) (by obtain⟨e2,h, -,g⟩:=hyl i hi;cases h;exact g) (by have:=(pi hjy).2.2 i (by rw[hl];exact hi);rw[hl] at this;exact this);refine yF (λ_:Unit=>[(2,.own 0 (bX b2)),(3,.raw .nilIface),(5,.own 1 (bX b5))]) (λ_=>[mL b2 0 ax,mL b5 4 (.list 15 F.l.length (eJ F.l))]) (λ_=>∀j,j<l.length-1->gM (aA l (j+1))= .none) (am hC hGL ?_) ?_
 ·refine az ?_;intros;refine qM (aE (gQ 15) (jD (i:=1) (p:=1) (x:=mL b5 4 ax) (a':=.own 2 (.slice none 0 0)) rfl (λR=>.cells rfl λ_=>jK))) ?_;refine lp hC hGL (λz:Nat×Value=>[(2,.own 0 (bX b2)),(3,.raw .nilIface),(5,.own 1 (bX b5)),(68,.list 4 (l.length-1) (λk=>kR (e'+1) l (1+k))),(69,.int .i64 ((l.length-1:Nat):Int)),(70,.int .i64 (z.1:Nat))]) (λz=>[mL b2 0 ax,mL b5 4 (.own 2 z.2),.row z.2 none 15 z.1 (oP (qQ l z.1))]) (λz=>z.1<=l.length-1/\∀j,j<z.1->gM (aA l (j+1))= .none) (λz=>l.length-1-z.1) (0,.slice none 0 0) ⟨Nat.zero_le _,λj h=>absurd h (Nat.not_lt_zero _)⟩ ad (by unfold qQ;dsimp only;rw[List.take_zero];unfold oP;rfl) ?_;rintro⟨k,v⟩ ⟨k1,k2⟩;have k1:k<=l.length-1:=k1;have k2:∀j,j<k->gM (aA l (j+1))= .none:=k2;dsimp only
  by_cases hk:k<l.length-1;case neg=>
   obtain rfl:k=l.length-1:=by omega
   have hlF:F.l.length=l.length-1:=by rw[<-hiK,wG (Nat.le_refl _)]
   rw[hiK,hlF];refine az ?_;intros;exact BY () k2 (aE (jC (i:=2) (k:=1) (p:=1) (eJ F.l) rfl rfl (λj hj=>Ie F.l j (by omega)) (λR hr=>.cells (a:=.own 2 v) rfl λ_=>df hr)) (cQ ad an))
  have hi:=hit (k+1) (by omega);unfold Js.R at hi;have hkk:aA l (1+k)=aA l (k+1):=by rw[Nat.add_comm]
  by_cases h0:gM (aA l (k+1))= .none
  ·rw[h0,T7 h0,<-hkk] at hi;have hs:=Nz hk;rw[<-hkk] at hs;simp only[Err.A] at hi;generalize xU (aA l (1+k))=X at*
   refine az ?_;intro _ _ va vk vc;intros;refine cJ (k+1,.slice va vk vc) ⟨hk,aV k2 h0⟩ (by show l.length-1-(k+1)<l.length-1-k;omega) ad ?_;dsimp only
   rw[hs,<-zE];exact an
  ·have hfa:=hfat k (by omega) k2 h0;rw[f4,hfa] at fno ⊢;rw[fno (λh=>by cases h)];have hTl:=rE (G:=G) hE (gM (aA l (k+1)));rw[<-hkk] at hi hTl h0 ⊢;generalize gM (aA l (1+k))=ee at*
   generalize DK (aA l (1+k))=X at*
   cases ee with
   |none=>exact absurd rfl h0
   |errno e1=>
    simp only[Err.A,Err.e,fq,BJ] at hi hTl ⊢;refine az ?_;intros;exact tl rfl
   | «at» e1 p1=>
    simp only[Err.A,Err.e,fq,BJ] at hi hTl ⊢;refine az ?_;intros;exact tl rfl
 intro _ hall;rw[hfno hall] at f4;clear hfat hfno hit hyl;obtain⟨fv,fl⟩:=F;obtain rfl:fv=4:=hCv;have hCR:=GU hE hE2 hP hM hS ⟨4,fl⟩ hok;have hp:=λe p=>IH (c:=⟨4,fl⟩) (e:=e) (p:=p);have hlF:fl.length=l.length-1:=by
  have h9:=wG (l:=l) (Nat.le_refl _);rw[hiK] at h9;exact h9
 unfold Crd.A at hCR;dsimp only at hCR hp ⊢;subst f4;cases hce:Crd.E ⟨4,fl⟩ with
 |none=>
  rw[hce] at hCR fok;rw[fok rfl];simp only[Err.A,PE] at hCR ⊢;refine am hC hGL (az ?_);intros;exact⟨[],List.nil_sublist _,_,rfl,rfl,.inr rfl⟩
 |errno e1=>
  rw[hce] at hCR fno;rw[fno (λh=>by cases h)];simp only[Err.A,PE,fq] at hCR ⊢;refine am hC hGL (az ?_);intros;exact tl rfl
 | «at» e1 p1=>
  obtain⟨p2,p3⟩:=hp _ _ hce;rw[hce] at hCR fno;rw[fno (λh=>by cases h)];simp only[Err.A,PE] at hCR ⊢;refine am hC hGL (az ?_);intros;refine cR mixed hC hGL false (λ_:Unit=>[(2,.own 0 (bX b2)),(3,BJ e1 (p1+1))]) (λ_=>[mL b2 0 ax,mL b5 4 (.list 15 fl.length (eJ fl))]) (.t 0 (.t 1 (.t 2 (.t 3 (.t 4 (.t 5 (.t 6 (.t 7 (.t 8 (.t 9 (.t 10 (.br 11 (.t 12 (.b 13 (.t 14 .done))) (.b 13 (.b 11 (.t 12 (.t 14 .done)))))))))))))))) (by kernel_rfl) ?_ ?_
  ·refine xn ?_;repeat' first|exact .n|apply Lc.mk
   all_goals intros
   all_goals exact⟨(),ad,rfl⟩
  intro _;refine az ?_;intros;exact tl rfl
theorem QZ {G:Glo}{m:Int}(hE:ab G errTy)(hE2:rJ G)(hU:ab G utfTy)(hP:fW G)(hM:ab G (ct m))(hS:rI G)(d w:Nat)(x:Js)(hd:Js.le d x)(hs:Js.sz d x<=1048576)(ht:Js.thin (w+6) x):
  aj prog G 6 [Js.R d x] (.tuple [x.fC.A,x.fE.A]):=dC (Ny hE hE2 hU hP hM hS d w x hd hs ht) λ_ _ h=>En h
end
section
set_option maxHeartbeats 8000000
attribute [local irreducible] bN aw aC bg ab ae aa
theorem qj {G:Glo}(hP:fW G)(n:Nat)(hn:n≤9223372036854775807):aj prog G 239 [.int .i64 (n:Int),.int .i64 10] (.str (Lib.decDigits n)):=by
 refine bO rfl call239 ?_
 intro R args hr w hG hs
 obtain⟨x,t,e,hx,y,t',e',hy,rfl⟩:=hr
 have hx:=aq.1 hx
 have hy:=aq.1 hy
 subst hx hy
 obtain rfl:args=#[.int .i64 (n:Int),.int .i64 10]:=by cases args;simp_all
 have ht:Lib.TabIs prog w "internal/strconv.uint64pow10" .u64 Lib.pow10Tab:=by
  obtain⟨e,fz,hR⟩:=hP R hG
  have hg:prog.globalNamed "internal/strconv.uint64pow10" =some 10:=by kernel_rfl
  show w.var? prog "internal/strconv.uint64pow10" =_
  simp only[World.var?,hg,Option.bind_some,hs _ _ hR]
 refine(strconv_FormatInt_10 n (by omega) (by omega) w ht).mono ?_
 rintro e w' ⟨rfl,k,os,rfl⟩
 refine⟨?_,⟨rfl,rfl,rfl,?_,fun b hb=> ?_⟩⟩
 ·have:Lib.itoa (n:Int)=Lib.decDigits n:=by unfold Lib.itoa;rw[if_neg (by omega)];rfl
  rw[this]
  rfl
 ·show w.heap.size≤(w.heap++os).size
  rw[Array.size_append];omega
 ·show(w.heap++os)[b]? =w.heap[b]?
  rw[Array.getElem?_append_left hb]
theorem mZ {i:Nat}(h:100<=i)(h1:i<1000):Lib.decDigits i=[UInt8.ofNat (48+i/100),UInt8.ofNat (48+i/10%10),UInt8.ofNat (48+i%10)]:=by
 rw[Lib.decDigits,dif_neg (by omega),lm (by omega) (by omega),show i/10/10=i/100 by omega];rfl
theorem xh {i:Nat}(h:1000<=i)(h1:i<10000):Lib.decDigits i=[UInt8.ofNat (48+i/1000),UInt8.ofNat (48+i/100%10),UInt8.ofNat (48+i/10%10),UInt8.ofNat (48+i%10)]:=by
 rw[Lib.decDigits,dif_neg (by omega),mZ (by omega) (by omega),show i/10/10%10=i/100%10 by omega,show i/10/100=i/1000 by omega];rfl
theorem Kc (i:Nat):jh (i:Int)=[UInt8.ofNat (48+i/1000),UInt8.ofNat (48+i/100%10),UInt8.ofNat (48+i/10%10),UInt8.ofNat (48+i%10)]:=by
 unfold jh bL;simp only[List.map];rw[show(48+(i:Int)/1000).toNat=48+i/1000 by omega,show(48+(i:Int)/100%10).toNat=48+i/100%10 by omega,show(48+(i:Int)/10%10).toNat=48+i/10%10 by omega,show(48+(i:Int)%10).toNat=48+i%10 by omega]
theorem tO {G:Glo}(hP:fW G)(i:Nat)(h1:i<10000):aj prog G 214 [.int .i64 (i:Int),.int .i64 10,.int .i64 4] (.str (jh i)):=by
 have hf:=qj (G:=G) hP i (by omega);rw[Kc];by_cases h2:i<10
 ·rw[lq h2] at hf;refine ao func214 call214 λC hC hGL=> ?_;refine a6 ?_;intros;refine og hC hGL 4 ?_;refine a6 ?_;intros;apply ak;rw[show i/1000=0 by omega,show i/100%10=0 by omega,show i/10%10=0 by omega,show i%10=i by omega];rfl
 by_cases h3:i<100
 ·rw[lm (by omega) h3] at hf;refine ao func214 call214 λC hC hGL=> ?_;refine a6 ?_;intros;refine og hC hGL 3 ?_;refine a6 ?_;intros;apply ak;rw[show i/1000=0 by omega,show i/100%10=0 by omega,show i/10%10=i/10 by omega];rfl
 by_cases h4:i<1000
 ·rw[mZ (by omega) h4] at hf;refine ao func214 call214 λC hC hGL=> ?_;refine a6 ?_;intros;refine og hC hGL 2 ?_;refine a6 ?_;intros;apply ak;rw[show i/1000=0 by omega,show i/100%10=i/100 by omega];rfl
 ·rw[xh (by omega) h1] at hf;refine ao func214 call214 λC hC hGL=> ?_;refine a6 ?_;intros;refine og hC hGL 1 ?_;exact ba
end
section
set_option maxHeartbeats 8000000
def mX:List UInt8->Nat
 |[]=>0
 |c::r=>if c=57 then mX r+1 else mX r
theorem oC {form:List UInt8}{i:Nat}(h:i<form.length):form.drop i=form[i]::form.drop (i+1):=List.drop_eq_getElem_cons h
theorem zJ {form:List UInt8}{i:Nat}(h:i<form.length)(hc:form[i]=57):mX (form.drop i)=mX (form.drop (i+1))+1:=by
 rw[oC h,mX,if_pos hc]
theorem J7 {form:List UInt8}{i:Nat}(h:i<form.length)(hc:form[i]≠57):mX (form.drop i)=mX (form.drop (i+1)):=by
 rw[oC h,mX,if_neg hc]
theorem GB {form all:List UInt8}{i:Nat}(h:i<form.length)(hc:form[i]=57)(ha:0<all.length):jk (form.drop i) all=bL [(aa all 0:Int)]++jk (form.drop (i+1)) (all.drop 1):=by
 rw[oC h];cases all with
 |nil=>cases ha
 |cons x t=>
  rw[jk,if_pos hc];have:bL [(aa (x::t) 0:Int)]=[x]:=by
   show[UInt8.ofNat x.toNat]=[x];rw[UInt8.ofNat_toNat]
  rw[this];rfl
theorem GC {form all:List UInt8}{i:Nat}(h:i<form.length)(hc:form[i]≠57):jk (form.drop i) all=bL [(aa form i:Int)]++jk (form.drop (i+1)) all:=by
 rw[oC h];have e:jk (form[i]::form.drop (i+1)) all=form[i]::jk (form.drop (i+1)) all:=by simp only[jk,if_neg hc]
 rw[e];have:bL [(aa form i:Int)]=[form[i]]:=by
  rw[bM h];show[UInt8.ofNat form[i].toNat]=_;rw[UInt8.ofNat_toNat]
 rw[this];rfl
theorem UV {form:List UInt8}{i:Nat}(h:i<form.length):form[i]=57↔(aa form i:Int)=57:=by
 rw[bM h,<-UInt8.toNat_inj];constructor
 ·intro k;rw[k];rfl
 ·intro k;have:form[i].toNat=57:=by omega
  rw[this];rfl
theorem VN {t:Stm}(hf:t.frm=true):0<=dT (aB t.y) (aB t.m) (aB t.d)/\dT (aB t.y) (aB t.m) (aB t.d)<7:=by
 have:=((ld t).1 hf).1;have h2:=He (aB t.y) (aB t.m) (aB t.d);unfold Stm.dn Stm.tn at this;omega
theorem VK {t:Stm}(hf:t.frm=true):0<=dT (aB t.h) (aB t.i) (aB t.s)/\dT (aB t.h) (aB t.i) (aB t.s)<7:=by
 have:=((ld t).1 hf).1;have h2:=He (aB t.h) (aB t.i) (aB t.s);unfold Stm.dn Stm.tn at this;omega
theorem Ks (i:Nat):(aU i).length<=8:=by
 match i with
 |0|1|2|3|4|5|6=>decide
 |n+7=>exact Nat.zero_le _
theorem OJ (i:Nat):(aT i).length<=6:=by
 match i with
 |0|1|2|3|4|5|6=>decide
 |n+7=>exact Nat.zero_le _
def m9 (t:Stm):Nat->Int
 |0=>t.m
 |1=>t.d
 |2=>t.h
 |3=>t.i
 |_=>t.s
def ls (t:Stm):Nat->List UInt8
 |0=>if t.y= -1 then[] else jh t.y
 |k+1=>if m9 t k= -1 then ls t k else ls t k++dc (m9 t k)
theorem lr {t:Stm}{A:List UInt8}{k:Nat}(hA:A=ls t k)(h:m9 t k≠ -1):A++dc (m9 t k)=ls t (k+1):=by
 rw[ls,if_neg h,hA]
theorem iW {t:Stm}{A:List UInt8}{k:Nat}(hA:A=ls t k)(h:m9 t k= -1):A=ls t (k+1):=by
 rw[ls,if_pos h,hA]
theorem G9 (t:Stm):∀k,(ls t k).length<=4+2*k
 |0=>by
  unfold ls;split
  ·exact Nat.zero_le _
  ·exact Nat.le_refl _
 |k+1=>by
  have:=G9 t k;unfold ls;split
  ·omega
  ·rw[List.length_append,show(dc (m9 t k)).length=2 from rfl];omega
def kK (form A:List UInt8)(i:Nat)(out all:List UInt8):Prop:=i<=form.length/\out.length=i/\all.length<=100/\mX (form.drop i)<=all.length/\out++jk (form.drop i) all=jk form A
theorem oD {form A:List UInt8}(h:mX form<=A.length)(hl:A.length<=4+2*5):kK form A 0 [] A:=⟨Nat.zero_le _,rfl,by omega,by rw[List.drop_zero];exact h,by rw[List.drop_zero];rfl⟩
theorem nN {form A:List UInt8}{i:Nat}{out all:List UInt8}(h:kK form A i out all)(hb:i<form.length/\(aa form i:Int)=57):0<all.length:=by
 have h4:=h.2.2.2.1;rw[zJ hb.1 ((UV hb.1).2 hb.2)] at h4;omega
theorem oE {form A:List UInt8}{i:Nat}{out all:List UInt8}(h:kK form A i out all)(h1:i<form.length)(hb:(aa form i:Int)=57):kK form A (i+1) (out++bL [(aa all 0:Int)]) (all.drop 1):=by
 have hp:=nN h ⟨h1,hb⟩;obtain⟨a,b,c,d,e⟩:=h;have hc:=(UV h1).2 hb;rw[zJ h1 hc] at d;rw[GB h1 hc hp,<-List.append_assoc] at e;refine⟨h1,?_,?_,?_,e⟩
 ·rw[List.length_append,b];rfl
 ·rw[List.length_drop];omega
 ·rw[List.length_drop];omega
theorem oF {form A:List UInt8}{i:Nat}{out all:List UInt8}(h:kK form A i out all)(h1:i<form.length)(hb:(aa form i:Int)≠57):kK form A (i+1) (out++bL [(aa form i:Int)]) all:=by
 obtain⟨a,b,c,d,e⟩:=h;have hc:form[i]≠57:=λk=>hb ((UV h1).1 k);rw[J7 h1 hc] at d;rw[GC h1 hc,<-List.append_assoc] at e;refine⟨h1,?_,c,d,e⟩;rw[List.length_append,b];rfl
theorem rh {form A:List UInt8}{i:Nat}{out all:List UInt8}(h:kK form A i out all)(h1:form.length<=i):out=jk form A:=by
 obtain⟨a,b,c,d,e⟩:=h;rw[List.drop_of_length_le h1] at e;rw[<-e];simp[jk]
theorem zT {t:Stm}(hf:t.frm=true)(h:0<dT (aB t.h) (aB t.i) (aB t.s)):mX (aU (dT (aB t.y) (aB t.m) (aB t.d)).toNat++([84]++aT (dT (aB t.h) (aB t.i) (aB t.s)).toNat))<=(ls t 5).length/\jk (aU (dT (aB t.y) (aB t.m) (aB t.d)).toNat++([84]++aT (dT (aB t.h) (aB t.i) (aB t.s)).toNat)) (ls t 5)=nS (aB t.y) (aB t.m) (aB t.d) t.y t.m t.d++mU (aB t.h) (aB t.i) (aB t.s) t.h t.i t.s:=by
 refine qf hf λk kz=> ?_;clear kz;revert h k
 cases e1:aB t.y<;>cases e2:aB t.m<;>cases e3:aB t.d<;>cases e4:aB t.h<;>cases e5:aB t.i<;>cases e6:aB t.s<;>intro h k<;>first|exact absurd k (by decide)|exact absurd h (by decide)|(simp only[mT,Hm] at e1 e2 e3 e4 e5 e6;simp only[ls,m9,e1,e2,e3,e4,e5,e6,if_true,if_false];exact⟨Nat.le_refl _,rfl⟩)
theorem zU {t:Stm}(hf:t.frm=true)(h:dT (aB t.h) (aB t.i) (aB t.s)<=0):mX (aU (dT (aB t.y) (aB t.m) (aB t.d)).toNat)<=(ls t 5).length/\jk (aU (dT (aB t.y) (aB t.m) (aB t.d)).toNat) (ls t 5)=nS (aB t.y) (aB t.m) (aB t.d) t.y t.m t.d++mU (aB t.h) (aB t.i) (aB t.s) t.h t.i t.s:=by
 refine qf hf λk kz=> ?_;clear kz;revert h k
 cases e1:aB t.y<;>cases e2:aB t.m<;>cases e3:aB t.d<;>cases e4:aB t.h<;>cases e5:aB t.i<;>cases e6:aB t.s<;>intro h k<;>first|exact absurd k (by decide)|exact absurd h (by decide)|(simp only[mT,Hm] at e1 e2 e3 e4 e5 e6;simp only[ls,m9,e1,e2,e3,e4,e5,e6,if_true,if_false];exact⟨Nat.le_refl _,rfl⟩)
attribute [local irreducible] bN aw aC bg ab ae aa jh dc jp jk
theorem db {G:Glo}(k:Int)(h0:0<=k)(h1:k<100):aj prog G 214 [.int .i64 k,.int .i64 10,.int .i64 2] (.str (dc k)):=by
 obtain⟨i,rfl⟩:=Int.eq_ofNat_of_zero_le h0;exact nv i (by omega)
theorem oU {G:Glo}(hP:fW G)(k:Int)(h0:0<=k)(h1:k<10000):aj prog G 214 [.int .i64 k,.int .i64 10,.int .i64 4] (.str (jh k)):=by
 obtain⟨i,rfl⟩:=Int.eq_ofNat_of_zero_le h0;exact tO hP i (by omega)
theorem AO {G:Glo}(hGL:ab G shapesTy)(hP:fW G)(t:Stm)(hf:t.frm=true)(hr:t.rng=true):aj prog G 213 [t.A] (.str t.txt):=by
 have h1:=od hGL t.y t.m t.d;have h2:=od hGL t.h t.i t.s;have h3:=o8 (G:=G) t.o;have kd:0<=dT (aB t.y) (aB t.m) (aB t.d)/\dT (aB t.y) (aB t.m) (aB t.d)<7:=VN hf;have kt:=VK hf;have hc:=call174;have l1:=D4 t.y;have l2:=gP t.m;have l3:=gP t.d;have l4:=gP t.h;have l5:=gP t.i;have l6:=gP t.s;have l7:=Hd t.o;have l8:=Ks (dT (aB t.y) (aB t.m) (aB t.d)).toNat;have l9:=OJ (dT (aB t.h) (aB t.i) (aB t.s)).toNat;have r:=hr;unfold Stm.rng at r;simp only[Bool.and_eq_true,uX] at r;obtain⟨r1,r2,r3,r4,r5,r6, -⟩:=r;have r3':t.d= -1\/1<=t.d/\t.d<=31:=by
  refine r3.imp_right λh=>⟨h.1,?_⟩;have:=h.2;unfold Stm.day ub at this
  (repeat' split at this)<;>omega
 refine qf hf λk kz=> ?_;unfold Stm.txt;refine sF func213 call213 rfl rfl rfl rfl hGL ?_;intro C hC;by_cases hy:t.y= -1
 ·have k1:=λn=>oU (G:=G) hP n;refine az ?_;intros;refine lp hC hGL (λ(x:Nat×List UInt8)=>[(1,.rop [.int .i64 t.y,.int .i64 t.m,.int .i64 t.d,.int .i64 t.h,.int .i64 t.i,.int .i64 t.s,.bool t.z,.int .i64 t.o] 0),(3,.str x.2),(29,.list 1 5 (bq [(0,.int .i64 t.m),(1,.int .i64 t.d),(2,.int .i64 t.h),(3,.int .i64 t.i),(4,.int .i64 t.s)])),(30,.int .i64 5),(31,.int .i64 (x.1:Nat))]) (λ_=>[]) (λx=>x.1<=5/\x.2=ls t x.1) (λx=>5-x.1) (0,[]) ⟨show 0<=5 by decide,(if_pos hy).symm⟩ ad rfl ?_;rintro⟨k',A⟩ ⟨hk,hA⟩;have hk:k'<=5:=hk;have hA:A=ls t k':=hA;have hl:=G9 t k';rw[<-hA] at hl;rcases(show k'=0\/k'=1\/k'=2\/k'=3\/k'=4\/k'=5 by omega) with rfl|rfl|rfl|rfl|rfl|rfl
  ·have k1:=λn=>db (G:=G) n;refine xm ?_;repeat' first|exact .n|apply Lc.mk
   all_goals intros
   ·refine cJ (1,A++dc (m9 t 0)) ⟨show(1:Nat)<=5 by decide,lr hA (by assumption)⟩ (show 5-1<5-0 by decide) ad an
   ·refine cJ (1,A) ⟨show(1:Nat)<=5 by decide,iW hA (by assumption)⟩ (show 5-1<5-0 by decide) ad an
  ·have k1:=λn=>db (G:=G) n;refine xm ?_;repeat' first|exact .n|apply Lc.mk
   all_goals intros
   ·refine cJ (2,A++dc (m9 t 1)) ⟨show(2:Nat)<=5 by decide,lr hA (by assumption)⟩ (show 5-2<5-1 by decide) ad an
   ·refine cJ (2,A) ⟨show(2:Nat)<=5 by decide,iW hA (by assumption)⟩ (show 5-2<5-1 by decide) ad an
  ·have k1:=λn=>db (G:=G) n;refine xm ?_;repeat' first|exact .n|apply Lc.mk
   all_goals intros
   ·refine cJ (3,A++dc (m9 t 2)) ⟨show(3:Nat)<=5 by decide,lr hA (by assumption)⟩ (show 5-3<5-2 by decide) ad an
   ·refine cJ (3,A) ⟨show(3:Nat)<=5 by decide,iW hA (by assumption)⟩ (show 5-3<5-2 by decide) ad an
  ·have k1:=λn=>db (G:=G) n;refine xm ?_;repeat' first|exact .n|apply Lc.mk
   all_goals intros
   ·refine cJ (4,A++dc (m9 t 3)) ⟨show(4:Nat)<=5 by decide,lr hA (by assumption)⟩ (show 5-4<5-3 by decide) ad an
   ·refine cJ (4,A) ⟨show(4:Nat)<=5 by decide,iW hA (by assumption)⟩ (show 5-4<5-3 by decide) ad an
  ·have k1:=λn=>db (G:=G) n;refine xm ?_;repeat' first|exact .n|apply Lc.mk
   all_goals intros
   ·refine cJ (5,A++dc (m9 t 4)) ⟨show(5:Nat)<=5 by decide,lr hA (by assumption)⟩ (show 5-5<5-4 by decide) ad an
   ·refine cJ (5,A) ⟨show(5:Nat)<=5 by decide,iW hA (by assumption)⟩ (show 5-5<5-4 by decide) ad an
  refine n4 ?_;intros;refine cR mixed hC hGL false (λ(_:Unit)=>[(1,.rop [.int .i64 t.y,.int .i64 t.m,.int .i64 t.d,.int .i64 t.h,.int .i64 t.i,.int .i64 t.s,.bool t.z,.int .i64 t.o] 0),(3,.str A),(6,.str (aU (dT (aB t.y) (aB t.m) (aB t.d)).toNat))]) (λ_=>[]) .p14 (by kernel_rfl) ?_ ?_
  ·refine xn ?_;repeat' first|exact .n|apply Lc.mk
   all_goals intros
   all_goals exact⟨(),⟨rfl,rfl,rfl,trivial⟩,rfl⟩
  intro _;repeat' (first|(conv=>whnf);first|refine .w ?_|refine .v ?_|refine cj ?_ ?_<;>(intro hb;try exact dd hb)|apply aF|apply bf|(apply bQ<;>intro hb)|(apply bR;intro hbd)|(apply aZ;first|exact h2|exact h3)|(apply aL (i:=0) rfl;first|exact h2|exact h3)|(apply bS;intro bl)|(apply cb;intro va vk vc hva)|(apply ca;intro v)|(apply cd;intro bl cap hcap)|apply cg|(apply bZ<;>intro hnx)|exact True.intro|(apply iy;intro C hC)|apply iw|apply io|(apply ip;exact rfl)|(show Rt _ _ _;exact bK)|fail)
  all_goals try conv=>whnf
  ·have hG:=zT hf (by assumption);have hLF:(aU (dT (aB t.y) (aB t.m) (aB t.d)).toNat++([84]++aT (dT (aB t.h) (aB t.i) (aB t.s)).toNat)).length<=15:=by first|(rw[List.length_append,List.length_append,List.length_singleton];omega)|omega
   rw[<-hA] at hG;refine lp hC hGL (λ(x:Nat×List UInt8×List UInt8)=>[(1,.rop [.int .i64 t.y,.int .i64 t.m,.int .i64 t.d,.int .i64 t.h,.int .i64 t.i,.int .i64 t.s,.bool t.z,.int .i64 t.o] 0),(3,.str x.2.2),(8,.str x.2.1),(73,.own 0 (.slice (some ⟨bl,0,none⟩) (aU (dT (aB t.y) (aB t.m) (aB t.d)).toNat++([84]++aT (dT (aB t.h) (aB t.i) (aB t.s)).toNat)).length cap)),(74,.int .i64 ((aU (dT (aB t.y) (aB t.m) (aB t.d)).toNat++([84]++aT (dT (aB t.h) (aB t.i) (aB t.s)).toNat)).length:Nat)),(75,.int .i64 (x.1:Nat))]) (λ_=>[.buf bl (aU (dT (aB t.y) (aB t.m) (aB t.d)).toNat++([84]++aT (dT (aB t.h) (aB t.i) (aB t.s)).toNat)) cap]) (λx=>kK (aU (dT (aB t.y) (aB t.m) (aB t.d)).toNat++([84]++aT (dT (aB t.h) (aB t.i) (aB t.s)).toNat)) A x.1 x.2.1 x.2.2) (λx=>(aU (dT (aB t.y) (aB t.m) (aB t.d)).toNat++([84]++aT (dT (aB t.h) (aB t.i) (aB t.s)).toNat)).length-x.1) (0,[],A) (oD hG.1 hl) ad rfl ?_;rintro⟨i,out,all⟩ hI;have hI:kK (aU (dT (aB t.y) (aB t.m) (aB t.d)).toNat++([84]++aT (dT (aB t.h) (aB t.i) (aB t.s)).toNat)) A i out all:=hI;have hI1:=hI.1;have hI2:=hI.2.1;have hI3:=hI.2.2.1;have hI0:=λh=>nN hI h;refine xw ?_;repeat' first|exact .n|apply Lc.mk
   all_goals intros
   ·refine aP hC hGL (cW [_] rfl (by intro v hv;obtain rfl:=List.mem_singleton.1 hv;exact⟨Int.natCast_nonneg _,by exact_mod_cast bu _ _⟩) rfl rfl rfl rfl rfl rfl) rfl rfl ?_;refine n4 ?_;intros;refine vq (show out.length+1<=9223372036854775807 by omega) ?_;refine n4 ?_;intros;refine di (i+1,out++bL [(aa all 0:Int)],all.drop 1) ?_ ?_ ad rfl
    ·exact oE hI (by omega) (by assumption)
    ·show _-(i+1)<_-i;omega
   ·refine aP hC hGL (cW [_] rfl (by intro v hv;obtain rfl:=List.mem_singleton.1 hv;exact⟨Int.natCast_nonneg _,by exact_mod_cast bu _ _⟩) rfl rfl rfl rfl rfl rfl) rfl rfl ?_;refine n4 ?_;intros;refine vq (show out.length+1<=9223372036854775807 by omega) ?_;refine n4 ?_;intros;refine di (i+1,out++bL [(aa (aU (dT (aB t.y) (aB t.m) (aB t.d)).toNat++([84]++aT (dT (aB t.h) (aB t.i) (aB t.s)).toNat)) i:Int)],all) ?_ ?_ ad rfl
    ·exact oF hI (by omega) (by assumption)
    ·show _-(i+1)<_-i;omega
   all_goals
    apply ak;refine congrArg AVal.str ?_;have e:=rh hI (by omega);rw[hG.2] at e;first
     |(rw[if_pos (by assumption),<-e])
     |(rw[if_neg (by simp only[Bool.not_eq_true];assumption),<-e,List.append_nil])
  ·have hG:=zU hf (by assumption);have hLF:(aU (dT (aB t.y) (aB t.m) (aB t.d)).toNat).length<=15:=by first|(rw[List.length_append,List.length_append,List.length_singleton];omega)|omega
   rw[<-hA] at hG;refine lp hC hGL (λ(x:Nat×List UInt8×List UInt8)=>[(1,.rop [.int .i64 t.y,.int .i64 t.m,.int .i64 t.d,.int .i64 t.h,.int .i64 t.i,.int .i64 t.s,.bool t.z,.int .i64 t.o] 0),(3,.str x.2.2),(8,.str x.2.1),(73,.own 0 (.slice (some ⟨bl,0,none⟩) (aU (dT (aB t.y) (aB t.m) (aB t.d)).toNat).length cap)),(74,.int .i64 ((aU (dT (aB t.y) (aB t.m) (aB t.d)).toNat).length:Nat)),(75,.int .i64 (x.1:Nat))]) (λ_=>[.buf bl (aU (dT (aB t.y) (aB t.m) (aB t.d)).toNat) cap]) (λx=>kK (aU (dT (aB t.y) (aB t.m) (aB t.d)).toNat) A x.1 x.2.1 x.2.2) (λx=>(aU (dT (aB t.y) (aB t.m) (aB t.d)).toNat).length-x.1) (0,[],A) (oD hG.1 hl) ad rfl ?_;rintro⟨i,out,all⟩ hI;have hI:kK (aU (dT (aB t.y) (aB t.m) (aB t.d)).toNat) A i out all:=hI;have hI1:=hI.1;have hI2:=hI.2.1;have hI3:=hI.2.2.1;have hI0:=λh=>nN hI h;refine xw ?_;repeat' first|exact .n|apply Lc.mk
   all_goals intros
   ·refine aP hC hGL (cW [_] rfl (by intro v hv;obtain rfl:=List.mem_singleton.1 hv;exact⟨Int.natCast_nonneg _,by exact_mod_cast bu _ _⟩) rfl rfl rfl rfl rfl rfl) rfl rfl ?_;refine n4 ?_;intros;refine vq (show out.length+1<=9223372036854775807 by omega) ?_;refine n4 ?_;intros;refine di (i+1,out++bL [(aa all 0:Int)],all.drop 1) ?_ ?_ ad rfl
    ·exact oE hI (by omega) (by assumption)
    ·show _-(i+1)<_-i;omega
   ·refine aP hC hGL (cW [_] rfl (by intro v hv;obtain rfl:=List.mem_singleton.1 hv;exact⟨Int.natCast_nonneg _,by exact_mod_cast bu _ _⟩) rfl rfl rfl rfl rfl rfl) rfl rfl ?_;refine n4 ?_;intros;refine vq (show out.length+1<=9223372036854775807 by omega) ?_;refine n4 ?_;intros;refine di (i+1,out++bL [(aa (aU (dT (aB t.y) (aB t.m) (aB t.d)).toNat) i:Int)],all) ?_ ?_ ad rfl
    ·exact oF hI (by omega) (by assumption)
    ·show _-(i+1)<_-i;omega
   all_goals
    apply ak;refine congrArg AVal.str ?_;have e:=rh hI (by omega);rw[hG.2] at e;first
     |(rw[if_pos (by assumption),<-e])
     |(rw[if_neg (by simp only[Bool.not_eq_true];assumption),<-e,List.append_nil])
 ·have k1:=λn=>oU (G:=G) hP n;refine az ?_;intros;refine lp hC hGL (λ(x:Nat×List UInt8)=>[(1,.rop [.int .i64 t.y,.int .i64 t.m,.int .i64 t.d,.int .i64 t.h,.int .i64 t.i,.int .i64 t.s,.bool t.z,.int .i64 t.o] 0),(3,.str x.2),(29,.list 1 5 (bq [(0,.int .i64 t.m),(1,.int .i64 t.d),(2,.int .i64 t.h),(3,.int .i64 t.i),(4,.int .i64 t.s)])),(30,.int .i64 5),(31,.int .i64 (x.1:Nat))]) (λ_=>[]) (λx=>x.1<=5/\x.2=ls t x.1) (λx=>5-x.1) (0,jh t.y) ⟨show 0<=5 by decide,(if_neg hy).symm⟩ ad rfl ?_;rintro⟨k',A⟩ ⟨hk,hA⟩;have hk:k'<=5:=hk;have hA:A=ls t k':=hA;have hl:=G9 t k';rw[<-hA] at hl;rcases(show k'=0\/k'=1\/k'=2\/k'=3\/k'=4\/k'=5 by omega) with rfl|rfl|rfl|rfl|rfl|rfl
  ·have k1:=λn=>db (G:=G) n;refine xm ?_;repeat' first|exact .n|apply Lc.mk
   all_goals intros
   ·refine cJ (1,A++dc (m9 t 0)) ⟨show(1:Nat)<=5 by decide,lr hA (by assumption)⟩ (show 5-1<5-0 by decide) ad an
   ·refine cJ (1,A) ⟨show(1:Nat)<=5 by decide,iW hA (by assumption)⟩ (show 5-1<5-0 by decide) ad an
  ·have k1:=λn=>db (G:=G) n;refine xm ?_;repeat' first|exact .n|apply Lc.mk
   all_goals intros
   ·refine cJ (2,A++dc (m9 t 1)) ⟨show(2:Nat)<=5 by decide,lr hA (by assumption)⟩ (show 5-2<5-1 by decide) ad an
   ·refine cJ (2,A) ⟨show(2:Nat)<=5 by decide,iW hA (by assumption)⟩ (show 5-2<5-1 by decide) ad an
  ·have k1:=λn=>db (G:=G) n;refine xm ?_;repeat' first|exact .n|apply Lc.mk
   all_goals intros
   ·refine cJ (3,A++dc (m9 t 2)) ⟨show(3:Nat)<=5 by decide,lr hA (by assumption)⟩ (show 5-3<5-2 by decide) ad an
   ·refine cJ (3,A) ⟨show(3:Nat)<=5 by decide,iW hA (by assumption)⟩ (show 5-3<5-2 by decide) ad an
  ·have k1:=λn=>db (G:=G) n;refine xm ?_;repeat' first|exact .n|apply Lc.mk
   all_goals intros
   ·refine cJ (4,A++dc (m9 t 3)) ⟨show(4:Nat)<=5 by decide,lr hA (by assumption)⟩ (show 5-4<5-3 by decide) ad an
   ·refine cJ (4,A) ⟨show(4:Nat)<=5 by decide,iW hA (by assumption)⟩ (show 5-4<5-3 by decide) ad an
  ·have k1:=λn=>db (G:=G) n;refine xm ?_;repeat' first|exact .n|apply Lc.mk
   all_goals intros
   ·refine cJ (5,A++dc (m9 t 4)) ⟨show(5:Nat)<=5 by decide,lr hA (by assumption)⟩ (show 5-5<5-4 by decide) ad an
   ·refine cJ (5,A) ⟨show(5:Nat)<=5 by decide,iW hA (by assumption)⟩ (show 5-5<5-4 by decide) ad an
  refine n4 ?_;intros;refine cR mixed hC hGL false (λ(_:Unit)=>[(1,.rop [.int .i64 t.y,.int .i64 t.m,.int .i64 t.d,.int .i64 t.h,.int .i64 t.i,.int .i64 t.s,.bool t.z,.int .i64 t.o] 0),(3,.str A),(6,.str (aU (dT (aB t.y) (aB t.m) (aB t.d)).toNat))]) (λ_=>[]) .p14 (by kernel_rfl) ?_ ?_
  ·refine xn ?_;repeat' first|exact .n|apply Lc.mk
   all_goals intros
   all_goals exact⟨(),⟨rfl,rfl,rfl,trivial⟩,rfl⟩
  intro _;repeat' (first|(conv=>whnf);first|refine .w ?_|refine .v ?_|refine cj ?_ ?_<;>(intro hb;try exact dd hb)|apply aF|apply bf|(apply bQ<;>intro hb)|(apply bR;intro hbd)|(apply aZ;first|exact h2|exact h3)|(apply aL (i:=0) rfl;first|exact h2|exact h3)|(apply bS;intro bl)|(apply cb;intro va vk vc hva)|(apply ca;intro v)|(apply cd;intro bl cap hcap)|apply cg|(apply bZ<;>intro hnx)|exact True.intro|(apply iy;intro C hC)|apply iw|apply io|(apply ip;exact rfl)|(show Rt _ _ _;exact bK)|fail)
  all_goals try conv=>whnf
  ·have hG:=zT hf (by assumption);have hLF:(aU (dT (aB t.y) (aB t.m) (aB t.d)).toNat++([84]++aT (dT (aB t.h) (aB t.i) (aB t.s)).toNat)).length<=15:=by first|(rw[List.length_append,List.length_append,List.length_singleton];omega)|omega
   rw[<-hA] at hG;refine lp hC hGL (λ(x:Nat×List UInt8×List UInt8)=>[(1,.rop [.int .i64 t.y,.int .i64 t.m,.int .i64 t.d,.int .i64 t.h,.int .i64 t.i,.int .i64 t.s,.bool t.z,.int .i64 t.o] 0),(3,.str x.2.2),(8,.str x.2.1),(73,.own 0 (.slice (some ⟨bl,0,none⟩) (aU (dT (aB t.y) (aB t.m) (aB t.d)).toNat++([84]++aT (dT (aB t.h) (aB t.i) (aB t.s)).toNat)).length cap)),(74,.int .i64 ((aU (dT (aB t.y) (aB t.m) (aB t.d)).toNat++([84]++aT (dT (aB t.h) (aB t.i) (aB t.s)).toNat)).length:Nat)),(75,.int .i64 (x.1:Nat))]) (λ_=>[.buf bl (aU (dT (aB t.y) (aB t.m) (aB t.d)).toNat++([84]++aT (dT (aB t.h) (aB t.i) (aB t.s)).toNat)) cap]) (λx=>kK (aU (dT (aB t.y) (aB t.m) (aB t.d)).toNat++([84]++aT (dT (aB t.h) (aB t.i) (aB t.s)).toNat)) A x.1 x.2.1 x.2.2) (λx=>(aU (dT (aB t.y) (aB t.m) (aB t.d)).toNat++([84]++aT (dT (aB t.h) (aB t.i) (aB t.s)).toNat)).length-x.1) (0,[],A) (oD hG.1 hl) ad rfl ?_;rintro⟨i,out,all⟩ hI;have hI:kK (aU (dT (aB t.y) (aB t.m) (aB t.d)).toNat++([84]++aT (dT (aB t.h) (aB t.i) (aB t.s)).toNat)) A i out all:=hI;have hI1:=hI.1;have hI2:=hI.2.1;have hI3:=hI.2.2.1;have hI0:=λh=>nN hI h;refine xw ?_;repeat' first|exact .n|apply Lc.mk
   all_goals intros
   ·refine aP hC hGL (cW [_] rfl (by intro v hv;obtain rfl:=List.mem_singleton.1 hv;exact⟨Int.natCast_nonneg _,by exact_mod_cast bu _ _⟩) rfl rfl rfl rfl rfl rfl) rfl rfl ?_;refine n4 ?_;intros;refine vq (show out.length+1<=9223372036854775807 by omega) ?_;refine n4 ?_;intros;refine di (i+1,out++bL [(aa all 0:Int)],all.drop 1) ?_ ?_ ad rfl
    ·exact oE hI (by omega) (by assumption)
    ·show _-(i+1)<_-i;omega
   ·refine aP hC hGL (cW [_] rfl (by intro v hv;obtain rfl:=List.mem_singleton.1 hv;exact⟨Int.natCast_nonneg _,by exact_mod_cast bu _ _⟩) rfl rfl rfl rfl rfl rfl) rfl rfl ?_;refine n4 ?_;intros;refine vq (show out.length+1<=9223372036854775807 by omega) ?_;refine n4 ?_;intros;refine di (i+1,out++bL [(aa (aU (dT (aB t.y) (aB t.m) (aB t.d)).toNat++([84]++aT (dT (aB t.h) (aB t.i) (aB t.s)).toNat)) i:Int)],all) ?_ ?_ ad rfl
    ·exact oF hI (by omega) (by assumption)
    ·show _-(i+1)<_-i;omega
   all_goals
    apply ak;refine congrArg AVal.str ?_;have e:=rh hI (by omega);rw[hG.2] at e;first
     |(rw[if_pos (by assumption),<-e])
     |(rw[if_neg (by simp only[Bool.not_eq_true];assumption),<-e,List.append_nil])
  ·have hG:=zU hf (by assumption);have hLF:(aU (dT (aB t.y) (aB t.m) (aB t.d)).toNat).length<=15:=by first|(rw[List.length_append,List.length_append,List.length_singleton];omega)|omega
   rw[<-hA] at hG;refine lp hC hGL (λ(x:Nat×List UInt8×List UInt8)=>[(1,.rop [.int .i64 t.y,.int .i64 t.m,.int .i64 t.d,.int .i64 t.h,.int .i64 t.i,.int .i64 t.s,.bool t.z,.int .i64 t.o] 0),(3,.str x.2.2),(8,.str x.2.1),(73,.own 0 (.slice (some ⟨bl,0,none⟩) (aU (dT (aB t.y) (aB t.m) (aB t.d)).toNat).length cap)),(74,.int .i64 ((aU (dT (aB t.y) (aB t.m) (aB t.d)).toNat).length:Nat)),(75,.int .i64 (x.1:Nat))]) (λ_=>[.buf bl (aU (dT (aB t.y) (aB t.m) (aB t.d)).toNat) cap]) (λx=>kK (aU (dT (aB t.y) (aB t.m) (aB t.d)).toNat) A x.1 x.2.1 x.2.2) (λx=>(aU (dT (aB t.y) (aB t.m) (aB t.d)).toNat).length-x.1) (0,[],A) (oD hG.1 hl) ad rfl ?_;rintro⟨i,out,all⟩ hI;have hI:kK (aU (dT (aB t.y) (aB t.m) (aB t.d)).toNat) A i out all:=hI;have hI1:=hI.1;have hI2:=hI.2.1;have hI3:=hI.2.2.1;have hI0:=λh=>nN hI h;refine xw ?_;repeat' first|exact .n|apply Lc.mk
   all_goals intros
   ·refine aP hC hGL (cW [_] rfl (by intro v hv;obtain rfl:=List.mem_singleton.1 hv;exact⟨Int.natCast_nonneg _,by exact_mod_cast bu _ _⟩) rfl rfl rfl rfl rfl rfl) rfl rfl ?_;refine n4 ?_;intros;refine vq (show out.length+1<=9223372036854775807 by omega) ?_;refine n4 ?_;intros;refine di (i+1,out++bL [(aa all 0:Int)],all.drop 1) ?_ ?_ ad rfl
    ·exact oE hI (by omega) (by assumption)
    ·show _-(i+1)<_-i;omega
   ·refine aP hC hGL (cW [_] rfl (by intro v hv;obtain rfl:=List.mem_singleton.1 hv;exact⟨Int.natCast_nonneg _,by exact_mod_cast bu _ _⟩) rfl rfl rfl rfl rfl rfl) rfl rfl ?_;refine n4 ?_;intros;refine vq (show out.length+1<=9223372036854775807 by omega) ?_;refine n4 ?_;intros;refine di (i+1,out++bL [(aa (aU (dT (aB t.y) (aB t.m) (aB t.d)).toNat) i:Int)],all) ?_ ?_ ad rfl
    ·exact oF hI (by omega) (by assumption)
    ·show _-(i+1)<_-i;omega
   all_goals
    apply ak;refine congrArg AVal.str ?_;have e:=rh hI (by omega);rw[hG.2] at e;first
     |(rw[if_pos (by assumption),<-e])
     |(rw[if_neg (by simp only[Bool.not_eq_true];assumption),<-e,List.append_nil])
end
section
set_option maxHeartbeats 8000000
theorem Stm.three (t:Stm):(t.frm=true/\t.rng=true/\t.E= .none/\t.e=0/\t.T=t.txt)\/(t.E= .errno 2/\t.e=2/\t.T=[])\/(t.E= .errno 3/\t.e=3/\t.T=[]):=by
 unfold Stm.E Stm.e Stm.T;cases t.frm<;>cases t.rng<;>simp
attribute [local irreducible] bN aw aC bg ab ae aa Stm.txt ub
theorem yg {G:Glo}(hS:ab G shapesTy)(hP:fW G)(t:Stm):aj prog G 178 [t.A] (.tuple [.str t.T,.int .i64 t.e]):=by
 have h1:=iT hS t;rcases Stm.three t with⟨hf,hr,h2,h3,h4⟩|⟨h2,h3,h4⟩|⟨h2,h3,h4⟩
 ·have h5:=AO hS hP t hf hr;rw[h3] at h1;rw[h3,h4];refine ao func178 call178 λC hC hGL=> ?_;exact ba
 ·rw[h3] at h1;rw[h3,h4];refine ao func178 call178 λC hC hGL=> ?_;exact ba
 ·rw[h3] at h1;rw[h3,h4];refine ao func178 call178 λC hC hGL=> ?_;exact ba
end
end Go.Proofs.YtpgdnpielhfpgaaGreatDoor
