/- Parts of the proof of cardParses_card. -/
import Derived.Lib.MapLaws
import Derived.Lib.LastIndexByte
import Derived.Lib.Replace
import Derived.Lib.IndexBytes
import Derived.Test.YtnbaflecdkgihaaGreatDoorBao
set_option linter.unusedVariables false
set_option linter.unusedSimpArgs false
set_option linter.unusedSectionVars false
namespace Go.Proofs.YtnbaflecdkgihaaGreatDoor
open Go Go.RowKit
open Go.Proofs.Tryz Go.Proofs.YtnbaflecdkgihaaGreatDoor.Tryz
set_option maxRecDepth 20000
set_option maxHeartbeats 4000000
section
def dz (r:Int):Int:=if 48<=r/\r<=57 then 57 else r
theorem Qe {l:List UInt8}(h:l≠[]):Lib.decodeL l=(fk l,eN l):=by
 have h0:0<l.length:=List.length_pos_iff.2 h;unfold Lib.decodeL;rw[so l 0 h0,YO];unfold fk eN;split<;>rfl
theorem S7 {r:Int}(h:128<=r):∃x t,Lib.encodeRune r=x::t/\128<=x.toNat:=by
 unfold Lib.encodeRune Lib.encodeRuneZ;rw[if_neg a_];have hb:∀z:Int,128<=z->z<256->128<=(z.toNat.toUInt8).toNat:=by
  intro z h1 h2;rw[Nat.toUInt8,UInt8.toNat_ofNat_of_lt' (by simp;omega)];omega
 split
 ·exact⟨_,_,rfl,hb _ a_ a_⟩
 ·split
  ·exact⟨_,_,rfl,hb _ a_ a_⟩
  ·split
   ·exact⟨_,_,rfl,hb _ a_ a_⟩
   ·exact⟨_,_,rfl,hb _ a_ a_⟩
theorem S6 {r:Int}(h0:0<=r)(h:r<128):Lib.encodeRune r=[UInt8.ofNat r.toNat]:=by
 unfold Lib.encodeRune;rw[Lib.encodeRuneZ_one h0 a_];rfl
theorem DJ (x:UInt8)(l:List UInt8):aP (x::l)=UInt8.ofNat (fO x.toNat)::aP l:=rfl
theorem JQ:∀(n:Nat) (l u:List UInt8),l.length<=n->(∀c∈u,c.toNat<128)->(Lib.mapD dz l=u↔aP l=u)
 |n,[],u,_,_=>by
  have e:Lib.mapD dz []=[]:=rfl;rw[e]
  exact Iff.rfl
 |0,x::l,u,h,_=>by simp at h
 |n+1,x::l,u,h,hu=>by
  have hne:x::l≠[]:=by simp
  have hr:=s7 (x::l) (by simp)
  have hx:aa (x::l) 0=x.toNat:=rfl
  rw[Lib.mapD_step dz (x::l) hne,Qe hne]
  dsimp only
  by_cases h1:(fk (x::l):Int)<128
  ·obtain⟨h2,h3⟩:=hr.2.2.2.1 h1
   rw[hx] at h3
   have e1:dz (fk (x::l):Int)=(fO x.toNat:Int):=by
    rw[<-h3]
    unfold dz fO
    split<;>split<;>omega
   have h4:fO x.toNat<128:=by unfold fO;split<;>omega
   rw[if_pos (by rw[e1];omega),e1,S6 a_ a_,h2,YQ,YO,B_,DJ,List.singleton_append]
   cases u with
   |nil=>simp
   |cons y t=>
    have ih:=JQ n l t (by simpa using h) (λc hc=>hu c (List.mem_cons_of_mem _ hc))
    simp only[o_,ih]
  ·have h5:=hr.2.2.2.2 a_ 0 hr.2.1
   rw[hx] at h5
   have e1:dz (fk (x::l):Int)=fk (x::l):=by unfold dz;rw[if_neg a_]
   obtain⟨y,t,e2,h6⟩:=S7 (r:=(fk (x::l):Int)) a_
   rw[if_pos (by rw[e1];omega),e1,e2,DJ]
   have e3:fO x.toNat=x.toNat:=by unfold fO;rw[if_neg a_]
   constructor
   ·rintro rfl
    have:=hu y (by simp)
    omega
   ·rintro rfl
    have:=hu (UInt8.ofNat (fO x.toNat)) (by simp)
    rw[e3,UInt8.ofNat_toNat] at this
    omega
theorem tu {l u:List UInt8}(hu:∀c∈u,c.toNat<128):Lib.mapD dz l=u↔aP l=u:=JQ l.length l u (Nat.le_refl _) hu
end
section
theorem yY {R:Seal}{w W:World}(hs:eZ R w)(hb:Below w.heap.size w W):eZ R W:=λb o h=>by
 have h1:=hs b o h;rw[hb.block b ((Array.getElem?_eq_some_iff.1 h1).1)];exact h1
theorem PP (c:Nat)(h:c<256):firstTab[c]? =some (.int .u8 (Lib.firstT c)):=by
 have:=uz c h;rwa [Nat.mul_one] at this
theorem Q4 (i:Nat)(h:i<16):acceptTab[2*i]? =some (.int .u8 (Lib.accLo i))/\acceptTab[2*i+1]? =some (.int .u8 (Lib.accHi i)):=by
 match i,h with
 |0,_=>exact⟨rfl,rfl⟩
 |1,_=>exact⟨rfl,rfl⟩
 |2,_=>exact⟨rfl,rfl⟩
 |3,_=>exact⟨rfl,rfl⟩
 |4,_=>exact⟨rfl,rfl⟩
 |5,_=>exact⟨rfl,rfl⟩
 |6,_=>exact⟨rfl,rfl⟩
 |7,_=>exact⟨rfl,rfl⟩
 |8,_=>exact⟨rfl,rfl⟩
 |9,_=>exact⟨rfl,rfl⟩
 |10,_=>exact⟨rfl,rfl⟩
 |11,_=>exact⟨rfl,rfl⟩
 |12,_=>exact⟨rfl,rfl⟩
 |13,_=>exact⟨rfl,rfl⟩
 |14,_=>exact⟨rfl,rfl⟩
 |15,_=>exact⟨rfl,rfl⟩
 |n+16,h=>exact absurd h a_
theorem Nn {G:Glo}(hU:ab G utfTy){R:Seal}{w:World}(hG:G.p R)(hs:eZ R w):Lib.Utf8Tabs 6 7 w:=by
 have h1:dK R 6 0 firstTab:=hU _ _ rfl R hG;have h2:dK R 7 0 acceptTab:=hU _ _ rfl R hG
 refine⟨λc hc=> ?_,λi hi=>⟨?_,?_⟩⟩
 ·obtain⟨v,hv,hr⟩:=h1.cell hs (PP c hc)
  rw[Nat.zero_add] at hv
  rw[hv,aq.1 (cT hr rfl)]
 ·obtain⟨v,hv,hr⟩:=h2.cell hs (Q4 i hi).1
  rw[Nat.zero_add] at hv
  rw[hv,aq.1 (cT hr rfl)]
 ·obtain⟨v,hv,hr⟩:=h2.cell hs (Q4 i hi).2
  rw[Nat.zero_add] at hv
  rw[hv,aq.1 (cT hr rfl)]
theorem HN {P:Program}{G:Glo}{f:FuncId}{avs:List AVal}{k:IntKind}{c:Int}{args:Array Value}{W:World}{R:Seal}(hs:ak P G f avs (.int k c))(hc:(callFunc f args).run P W= .ok (.enter f args) W)
  (hG:G.p R) (hR:eZ R W) (ha:dO R avs args.toList):Calls P f args W λe W'=>e= .returned (.int k c)/\Go.RowKit.Below W.heap.size W W':=by
 rcases hs R W args hG (EK W R G hG hR) ha with⟨_,h⟩|⟨v,w',h,_⟩
 ·refine h.mono λe W' ⟨res,H',R',⟨hr,hH⟩,he,hm⟩=> ?_;subst hr;obtain⟨x,rfl,hx⟩:=he;exact⟨by rw[aq.1 hx],⟨hm.ext.os,hm.ext.tape,hm.ext.output,hm.ext.size,λk hk=>hm.ext.block k hk (λh=>absurd h t_)⟩⟩
 ·rw[hc] at h;cases h
theorem DC {G:Glo}(hU:ab G utfTy)(f:Int->Int)(g:Nat)(s:List UInt8)(hl:s.length<=1000000)(hg:∀r:Nat,r<=1114111->ak prog G g [.int .i32 (r:Int)] (.int .i32 (f r)))(hf:∀x:Nat,x<=1114111-> -2147483648<=f x/\f x<=2147483647)
  (hc:∀args w,(callFunc g args).run prog w= .ok (.enter g args) w):ak prog G 60 [.func (.func g) [] [],.str s] (.str (Lib.mapD f s)):=by
 refine bK rfl call60 ?_;rintro R args ⟨x,t,e,hx,y,t',e',hy,rfl⟩ w hG hs;have hx0:=hx;obtain⟨⟨xa,xb,ex,r1,r2⟩,hx2⟩:=hx0;obtain rfl:=aD.1 hy;have hxv:x= .func (.func g) #[] #[]:=by
  cases x<;>first|(simp[Value.cells] at ex;done)|skip
  all_goals (try (simp[dc,AVal.isAgg] at hx2;done))
  simp only[Value.cells,o_,and_true,Value.func.injEq] at ex;obtain⟨e1,e2,e3⟩:=ex;have h1:xa.toList=[]:=r1;have h2:xb.toList=[]:=r2;rw[Array.toList_eq_nil_iff] at h1 h2;rw[e1,e2,e3,h1,h2]
 subst hxv;subst e';obtain rfl:=fK e;refine(strings_Map_grows g #[] hc f ⟨s.toArray⟩ w (by rw[bH];omega) ?_ hf (Nn hU hG hs)).mono ?_
 ·intro W r hr hb;exact(HN (hg r hr) (hc _ _) hG (yY hs hb) ⟨_,_,rfl,aq.2 rfl,rfl⟩).mono λe w' h=>h
 ·rintro e w' ⟨rfl,hb⟩;exact⟨by simp[AVal.conc],hb⟩
end
section
theorem a8 {s u:List UInt8}{i:Nat}(h:aP s=u)(hi:i<u.length)(h57:aa u i=57):48<=aa s i/\aa s i<=57:=gd.1 (((ec h).2 i hi).trans h57)
theorem kD {s:List UInt8}{a b i:Nat}(h:i<b-a):aa ((s.take b).drop a) i=aa s (a+i):=by
 rw[cW,gY a_]
attribute [local irreducible] bG au aa az aR ab ad
attribute [local irreducible] aP dz
theorem uF {G:Glo}(s:List UInt8)(hl:s.length=2)(h0:48<=aa s 0/\aa s 0<=57)(h1:48<=aa s 1/\aa s 1<=57):ak prog G 201 [.str s] (.tuple [.int .i64 (dx s 0),.bool true]):=by
 refine ax func201 call201 λC hC hGL=> ?_;refine aK ?_;refine mQ hC hGL 3 ?_;refine xw ?_;repeat' first|exact .n|apply Lc.mk
 all_goals intros
 all_goals try (exfalso;simp only[Nat.zero_add,Nat.reduceAdd] at*;omega)
 apply aj;unfold dx bR;simp only[Nat.zero_add,Nat.reduceAdd] at*
 congr 3
 omega
theorem sQ {G:Glo}(s:List UInt8)(hl:s.length=4)(h0:48<=aa s 0/\aa s 0<=57)(h1:48<=aa s 1/\aa s 1<=57)(h2:48<=aa s 2/\aa s 2<=57)(h3:48<=aa s 3/\aa s 3<=57):ak prog G 201 [.str s] (.tuple [.int .i64 (ki s 0),.bool true]):=by
 refine ax func201 call201 λC hC hGL=> ?_;refine aK ?_;refine mQ hC hGL 5 ?_;refine xw ?_;repeat' first|exact .n|apply Lc.mk
 all_goals intros
 all_goals try (exfalso;simp only[Nat.zero_add,Nat.reduceAdd] at*;omega)
 apply aj;unfold ki bR;simp only[Nat.zero_add,Nat.reduceAdd] at*
 congr 3
 omega
theorem Dg {G:Glo}(r:Nat)(h:r<=1114111):ak prog G 229 [.int .i32 (r:Int)] (.int .i32 (dz r)):=by
 refine ax func229 call229 λC hC hGL=> ?_;refine xw ?_;repeat' first|exact .n|apply Lc.mk
 all_goals intros
 all_goals (apply aj;refine congrArg (AVal.int .i32) ?_;unfold dz;split<;>omega)
theorem vT {G:Glo}(hU:ab G utfTy)(s:List UInt8)(hl:s.length<=1000000):ak prog G 200 [.str s] (.str (Lib.mapD dz s)):=by
 have k1:=DC (G:=G) hU dz 229 s hl (λr hr=>Dg r hr) (λx hx=>by unfold dz;split<;>omega) call229;refine ax func200 call200 λC hC hGL=> ?_;exact bB
end
section
def dL (k i:Nat):Int:=([[-1, -1, -1],[0, -1, -1],[0,5, -1],[0,4,6],[-1,2, -1],[-1,2,4],[-1, -1,3]].getD k [0,0,0]).getD i 0
def dV (k:Nat)(s:List UInt8)(i:Nat):Int:=if i=0 then dY k s else if i=1 then dM k s else dD k s
def dW (i:Nat):Int:=if i=0 then 4 else 2
def cL (k i:Nat):Int:=([[0,0,0],[0, -1, -1],[0,2, -1],[0,2,4],[-1,1, -1],[-1,1,3],[-1, -1,2]].getD k [0,0,0]).getD i 0
def cV (k:Nat)(s:List UInt8)(i:Nat):Int:=if i=0 then cH k s else if i=1 then cI k s else cS k s
def CJ (d:List UInt8):Nat:=if aP d=aX 1 then 1 else if aP d=aX 2 then 2 else if aP d=aX 3 then 3 else if aP d=aX 4 then 4 else if aP d=aX 5 then 5 else if aP d=aX 6 then 6 else 7
theorem IH {d:List UInt8}{k:Nat}(h1:1<=k)(hk:k<=6)(h:aP d=aX k):CJ d=k:=by
  unfold CJ
  (repeat' split)
  all_goals first
    |(rename_i e;exact(KF h1 hk b_ b_ (h.symm.trans e)).symm)
    | (exfalso
       rcases(show k=1\/k=2\/k=3\/k=4\/k=5\/k=6 by omega) with rfl|rfl|rfl|rfl|rfl|rfl<;>contradiction)
theorem QC {d:List UInt8}(h:∀k,1<=k->k<=6->aP d≠aX k):CJ d=7:=by
 unfold CJ;rw[if_neg (h 1 b_ b_),if_neg (h 2 b_ b_),if_neg (h 3 b_ b_),if_neg (h 4 b_ b_),if_neg (h 5 b_ b_),if_neg (h 6 b_ b_)]
theorem A4 (d:List UInt8):(CJ d=7/\∀k,1<=k->k<=6->aP d≠aX k)\/∃k,1<=k/\k<=6/\CJ d=k/\aP d=aX k:=by
 by_cases h:∃k,1<=k/\k<=6/\aP d=aX k
 ·obtain⟨k,h1,h2,h3⟩:=h;exact .inr ⟨k,h1,h2,IH h1 h2 h3,h3⟩
 ·have h:∀k,1<=k->k<=6->aP d≠aX k:=λk h1 h2 h3=>h ⟨k,h1,h2,h3⟩;exact .inl ⟨QC h,h⟩
theorem Mr (d:List UInt8):(mj d=7/\∀k,k<=6->aP d≠bQ k)\/∃k,k<=6/\mj d=k/\aP d=bQ k:=by
 by_cases h:∃k,k<=6/\aP d=bQ k
 ·obtain⟨k,h2,h3⟩:=h;exact .inr ⟨k,h2,yr h2 h3,h3⟩
 ·have h:∀k,k<=6->aP d≠bQ k:=λk h2 h3=>h ⟨k,h2,h3⟩;exact .inl ⟨It h,h⟩
theorem Nz {s:List UInt8}{a b:Nat}(h:b=a+2):dx ((s.take b).drop a) 0=dx s a:=by
 subst h;unfold dx bR;rw[kD a_,kD a_];simp only[Nat.add_zero,Nat.zero_add]
theorem L7 {s:List UInt8}{a b:Nat}(h:b=a+4):ki ((s.take b).drop a) 0=ki s a:=by
 subst h;unfold ki bR;rw[kD a_,kD a_,kD a_,kD a_];simp only[Nat.add_zero,Nat.zero_add]
theorem JK {G:Glo}{s u:List UInt8}(h:aP s=u)(a b:Nat)(hb:b=a+2)(hl:b<=u.length)(h0:aa u a=57)(h1:aa u (a+1)=57):ak prog G 201 [.str ((s.take b).drop a)] (.tuple [.int .i64 (dx s a),.bool true]):=by
 have hsl:=(ec h).1;have:=uF (G:=G) ((s.take b).drop a) (by rw[k_,i_];omega) (by rw[kD a_];exact a8 h a_ h0) (by rw[kD a_];exact a8 h a_ h1);rwa [Nz hb] at this
theorem OO {G:Glo}{s u:List UInt8}(h:aP s=u)(a b:Nat)(hb:b=a+4)(hl:b<=u.length)(h0:aa u a=57)(h1:aa u (a+1)=57)(h2:aa u (a+2)=57)(h3:aa u (a+3)=57):ak prog G 201 [.str ((s.take b).drop a)] (.tuple [.int .i64 (ki s a),.bool true]):=by
 have hsl:=(ec h).1;have:=sQ (G:=G) ((s.take b).drop a) (by rw[k_,i_];omega) (by rw[kD a_];exact a8 h a_ h0) (by rw[kD a_];exact a8 h a_ h1) (by rw[kD a_];exact a8 h a_ h2) (by rw[kD a_];exact a8 h a_ h3);rwa [L7 hb] at this
def UA (G:Glo)(s:List UInt8)(l w v:Int):Prop:=(l<0/\v= -1)\/(0<=l/\0<=l+w/\l<=l+w/\l+w<=s.length/\ak prog G 201 [.str ((s.take (l+w).toNat).drop l.toNat)] (.tuple [.int .i64 v,.bool true]))
theorem yo {G:Glo}{s:List UInt8}{k:Nat}(hk:k<=6)(h:aP s=bQ k):∀i,i<3->UA G s (dL k i) (dW i) (dV k s i):=by
 have hl:=(ec h).1;intro i hi;rcases(show k=0\/k=1\/k=2\/k=3\/k=4\/k=5\/k=6 by omega) with rfl|rfl|rfl|rfl|rfl|rfl|rfl<;>rcases(show i=0\/i=1\/i=2 by omega) with rfl|rfl|rfl
 all_goals first
  |exact .inl ⟨b_,rfl⟩
  |exact .inr ⟨b_,b_,b_,by rw[hl];decide,OO h _ _ b_ b_ b_ b_ b_ b_⟩
  |exact .inr ⟨b_,b_,b_,by rw[hl];decide,JK h _ _ b_ b_ b_ b_⟩
theorem tT {G:Glo}{s:List UInt8}{k:Nat}(h1:1<=k)(hk:k<=6)(h:aP s=aX k):∀i,i<3->UA G s (cL k i) 2 (cV k s i):=by
 have hl:=(ec h).1;intro i hi;rcases(show k=1\/k=2\/k=3\/k=4\/k=5\/k=6 by omega) with rfl|rfl|rfl|rfl|rfl|rfl<;>rcases(show i=0\/i=1\/i=2 by omega) with rfl|rfl|rfl
 all_goals first
  |exact .inl ⟨b_,rfl⟩
  |exact .inr ⟨b_,b_,b_,by rw[hl];decide,JK h _ _ b_ b_ b_ b_⟩
theorem JP {s u:List UInt8}(hu:∀c∈u,c.toNat<128)(h:Lib.mapD dz s=u):aP s=u:=(tu hu).1 h
theorem Kw:∀k,k<=6->∀c∈bQ k,c.toNat<128:=by
 intro k hk;rcases(show k=0\/k=1\/k=2\/k=3\/k=4\/k=5\/k=6 by omega) with rfl|rfl|rfl|rfl|rfl|rfl|rfl<;>decide
theorem Qv:∀k,k<=6->∀c∈aX k,c.toNat<128:=by
 intro k hk;rcases(show k=0\/k=1\/k=2\/k=3\/k=4\/k=5\/k=6 by omega) with rfl|rfl|rfl|rfl|rfl|rfl|rfl<;>decide
theorem nO {s:List UInt8}(k:Nat)(hk:k<=6)(h:Lib.mapD dz s=bQ k):k=mj s:=(yr hk (JP (Kw k hk) h)).symm
theorem qc {s:List UInt8}(k:Nat)(h1:1<=k)(hk:k<=6)(h:Lib.mapD dz s=aX k):k=CJ s:=(IH h1 hk (JP (Qv k hk) h)).symm
theorem Qj {s:List UInt8}(h:(Lib.mapD dz s).length=0):0=mj s:=nO 0 b_ (s_ h)
theorem Qi {s:List UInt8}(g0:(Lib.mapD dz s).length≠0)(h1:Lib.mapD dz s≠bQ 1)(h2:Lib.mapD dz s≠bQ 2)(h3:Lib.mapD dz s≠bQ 3)(h4:Lib.mapD dz s≠bQ 4)(h5:Lib.mapD dz s≠bQ 5)(h6:Lib.mapD dz s≠bQ 6):7=mj s:=by
 have h0:Lib.mapD dz s≠bQ 0:=λh=>g0 (by rw[h];rfl);refine(It λk hk h=> ?_).symm
 have h:=(tu (Kw k hk)).2 h
 rcases(show k=0\/k=1\/k=2\/k=3\/k=4\/k=5\/k=6 by omega) with rfl|rfl|rfl|rfl|rfl|rfl|rfl<;>contradiction
theorem QD {s:List UInt8}(h1:Lib.mapD dz s≠aX 1)(h2:Lib.mapD dz s≠aX 2)(h3:Lib.mapD dz s≠aX 3)(h4:Lib.mapD dz s≠aX 4)(h5:Lib.mapD dz s≠aX 5)(h6:Lib.mapD dz s≠aX 6):7=CJ s:=by
 refine(QC λk g1 hk h=> ?_).symm;have h:=(tu (Qv k hk)).2 h;rcases(show k=1\/k=2\/k=3\/k=4\/k=5\/k=6 by omega) with rfl|rfl|rfl|rfl|rfl|rfl<;>contradiction
abbrev pW (b:Nat):Value:=.pointer (some ⟨b,0,none⟩)
abbrev pF (b o:Nat):AVal:=.own 0 (.pointer (some ⟨b,o,none⟩))
abbrev iP (b:Nat)(y m d h i s:Int)(z:Bool)(o:Int):HEnt:=.cells b (some 50) [.int .i64 y,.int .i64 m,.int .i64 d,.int .i64 h,.int .i64 i,.int .i64 s,.bool z,.int .i64 o]
def qz (v:Int)(i r:Nat):Int:=if i<r then v else-1
attribute [local irreducible] bG au aa az aR ab ad
attribute [local irreducible] aP dz mj CJ
theorem Ub (v:Int)(i:Nat):qz v i 0= -1:=by unfold qz;rw[if_neg a_]
theorem KS {G:Glo}(hU:ab G utfTy)(b:Nat)(s:List UInt8)(hl:s.length<=1000000)(h i c:Int)(z:Bool)(o:Int):ad prog G 154 [.str s,.raw (pW b)] [iP b (-1) (-1) (-1) h i c z o]
  (λr H=>r= .ret (.bool (decide (mj s≠7)))/\H=[iP b (dY (mj s) s) (dM (mj s) s) (dD (mj s) s) h i c z o]):=by
 have k0:=vT (G:=G) hU s hl;have hGL:ab G []:=al
 refine lE [(1,0,pW b)] func154 call154 rfl rfl rfl rfl (by repeat (first|exact trivial|refine And.intro ⟨rfl,rfl⟩ ?_)) ?_
 intro C hC
 refine cut hC hGL [(0,.str s),(1,.own 0 (pW b))] [iP b (-1) (-1) (-1) h i c z o] True bB λ_=> ?_
 refine gu hC hGL (X:=Nat) (λbm=>[(0,.str s),(1,.own 0 (pW b)),(5,.own 1 (.map (some bm)))]) (λbm=>[iP b (-1) (-1) (-1) h i c z o,.mp bm [(.str [],.agg [.int .i64 (-1),.int .i64 (-1),.int .i64 (-1)]),(.str [57,57,57,57],.agg [.int .i64 0,.int .i64 (-1),.int .i64 (-1)]),(.str [57,57,57,57,45,57,57],.agg [.int .i64 0,.int .i64 5,.int .i64 (-1)]),(.str [57,57,57,57,57,57,57,57],.agg [.int .i64 0,.int .i64 4,.int .i64 6]),(.str [45,45,57,57],.agg [.int .i64 (-1),.int .i64 2,.int .i64 (-1)]),(.str [45,45,57,57,57,57],.agg [.int .i64 (-1),.int .i64 2,.int .i64 4]),(.str [45,45,45,57,57],.agg [.int .i64 (-1),.int .i64 (-1),.int .i64 3])]]) (λ_=>True) ?_ λbm _=> ?_
 ·refine aK ?_
  intro bm
  intros
  exact cy bm trivial
 refine gu hC hGL (X:=Nat×Nat) (λx=>[(0,.str s),(1,.own 0 (pW b)),(6,.own 2 (pW x.2)),(7,.bool (decide (x.1≠7)))]) (λx=>[iP b (-1) (-1) (-1) h i c z o,.mp bm [(.str [],.agg [.int .i64 (-1),.int .i64 (-1),.int .i64 (-1)]),(.str [57,57,57,57],.agg [.int .i64 0,.int .i64 (-1),.int .i64 (-1)]),(.str [57,57,57,57,45,57,57],.agg [.int .i64 0,.int .i64 5,.int .i64 (-1)]),(.str [57,57,57,57,57,57,57,57],.agg [.int .i64 0,.int .i64 4,.int .i64 6]),(.str [45,45,57,57],.agg [.int .i64 (-1),.int .i64 2,.int .i64 (-1)]),(.str [45,45,57,57,57,57],.agg [.int .i64 (-1),.int .i64 2,.int .i64 4]),(.str [45,45,45,57,57],.agg [.int .i64 (-1),.int .i64 (-1),.int .i64 3])],.cells x.2 (some 265) [.int .i64 (dL x.1 0),.int .i64 (dL x.1 1),.int .i64 (dL x.1 2)]]) (λx=>x.1=mj s) ?_ λx hx=> ?_
 ·refine xw ?_
  repeat' first|exact .n|apply Lc.mk
  all_goals intros
  all_goals first
   |exact cy (0,_) (Qj (by assumption))
   |exact cy (1,_) (nO 1 b_ (by assumption))
   |exact cy (2,_) (nO 2 b_ (by assumption))
   |exact cy (3,_) (nO 3 b_ (by assumption))
   |exact cy (4,_) (nO 4 b_ (by assumption))
   |exact cy (5,_) (nO 5 b_ (by assumption))
   |exact cy (6,_) (nO 6 b_ (by assumption))
   |exact cy (7,_) (Qi (by assumption) (by assumption) (by assumption) (by assumption) (by assumption) (by assumption) (by assumption))
 obtain⟨k,b6⟩:=x
 obtain rfl:k=mj s:=hx
 dsimp only
 rcases Mr s with⟨h7, -⟩|⟨k,hk,hk2,hk3⟩
 ·rw[h7]
  exact ay hC hGL bB
 have n0:=yo (G:=G) hk hk3 0 b_
 have n1:=yo (G:=G) hk hk3 1 b_
 have n2:=yo (G:=G) hk hk3 2 b_
 rw[hk2]
 have e7:decide (k≠7)=true:=decide_eq_true a_
 rw[e7]
 rw[show dY k s=dV k s 0 from rfl]
 rw[show dM k s=dV k s 1 from rfl]
 rw[show dD k s=dV k s 2 from rfl]
 generalize dL k 0=l0 at*
 generalize dL k 1=l1 at*
 generalize dL k 2=l2 at*
 generalize dV k s 0=v0 at*
 generalize dV k s 1=v1 at*
 generalize dV k s 2=v2 at*
 rw[show dW 0=4 from rfl] at n0
 rw[show dW 1=2 from rfl] at n1
 rw[show dW 2=2 from rfl] at n2
 refine ay hC hGL (ao ?_)
 intros
 refine cA mixed hC hGL false (λ_ _=>False) (λ(_:Unit)=>[(0,.str s),(6,.own 2 (pW b6)),(37,.list 1 3 (bT [(0,pF b 0),(1,pF b 1),(2,pF b 2)])),(38,.int .i64 3),(39,.int .i64 0)]) (λ_=>[iP b (-1) (-1) (-1) h i c z o,.mp bm [(.str [],.agg [.int .i64 (-1),.int .i64 (-1),.int .i64 (-1)]),(.str [57,57,57,57],.agg [.int .i64 0,.int .i64 (-1),.int .i64 (-1)]),(.str [57,57,57,57,45,57,57],.agg [.int .i64 0,.int .i64 5,.int .i64 (-1)]),(.str [57,57,57,57,57,57,57,57],.agg [.int .i64 0,.int .i64 4,.int .i64 6]),(.str [45,45,57,57],.agg [.int .i64 (-1),.int .i64 2,.int .i64 (-1)]),(.str [45,45,57,57,57,57],.agg [.int .i64 (-1),.int .i64 2,.int .i64 4]),(.str [45,45,45,57,57],.agg [.int .i64 (-1),.int .i64 (-1),.int .i64 3])],.cells b6 (some 265) [.int .i64 l0,.int .i64 l1,.int .i64 l2]]) .p20 be ?_ ?_ (λ_ _ h=>h.elim)
 ·refine xn ?_
  repeat' first|exact .n|apply Lc.mk
  all_goals intros
  all_goals (exact⟨(),ah,aF⟩)
 intro _
 refine ao ?_
 refine EU (an (aA (i:=2) (k:=6) rfl rfl) (bL (e':=[(0,.str s),(6,.rop [.int .i64 l0,.int .i64 l1,.int .i64 l2] 0),(37,.list 1 3 (bT [(0,pF b 0),(1,pF b 1),(2,pF b 2)])),(38,.int .i64 3),(39,.int .i64 0)]) (h':=[iP b (-1) (-1) (-1) h i c z o]) ah (V_ _ (Ug _)))) ?_
 refine lp hC hGL (λr:Nat=>[(0,.str s),(6,.rop [.int .i64 l0,.int .i64 l1,.int .i64 l2] 0),(37,.list 1 3 (bT [(0,pF b 0),(1,pF b 1),(2,pF b 2)])),(38,.int .i64 3),(39,.int .i64 (r:Nat))]) (λr=>[iP b (qz v0 0 r) (qz v1 1 r) (qz v2 2 r) h i c z o]) (λr=>r<=3) (λr=>3-r) 0 b_ ah (by simp only[Ub]) ?_
 intro r hr
 rcases(show r=0\/r=1\/r=2\/r=3 by omega) with rfl|rfl|rfl|rfl
 ·rcases n0 with⟨g1,g2⟩|⟨g1,g2,g3,g4,g5⟩
  ·refine aK ?_
   intros
   refine cQ 1 b_ b_ ah ?_
   simp[qz,g2]
  ·refine ao ?_
   intros
   refine cA mixed hC hGL false (λ_ _=>False) (λ(_:Unit)=>[(0,.str s),(6,.rop [.int .i64 l0,.int .i64 l1,.int .i64 l2] 0),(37,.list 1 3 (bT [(0,pF b 0),(1,pF b 1),(2,pF b 2)])),(38,.int .i64 3),(39,.int .i64 (0:Nat)),(8,.int .i64 (0:Nat))]) (λ_=>[iP b (qz v0 0 1) (qz v1 1 1) (qz v2 2 1) h i c z o]) .p12 be ?_ ?_ (λ_ _ h=>h.elim)
   ·refine xn ?_
    repeat' first|exact .n|apply Lc.mk
    all_goals intros
    all_goals (exact⟨(),ah,aF⟩)
   ·intro _
    refine aK ?_
    intros
    exact cQ 1 b_ b_ ah rfl
 ·rcases n1 with⟨g1,g2⟩|⟨g1,g2,g3,g4,g5⟩
  ·refine aK ?_
   intros
   refine cQ 2 b_ b_ ah ?_
   simp[qz,g2]
  ·refine ao ?_
   intros
   refine cA mixed hC hGL false (λ_ _=>False) (λ(_:Unit)=>[(0,.str s),(6,.rop [.int .i64 l0,.int .i64 l1,.int .i64 l2] 0),(37,.list 1 3 (bT [(0,pF b 0),(1,pF b 1),(2,pF b 2)])),(38,.int .i64 3),(39,.int .i64 (1:Nat)),(8,.int .i64 (1:Nat))]) (λ_=>[iP b (qz v0 0 2) (qz v1 1 2) (qz v2 2 2) h i c z o]) .p12 be ?_ ?_ (λ_ _ h=>h.elim)
   ·refine xn ?_
    repeat' first|exact .n|apply Lc.mk
    all_goals intros
    all_goals (exact⟨(),ah,aF⟩)
   ·intro _
    refine aK ?_
    intros
    exact cQ 2 b_ b_ ah rfl
 ·rcases n2 with⟨g1,g2⟩|⟨g1,g2,g3,g4,g5⟩
  ·refine aK ?_
   intros
   refine cQ 3 b_ b_ ah ?_
   simp[qz,g2]
  ·refine ao ?_
   intros
   refine cA mixed hC hGL false (λ_ _=>False) (λ(_:Unit)=>[(0,.str s),(6,.rop [.int .i64 l0,.int .i64 l1,.int .i64 l2] 0),(37,.list 1 3 (bT [(0,pF b 0),(1,pF b 1),(2,pF b 2)])),(38,.int .i64 3),(39,.int .i64 (2:Nat)),(8,.int .i64 (2:Nat))]) (λ_=>[iP b (qz v0 0 3) (qz v1 1 3) (qz v2 2 3) h i c z o]) .p12 be ?_ ?_ (λ_ _ h=>h.elim)
   ·refine xn ?_
    repeat' first|exact .n|apply Lc.mk
    all_goals intros
    all_goals (exact⟨(),ah,aF⟩)
   ·intro _
    refine aK ?_
    intros
    exact cQ 3 b_ b_ ah rfl
 ·exact bB
theorem Gy {G:Glo}(hU:ab G utfTy)(b:Nat)(s:List UInt8)(hl:s.length<=1000000)(y m d:Int)(z:Bool)(o:Int):ad prog G 156 [.str s,.raw (pW b)] [iP b y m d (-1) (-1) (-1) z o]
  (λr H=>r= .ret (.bool (decide (CJ s≠7)))/\H=[iP b y m d (cH (CJ s) s) (cI (CJ s) s) (cS (CJ s) s) z o]):=by
 have k0:=vT (G:=G) hU s hl;have hGL:ab G []:=al;refine lE [(1,0,pW b)] func156 call156 rfl rfl rfl rfl (by repeat (first|exact trivial|refine And.intro ⟨rfl,rfl⟩ ?_)) ?_;intro C hC;refine cut hC hGL [(0,.str s),(1,.own 0 (pW b))] [iP b y m d (-1) (-1) (-1) z o] True bB λ_=> ?_;refine gu hC hGL (X:=Nat) (λbm=>[(0,.str s),(1,.own 0 (pW b)),(5,.own 1 (.map (some bm)))]) (λbm=>[iP b y m d (-1) (-1) (-1) z o,.mp bm [(.str [57,57],.agg [.int .i64 0,.int .i64 (-1),.int .i64 (-1)]),(.str [57,57,57,57],.agg [.int .i64 0,.int .i64 2,.int .i64 (-1)]),(.str [57,57,57,57,57,57],.agg [.int .i64 0,.int .i64 2,.int .i64 4]),(.str [45,57,57],.agg [.int .i64 (-1),.int .i64 1,.int .i64 (-1)]),(.str [45,57,57,57,57],.agg [.int .i64 (-1),.int .i64 1,.int .i64 3]),(.str [45,45,57,57],.agg [.int .i64 (-1),.int .i64 (-1),.int .i64 2])]]) (λ_=>True) ?_ λbm _=> ?_
 ·refine aK ?_;intro bm;intros;exact cy bm trivial
 refine gu hC hGL (X:=Nat×Nat) (λx=>[(0,.str s),(1,.own 0 (pW b)),(6,.own 2 (pW x.2)),(7,.bool (decide (x.1≠7)))]) (λx=>[iP b y m d (-1) (-1) (-1) z o,.mp bm [(.str [57,57],.agg [.int .i64 0,.int .i64 (-1),.int .i64 (-1)]),(.str [57,57,57,57],.agg [.int .i64 0,.int .i64 2,.int .i64 (-1)]),(.str [57,57,57,57,57,57],.agg [.int .i64 0,.int .i64 2,.int .i64 4]),(.str [45,57,57],.agg [.int .i64 (-1),.int .i64 1,.int .i64 (-1)]),(.str [45,57,57,57,57],.agg [.int .i64 (-1),.int .i64 1,.int .i64 3]),(.str [45,45,57,57],.agg [.int .i64 (-1),.int .i64 (-1),.int .i64 2])],.cells x.2 (some 265) [.int .i64 (cL x.1 0),.int .i64 (cL x.1 1),.int .i64 (cL x.1 2)]]) (λx=>x.1=CJ s) ?_ λx hx=> ?_
 ·refine xw ?_;repeat' first|exact .n|apply Lc.mk
  all_goals intros
  all_goals first
   |exact cy (1,_) (qc 1 b_ b_ (by assumption))
   |exact cy (2,_) (qc 2 b_ b_ (by assumption))
   |exact cy (3,_) (qc 3 b_ b_ (by assumption))
   |exact cy (4,_) (qc 4 b_ b_ (by assumption))
   |exact cy (5,_) (qc 5 b_ b_ (by assumption))
   |exact cy (6,_) (qc 6 b_ b_ (by assumption))
   |exact cy (7,_) (QD (by assumption) (by assumption) (by assumption) (by assumption) (by assumption) (by assumption))
 obtain⟨k,b6⟩:=x;obtain rfl:k=CJ s:=hx;dsimp only
 rcases A4 s with⟨h7, -⟩|⟨k,hk1,hk,hk2,hk3⟩
 ·rw[h7];exact ay hC hGL bB
 have n0:=tT (G:=G) hk1 hk hk3 0 b_;have n1:=tT (G:=G) hk1 hk hk3 1 b_;have n2:=tT (G:=G) hk1 hk hk3 2 b_;rw[hk2];have e7:decide (k≠7)=true:=decide_eq_true a_;rw[e7];rw[show cH k s=cV k s 0 from rfl];rw[show cI k s=cV k s 1 from rfl];rw[show cS k s=cV k s 2 from rfl];generalize cL k 0=l0 at*
 generalize cL k 1=l1 at*
 generalize cL k 2=l2 at*
 generalize cV k s 0=v0 at*
 generalize cV k s 1=v1 at*
 generalize cV k s 2=v2 at*
 refine ay hC hGL (ao ?_);intros;refine cA mixed hC hGL false (λ_ _=>False) (λ(_:Unit)=>[(0,.str s),(6,.own 2 (pW b6)),(36,.list 1 3 (bT [(0,pF b 3),(1,pF b 4),(2,pF b 5)])),(37,.int .i64 3),(38,.int .i64 0)]) (λ_=>[iP b y m d (-1) (-1) (-1) z o,.mp bm [(.str [57,57],.agg [.int .i64 0,.int .i64 (-1),.int .i64 (-1)]),(.str [57,57,57,57],.agg [.int .i64 0,.int .i64 2,.int .i64 (-1)]),(.str [57,57,57,57,57,57],.agg [.int .i64 0,.int .i64 2,.int .i64 4]),(.str [45,57,57],.agg [.int .i64 (-1),.int .i64 1,.int .i64 (-1)]),(.str [45,57,57,57,57],.agg [.int .i64 (-1),.int .i64 1,.int .i64 3]),(.str [45,45,57,57],.agg [.int .i64 (-1),.int .i64 (-1),.int .i64 2])],.cells b6 (some 265) [.int .i64 l0,.int .i64 l1,.int .i64 l2]]) .p20 be ?_ ?_ (λ_ _ h=>h.elim)
 ·refine xn ?_;repeat' first|exact .n|apply Lc.mk
  all_goals intros
  all_goals (exact⟨(),ah,aF⟩)
 intro _;refine ao ?_;refine EU (an (aA (i:=2) (k:=6) rfl rfl) (bL (e':=[(0,.str s),(6,.rop [.int .i64 l0,.int .i64 l1,.int .i64 l2] 0),(36,.list 1 3 (bT [(0,pF b 3),(1,pF b 4),(2,pF b 5)])),(37,.int .i64 3),(38,.int .i64 0)]) (h':=[iP b y m d (-1) (-1) (-1) z o]) ah (V_ _ (Ug _)))) ?_;refine lp hC hGL (λr:Nat=>[(0,.str s),(6,.rop [.int .i64 l0,.int .i64 l1,.int .i64 l2] 0),(36,.list 1 3 (bT [(0,pF b 3),(1,pF b 4),(2,pF b 5)])),(37,.int .i64 3),(38,.int .i64 (r:Nat))]) (λr=>[iP b y m d (qz v0 0 r) (qz v1 1 r) (qz v2 2 r) z o]) (λr=>r<=3) (λr=>3-r) 0 b_ ah (by simp only[Ub]) ?_;intro r hr;rcases(show r=0\/r=1\/r=2\/r=3 by omega) with rfl|rfl|rfl|rfl
 ·rcases n0 with⟨g1,g2⟩|⟨g1,g2,g3,g4,g5⟩
  ·refine aK ?_;intros;refine cQ 1 b_ b_ ah ?_;simp[qz,g2]
  ·refine ao ?_;intros;refine cA mixed hC hGL false (λ_ _=>False) (λ(_:Unit)=>[(0,.str s),(6,.rop [.int .i64 l0,.int .i64 l1,.int .i64 l2] 0),(36,.list 1 3 (bT [(0,pF b 3),(1,pF b 4),(2,pF b 5)])),(37,.int .i64 3),(38,.int .i64 (0:Nat)),(8,.int .i64 (0:Nat))]) (λ_=>[iP b y m d (qz v0 0 1) (qz v1 1 1) (qz v2 2 1) z o]) .p13 be ?_ ?_ (λ_ _ h=>h.elim)
   ·refine xn ?_;repeat' first|exact .n|apply Lc.mk
    all_goals intros
    all_goals (exact⟨(),ah,aF⟩)
   ·intro _;refine aK ?_;intros;exact cQ 1 b_ b_ ah rfl
 ·rcases n1 with⟨g1,g2⟩|⟨g1,g2,g3,g4,g5⟩
  ·refine aK ?_;intros;refine cQ 2 b_ b_ ah ?_;simp[qz,g2]
  ·refine ao ?_;intros;refine cA mixed hC hGL false (λ_ _=>False) (λ(_:Unit)=>[(0,.str s),(6,.rop [.int .i64 l0,.int .i64 l1,.int .i64 l2] 0),(36,.list 1 3 (bT [(0,pF b 3),(1,pF b 4),(2,pF b 5)])),(37,.int .i64 3),(38,.int .i64 (1:Nat)),(8,.int .i64 (1:Nat))]) (λ_=>[iP b y m d (qz v0 0 2) (qz v1 1 2) (qz v2 2 2) z o]) .p13 be ?_ ?_ (λ_ _ h=>h.elim)
   ·refine xn ?_;repeat' first|exact .n|apply Lc.mk
    all_goals intros
    all_goals (exact⟨(),ah,aF⟩)
   ·intro _;refine aK ?_;intros;exact cQ 2 b_ b_ ah rfl
 ·rcases n2 with⟨g1,g2⟩|⟨g1,g2,g3,g4,g5⟩
  ·refine aK ?_;intros;refine cQ 3 b_ b_ ah ?_;simp[qz,g2]
  ·refine ao ?_;intros;refine cA mixed hC hGL false (λ_ _=>False) (λ(_:Unit)=>[(0,.str s),(6,.rop [.int .i64 l0,.int .i64 l1,.int .i64 l2] 0),(36,.list 1 3 (bT [(0,pF b 3),(1,pF b 4),(2,pF b 5)])),(37,.int .i64 3),(38,.int .i64 (2:Nat)),(8,.int .i64 (2:Nat))]) (λ_=>[iP b y m d (qz v0 0 3) (qz v1 1 3) (qz v2 2 3) z o]) .p13 be ?_ ?_ (λ_ _ h=>h.elim)
   ·refine xn ?_;repeat' first|exact .n|apply Lc.mk
    all_goals intros
    all_goals (exact⟨(),ah,aF⟩)
   ·intro _;refine aK ?_;intros;exact cQ 3 b_ b_ ah rfl
 ·exact bB
end
section
theorem TM (t:Stm):(t.E= .none/\t.e=0)\/∃x,x≠0/\t.E= .errno x/\t.e=x:=by
 unfold Stm.E Stm.e
 (repeat' split)
 ·exact .inl ⟨rfl,rfl⟩
 ·exact .inr ⟨2,b_,rfl,rfl⟩
 ·exact .inr ⟨3,b_,rfl,rfl⟩
theorem XS {t:Stm}(h:t.e=0):o5 t=(t,.none):=by unfold o5;rw[if_pos h]
theorem XR {t:Stm}{x:Int}(h:t.e=x)(hx:x≠0):o5 t=(Stm.no,.errno x):=by unfold o5;rw[if_neg (by rw[h];exact hx),h]
theorem Ky {s:List UInt8}{c:Int}(h:(fw s c).2.2=false):(fw s c).2.1=[]:=by
 unfold fw at*
 split
 ·rfl
 ·rename_i h1;rw[if_neg h1] at h;cases h
theorem FP (s:List UInt8)(c:Int):(fw s c).1.length<=s.length/\(fw s c).2.1.length<=s.length:=by
 unfold fw;split
 ·simp
 ·simp only[i_,k_];omega
theorem TR {d t:List UInt8}{b:Bool}(h:mj d=7):mq d b t=(Stm.no,.errno 3):=by unfold mq;rw[if_pos h]
theorem TP {d t:List UInt8}(h:mj d≠7):mq d false t=o5 (GB (mj d) d 0 [] []):=by unfold mq;rw[if_neg h,if_pos rfl]
theorem Nb {d t:List UInt8}(h:mj d≠7)(h0:oy t=0):mq d true t=(Stm.no,.errno 3):=by unfold mq;rw[if_neg h,if_neg b_,if_pos h0]
theorem NX:oy []=0:=by
 refine Decidable.byContradiction λh=> ?_;have g:=Bs h;have h1:=g.hn;have h2:=(CH g.j1 g.j6).1
 rw[<-g.len] at h2
 simp at h1
 omega
theorem Rh {d t:List UInt8}{k:Nat}(h:mj d≠7)(hk:KO t k)(hc:CJ (t.take k)=7):mq d true t=(Stm.no,.errno 3):=by
 have hn:∀j,1<=j->j<=6->aP (t.take k)≠aX j:=λj h1 h6 e=>by
  rw[IH h1 h6 e] at hc;omega
 rcases NV hk hn with h0|⟨h0,h1,h2⟩
 ·exact Nb h h0
 ·unfold mq;rw[if_neg h,if_neg b_,if_neg h0,if_pos ⟨λe=>by have:=congrArg List.length e;rw[k_,E_] at this;omega,by rw[h2];decide⟩,h2]
theorem Xb {d t:List UInt8}{k j:Nat}(h:mj d≠7)(hk:KO t k)(h1:1<=j)(h6:j<=6)(hs:aP (t.take k)=aX j)(hl:k<t.length)(hz:(bI (t.drop k)).2≠0):mq d true t=(Stm.no,.errno (bI (t.drop k)).2):=by
 obtain⟨e1,e2⟩:=DG hk h1 h6 hs;unfold mq;rw[if_neg h,if_neg b_,if_neg a_,e2,if_pos ⟨λe=>by have:=congrArg List.length e;rw[k_,E_] at this;omega,hz⟩]
theorem Na {d t:List UInt8}{k j:Nat}(h:mj d≠7)(hk:KO t k)(h1:1<=j)(h6:j<=6)(hs:aP (t.take k)=aX j)(hz:k<t.length->(bI (t.drop k)).2=0):mq d true t=o5 (GB (mj d) d j (t.take k) (t.drop k)):=by
 obtain⟨e1,e2⟩:=DG hk h1 h6 hs;unfold mq;rw[if_neg h,if_neg b_,if_neg a_,e1,e2,if_neg];rintro⟨g1,g2⟩;rcases YY k t.length with g|g
 ·exact g2 (hz g)
 ·exact g1 (List.drop_eq_nil_of_le g)
theorem M8 {i j:Nat}{d c z:List UInt8}(h:z≠[]):GB i d j c z=⟨dY i d,dM i d,dD i d,cH j c,cI j c,cS j c,true,(bI z).1⟩:=by
 unfold GB;rw[if_neg h,decide_eq_true h]
theorem M9 {i j:Nat}{d c:List UInt8}:GB i d j c []=⟨dY i d,dM i d,dD i d,cH j c,cI j c,cS j c,false,0⟩:=rfl
theorem Gx (z:List UInt8):(gP z= .none/\(bI z).2=0)\/∃e,e≠0/\gP z= .errno e/\(bI z).2=e:=by
 unfold gP;by_cases h:(bI z).2=0
 ·rw[if_pos h];exact .inl ⟨rfl,h⟩
 ·rw[if_neg h];exact .inr ⟨_,h,rfl,rfl⟩
def Yn (t:List UInt8):Int:=if 0<=Lib.indexAny t [90,43] then Lib.indexAny t [90,43] else if 2<=gH t 45 t.length then gH t 45 t.length else t.length
theorem xV (t:List UInt8):(Lib.indexAny t [90,43]= -1/\∀j,j<t.length->aa t j≠90/\aa t j≠43)\/∃m,m<t.length/\Lib.indexAny t [90,43]=(m:Int)/\(aa t m=90\/aa t m=43)/\∀j,j<m->aa t j≠90/\aa t j≠43:=by
 have key:∀j (hj:j<t.length),([90,43]:List UInt8).contains t[j]=true↔(aa t j=90\/aa t j=43):=by
  intro j hj
  rw[bn hj,List.contains_iff_mem]
  simp only[p_,t_,or_false]
  constructor
  ·rintro(h|h)<;>rw[h]
   ·exact .inl rfl
   ·exact .inr rfl
  ·rintro(h|h)
   ·exact .inl (UInt8.toNat_inj.1 h)
   ·exact .inr (UInt8.toNat_inj.1 h)
 by_cases h:∃m,m<t.length/\(aa t m=90\/aa t m=43)/\∀j,j<m->aa t j≠90/\aa t j≠43
 ·obtain⟨m,h1,h2,h3⟩:=h
  refine .inr ⟨m,h1,?_,h2,h3⟩
  refine Lib.indexAny_hit (λj x hj hx=> ?_) (y_ h1) ((key m h1).2 h2)
  obtain⟨hj',rfl⟩:=List.getElem?_eq_some_iff.1 hx
  rw[Bool.eq_false_iff]
  intro hc
  have:=(key j hj').1 hc
  have:=h3 j hj
  omega
 ·have hn:∀n,n<=t.length->∀j,j<n->aa t j≠90/\aa t j≠43:=by
   intro n
   induction n with
   |zero=>intro _ j hj;omega
   |succ n ih=>
    intro hl j hj
    rcases YY j n with g|g
    ·exact ih a_ j g
    ·refine Decidable.byContradiction λhc=>h ⟨n,a_,?_,ih a_⟩
     rw[show j=n by omega] at hc
     omega
  refine .inl ⟨Lib.indexAny_none λj x hj hx=> ?_,hn _ (Nat.le_refl _)⟩
  obtain⟨hj',rfl⟩:=List.getElem?_eq_some_iff.1 hx
  rw[Bool.eq_false_iff]
  intro hc
  have:=(key j hj').1 hc
  have:=hn _ (Nat.le_refl _) j hj'
  omega
theorem W7 (t:List UInt8):∃k:Nat,Yn t=k/\KO t k:=by
 unfold Yn KO;rcases xV t with⟨h1,h2⟩|⟨m,h1,h2,h3,h4⟩
 ·rw[h1,if_neg b_];rcases uw t 45 t.length with⟨g1,g2⟩|⟨m,g1,g2,g3,g4⟩
  ·rw[g1,if_neg b_];exact⟨_,rfl,.inr ⟨h2,.inr ⟨rfl,λj _ hj=>by have:=g2 j hj;omega⟩⟩⟩
  ·rw[g2];split
   ·exact⟨m,rfl,.inr ⟨h2,.inl ⟨g1,a_,a_,λj k1 k2=>by have:=g4 j k1 k2;omega⟩⟩⟩
   ·exact⟨_,rfl,.inr ⟨h2,.inr ⟨rfl,λj k1 k2=>by have:=g4 j a_ k2;omega⟩⟩⟩
 ·rw[h2,if_pos a_];exact⟨m,rfl,.inl ⟨h1,h3,h4⟩⟩
attribute [local irreducible] bG au aa az aR ab ad
attribute [local irreducible] aP dz mj CJ mq GB o5 fw bI gP gH KO
attribute [local irreducible] Lib.indexAny
theorem GA {G:Glo}{m:Int}(hU:ab G utfTy)(hM:ab G (bP m))(s:List UInt8)(hl:s.length<=10000):ak prog G 103 [.str s] (.tuple [(Gp s).1.A,(Gp s).2.A]):=by
  have k1:ak prog G 109 [.str s,.str [84]] (.tuple [.str (fw s 84).1,.str (fw s 84).2.1,.bool (fw s 84).2.2]):=nW s 84 a_;have hn:=Ky (s:=s) (c:=84);have hlen:=FP s 84;unfold Gp;generalize (fw s 84).1=d at*
  generalize (fw s 84).2.1=t at*
  generalize (fw s 84).2.2=timed at*
  have hD:=λb=>KS (G:=G) hU b d a_ (-1) (-1) (-1) false 0;have hR:=λu=>ll (G:=G) hM u;have k2:=sd (G:=G) (a:=90) (b:=43) b_ b_ t a_;have k3:=oa (G:=G) t 45 b_ b_ a_;have hZ:=λx h=>vM (G:=G) x h;have hC4:=λb x h=>Gy (G:=G) hU b x h (dY (mj d) d) (dM (mj d) d) (dD (mj d) d) false 0;refine mh func103 call103 λC hC hGL=> ?_;refine gu hC hGL (λb2:Nat=>[(0,.str s),(2,.own 0 (pW b2))]) (λb2=>[iP b2 0 0 0 0 0 0 false 0]) (λ_=>True) ?_ λb2 _=> ?_
  · refine aK ?_;intro b2;exact cy b2 trivial
  refine gu hC hGL (λb4:Nat=>[(0,.str s),(2,.own 0 (pW b2)),(4,.own 1 (pW b4))]) (λb4=>[iP b2 0 0 0 0 0 0 false 0,iP b4 (-1) (-1) (-1) (-1) (-1) (-1) false 0]) (λ_=>True) ?_ λb4 _=> ?_
  · refine aK ?_;intro b4;exact cy b4 trivial
  refine cut hC hGL [(2,.own 0 (pW b2)),(4,.own 1 (pW b4)),(5,.str d),(6,.str t),(7,.bool timed)] [iP b2 0 0 0 0 0 0 false 0,iP b4 (-1) (-1) (-1) (-1) (-1) (-1) false 0] True bB λ_=> ?_;refine cut hC hGL [(2,.own 0 (pW b2)),(4,.own 1 (pW b4)),(6,.str t),(7,.bool timed)] [iP b2 0 0 0 0 0 0 false 0,iP b4 (dY (mj d) d) (dM (mj d) d) (dD (mj d) d) (-1) (-1) (-1) false 0] (mj d≠7/\(timed=true->t≠[])) ?_ λhd=> ?_
  · refine aK ?_;refine aV (i:=1) rfl (hD b4) ?_;by_cases h7:mj d=7
    · rw[TR h7,h7];exact bB
    · rw[show decide (mj d≠7)=true from decide_eq_true h7];cases timed with
      | false=>
        obtain rfl:=hn rfl;refine xw ?_;repeat' first|exact .n|apply Lc.mk
        all_goals intros
        all_goals first
          |(exfalso;rename_i wb;rw[bZ.2 rfl] at wb;cases wb;done)
          |exact⟨h7,λh=>by cases h⟩
          |skip
      | true=>
        refine xw ?_;repeat' first|exact .n|apply Lc.mk
        all_goals intros
        all_goals first
          | (rename_i wb
             have e:t=[]:=bZ.1 (by simpa using wb)
             subst e
             rw[Nb h7 NX]
             exact cP)
          | (rename_i wb
             exact⟨h7,λ_=>ku.1 (by simpa using wb)⟩)
          |skip
  obtain⟨h7,ht⟩:=hd;refine gu hC hGL (λ_:Stm=>[(2,.own 0 (pW b2)),(4,.own 1 (pW b4))]) (λu=>[iP b2 0 0 0 0 0 0 false 0,iP b4 u.y u.m u.d u.h u.i u.s u.z u.o]) (λu=>mq d timed t=o5 u) ?_ λu hu=> ?_
  · cases timed with
    | false=>
      refine aK ?_;intros;exact cy (GB (mj d) d 0 [] []) (TP h7) ah (by unfold GB;rfl)
    | true=>
      obtain⟨k,hk,hI⟩:∃k:Nat,KO t k/\((Lib.indexAny t [90,43]=(k:Int))\/(Lib.indexAny t [90,43]= -1/\gH t 45 t.length=(k:Int)/\2<=k)\/(Lib.indexAny t [90,43]= -1/\gH t 45 t.length<2/\k=t.length)):=by
        obtain⟨k,h1,h2⟩:=W7 t;refine⟨k,h2,?_⟩;have g1:=Lib.indexAny_ge [90,43] t;unfold Yn at h1;split at h1
        · exact .inl h1
        · split at h1
          · exact .inr (.inl ⟨a_,h1,a_⟩)
          · exact .inr (.inr ⟨a_,a_,a_⟩)
      have hkl:=HQ hk;have hc:=And.intro trivial (hC4 b4 (t.take k) (by rw[i_];omega));have hz:=hZ (t.drop k) (by rw[k_];omega);generalize Lib.indexAny t [90,43]=ia at*
      generalize gH t 45 t.length=ib at*
      have key:∀j,CJ (t.take k)=j->1<=j/\j<=6/\aP (t.take k)=aX j\/j=7:=by
        rintro j rfl;rcases A4 (t.take k) with⟨h,_⟩|⟨j,h1,h2,h3,h4⟩
        · exact .inr h
        · rw[h3];exact .inl ⟨h1,h2,h4⟩
      generalize hj:CJ (t.take k)=j at*
      have hzc:=Gx (t.drop k);have hdr:k<t.length->t.drop k≠[]:=λh e=>by
        have:=congrArg List.length e;rw[k_,E_] at this;omega
      rcases hI with rfl|⟨rfl,rfl,hI⟩|⟨rfl,hI,hI2⟩
      all_goals (
        refine aK ?_
        intros
        try (have hI3:(t.length:Int)=(k:Int):=by omega))
      all_goals (
        try (rw[<-hI2])
        refine aV (i:=1) rfl hc.2 ?_
        rcases key j rfl with⟨j1,j6,js⟩|rfl)
      all_goals first
        | (rw[Rh h7 hk hj]
           exact bB)
        |skip
      all_goals (
        rw[show decide (j≠7)=true from decide_eq_true a_]
        by_cases hkt:k<t.length
        · first
          |(exfalso;omega)
          | (have hdr:=hdr hkt
             rcases hzc with⟨z1,z2⟩|⟨e,e0,z1,z2⟩
             · rw[z1] at hz;refine aK ?_;intros;exact cy ⟨dY (mj d) d,dM (mj d) d,dD (mj d) d,cH j (t.take k),cI j (t.take k),cS j (t.take k),true,(bI (t.drop k)).1⟩ (by rw[Na h7 hk j1 j6 js (λ_=>z2),M8 hdr])
             · rw[z1] at hz;rw[Xb h7 hk j1 j6 js hkt (by rw[z2];exact e0),z2];exact bB)
        · have hd0:t.drop k=[]:=List.drop_eq_nil_of_le a_;refine aK ?_;intros;exact cy ⟨dY (mj d) d,dM (mj d) d,dD (mj d) d,cH j (t.take k),cI j (t.take k),cS j (t.take k),false,0⟩ (by rw[Na h7 hk j1 j6 js (λh=>absurd h hkt),hd0,M9]))
  have hu1:mq d timed t=o5 u:=hu;have hR1:ak prog G 157 [.agg [.int .i64 u.y,.int .i64 u.m,.int .i64 u.d,.int .i64 u.h,.int .i64 u.i,.int .i64 u.s,.bool u.z,.int .i64 u.o]] u.E.A:=hR u;rw[hu1];rcases TM u with⟨e1,e2⟩|⟨x,x0,e1,e2⟩
  · rw[e1] at hR1;rw[XS e2];exact ay hC hGL bB
  · rw[e1] at hR1;rw[XR e2 x0];exact ay hC hGL bB
end
section
abbrev iV:AVal:=.raw (.slice none 0 0)
attribute [local irreducible] bG au aa az aR ab ad
abbrev TV (v:Vl)(q:AVal):AVal:=.agg [.int .i64 v.t,.str v.s,q,.int .i64 v.st.y,.int .i64 v.st.m,.int .i64 v.st.d,.int .i64 v.st.h,.int .i64 v.st.i,.int .i64 v.st.s,.bool v.st.z,.int .i64 v.st.o,.int .i64 v.n]
attribute [local irreducible] iw fd dm yU jr j8 a7 gx dG Gp bI gP j9 ET
def Yi (s:List UInt8)(k:Int)(r:ct)(H:Heap):Prop:=
 (∃q,r= .ret (.tuple [TV (nc s k).1 q,(nc s k).2.A])/\H=[]/\((q=iV/\(nc s k).1.L=[])\/(q= .list 1 (j8 s).length (j9 (j8 s))/\(nc s k).1.L=j8 s)))\/
 (∃g,r= .ret (.tuple [TV (nc s k).1 (.list 1 1 g),.raw .nilIface])/\g 0= .list 1 (jr s).length (aB (jr s))/\(nc s k).1.L=[jr s]/\(nc s k).2= .none/\H=[])
theorem Di {G:Glo}{m:Int}(hU:ab G utfTy)(hM:ab G (bP m))(s:List UInt8)(k:Int)(hl:s.length<=10000):ad prog G 50 [.str s,.int .i64 k] [] (Yi s k):=by
 have hH:=oh (G:=G) s false a_;refine ax func50 call50 λC hC hGL=> ?_;by_cases hk:k<1\/9<=k
 ·have e:nc s k=(Vl.no,.errno 1):=by unfold nc;rw[if_pos hk]
  unfold Yi;rw[e];refine xw ?_;repeat' first|exact .n|apply Lc.mk
  all_goals intros
  all_goals exact⟨[],Ug _,.inl ⟨iV,rfl,rfl,.inl ⟨rfl,rfl⟩⟩⟩
 cases hh:fd false s with
 |false=>
  have e:nc s k=(Vl.no,.errno 3):=by unfold nc;rw[if_neg hk,if_pos hh]
  unfold Yi;rw[e];rw[hh] at hH;refine xw ?_;repeat' first|exact .n|apply Lc.mk
  all_goals intros
  all_goals exact⟨[],Ug _,.inl ⟨iV,rfl,rfl,.inl ⟨rfl,rfl⟩⟩⟩
 |true=>
  rw[hh] at hH;have hv:nc s k=(match (nV s k).2 with|.none=>nV s k|e=>(Vl.no,e)):=by unfold nc;rw[if_neg hk,if_neg (by rw[hh];decide)];cases (nV s k).2<;>rfl
  have h1:=yV (G:=G) s a_;have h2:=K4 (G:=G) s a_;have h3:=GQ (G:=G) s a_;have h4:=zL (G:=G) s a_;have h5:=GA (G:=G) hU hM s a_;have h6:=vM (G:=G) s a_;have h7:=qV (G:=G) s a_;unfold Yi;rw[hv];rcases(show k=1\/k=2\/k=3\/k=4\/k=5\/k=6\/k=7\/k=8 by omega) with rfl|rfl|rfl|rfl|rfl|rfl|rfl|rfl
  all_goals simp only[nV,if_pos,if_neg,Int.reduceEq,reduceIte]
  ·rcases hq:a7 s 0 with _|e|⟨e,p⟩
   all_goals
    rw[hq] at h1;simp only[Err.A,lJ] at h1;refine aK ?_;intros;exact⟨[],Ug _,.inl ⟨iV,rfl,rfl,.inl ⟨rfl,rfl⟩⟩⟩
  ·rcases hq:a7 s 0 with _|e|⟨e,p⟩
   all_goals
    rw[hq] at h2;simp only[Err.A,lJ] at h2;refine ao ?_
    intros
    first
     |exact⟨[],Ug _,.inl ⟨iV,rfl,rfl,.inl ⟨rfl,rfl⟩⟩⟩
     |exact⟨[],Ug _,.inr ⟨_,rfl,rfl,rfl,rfl,rfl⟩⟩
  ·rcases hq:a7 s 0 with _|e|⟨e,p⟩
   all_goals
    rw[hq] at h3;simp only[Err.A,lJ] at h3;refine aK ?_;intros;first
     |exact⟨[],Ug _,.inl ⟨_,rfl,rfl,.inr ⟨rfl,rfl⟩⟩⟩
     |exact⟨[],Ug _,.inl ⟨iV,rfl,rfl,.inl ⟨rfl,rfl⟩⟩⟩
  ·rcases hq:gx s with _|e|⟨e,p⟩
   all_goals
    rw[hq] at h4;simp only[Err.A,lJ] at h4;refine aK ?_;intros;exact⟨[],Ug _,.inl ⟨iV,rfl,rfl,.inl ⟨rfl,rfl⟩⟩⟩
  ·rcases hq:(Gp s).2 with _|e|⟨e,p⟩
   all_goals
    rw[hq] at h5;simp only[Err.A,lJ] at h5;generalize (Gp s).1=t at*
    refine aK ?_;intros;exact⟨[],Ug _,.inl ⟨iV,rfl,rfl,.inl ⟨rfl,rfl⟩⟩⟩
  ·rcases hq:gP s with _|e|⟨e,p⟩
   all_goals
    rw[hq] at h6;simp only[Err.A,lJ] at h6;refine aK ?_;intros;exact⟨[],Ug _,.inl ⟨iV,rfl,rfl,.inl ⟨rfl,rfl⟩⟩⟩
  ·rcases hq:dG s with _|e|⟨e,p⟩
   all_goals
    rw[hq] at h7;simp only[Err.A,lJ] at h7;refine aK ?_;intros;exact⟨[],Ug _,.inl ⟨iV,rfl,rfl,.inl ⟨rfl,rfl⟩⟩⟩
  ·refine aK ?_
   intros
   exact⟨[],Ug _,.inl ⟨iV,rfl,rfl,.inl ⟨rfl,trivial⟩⟩⟩
end
section
def Vl.R (v:Vl):AVal:=TV v (.list 1 v.L.length (j9 v.L))
def Ym (L:List (List (List UInt8)))(q:AVal):Prop:=(q=iV/\L=[])\/q= .list 1 L.length (j9 L)\/∃l g,q= .list 1 1 g/\g 0=ET l/\L=[l]
theorem vf {v:Vl}{q B:AVal}(h:Ym v.L q):Gk (.ret (.tuple [TV v q,B])) [] (.tuple [v.R,B]):=by
 rintro C R w e' hm ⟨x,rfl,hx⟩;refine⟨R,hm,x,rfl,gz (Seal.le_refl R) hx λu hu=> ?_⟩;rcases h with⟨rfl,hL⟩|rfl|⟨l,g,rfl,hg,hL⟩
 ·have e:v.R=TV v (.list 1 0 (j9 [])):=by unfold Vl.R;rw[hL];rfl
  rw[e];exact jn (p:=2) (a':=.list 1 0 (j9 [])) (Seal.le_refl R) hu rfl (λv=>lx)
 ·exact hu
 ·have e:v.R=TV v (.list 1 1 (j9 [l])):=by unfold Vl.R;rw[hL];rfl
  rw[e];refine jn (p:=2) (a':=.list 1 1 (j9 [l])) (Seal.le_refl R) hu rfl (λv=>HG λi hi=> ?_);obtain rfl:i=0:=by omega
  rw[hg];rfl
theorem GD {G:Glo}{m:Int}(hU:ab G utfTy)(hM:ab G (bP m))(s:List UInt8)(k:Int)(hl:s.length<=10000):ak prog G 50 [.str s,.int .i64 k] (.tuple [(nc s k).1.R,(nc s k).2.A]):=by
 refine dA (Di hU hM s k hl) ?_;rintro r H (⟨q,rfl,rfl,⟨rfl,hL⟩|⟨rfl,hL⟩⟩|⟨g,rfl,hg,hL,he,rfl⟩)
 ·exact vf (.inl ⟨rfl,hL⟩)
 ·exact vf (.inr (.inl (by rw[hL])))
 ·rw[he];exact vf (.inr (.inr ⟨jr s,g,rfl,hg,hL⟩))
end
section
theorem HF (c:Bool)(s:List UInt8)(e:Int):rk c s≠ .errno e:=by
 unfold rk;split<;>exact λh=>by cases h
abbrev HU (b:Nat)(p:Ln)(v:Vl)(q1 q2:AVal):HEnt:=.cells b (some 54) [.str p.g,.str p.n,q1,.int .i64 v.t,.str v.s,q2,.int .i64 v.st.y,.int .i64 v.st.m,.int .i64 v.st.d,.int .i64 v.st.h,.int .i64 v.st.i,.int .i64 v.st.s,.bool v.st.z,.int .i64 v.st.o,.int .i64 v.n]
abbrev itQ (p:Ln)(v:Vl)(q1 q2:AVal):AVal:=.agg [.str p.g,.str p.n,q1,.int .i64 v.t,.str v.s,q2,.int .i64 v.st.y,.int .i64 v.st.m,.int .i64 v.st.d,.int .i64 v.st.h,.int .i64 v.st.i,.int .i64 v.st.s,.bool v.st.z,.int .i64 v.st.o,.int .i64 v.n]
def XL (p:Ln)(v:Vl):AVal:=itQ p v (.list 2 p.ps.length (fU p.ps)) (.list 1 v.L.length (j9 v.L))
abbrev SD (l:LineS):AVal:=.rop [.str l.t,.int .i64 l.a,.list 1 l.f.length (eo l.f)] 0
abbrev iN:AVal:=.raw (.slice none 0 0)
abbrev eW (b:Nat):Value:=.pointer (some ⟨b,0,none⟩)
abbrev Yp (b:Nat)(v:Vl):HEnt:=.cells b (some 52) [.int .i64 v.t,.str v.s,.list 1 v.L.length (j9 v.L),.int .i64 v.st.y,.int .i64 v.st.m,.int .i64 v.st.d,.int .i64 v.st.h,.int .i64 v.st.i,.int .i64 v.st.s,.bool v.st.z,.int .i64 v.st.o,.int .i64 v.n]
def Ti (v:Int)(l:LineS)(x:AVal)(r:ct)(H:Heap):Prop:=∃q1 q2,r= .ret (.tuple [itQ (pg v l).1 (pg v l).2 q1 q2,x])/\H=[]/\((q1=iN/\q2=iN/\pg v l=(Ln.no,Vl.no))\/(q1= .list 2 (pg v l).1.ps.length (fU (pg v l).1.ps)/\q2= .list 1 (pg v l).2.L.length (j9 (pg v l).2.L)))
theorem KG {v:Int}{l:LineS}{x:AVal}{r:ct}{H:Heap}(h:Ti v l x r H):Gk r H (.tuple [XL (pg v l).1 (pg v l).2,x]):=by
 obtain⟨q1,q2,rfl,rfl,h⟩:=h;rintro C R w e' hm ⟨y,rfl,hx⟩;refine⟨R,hm,y,rfl,gz (Seal.le_refl R) hx λu hu=> ?_⟩;rcases h with⟨rfl,rfl,hL⟩|⟨rfl,rfl⟩
 ·rw[hL] at hu ⊢;exact jn (p:=5) (a':=.list 1 0 (j9 [])) (Seal.le_refl R) (jn (p:=2) (a':=.list 2 0 (fU [])) (Seal.le_refl R) hu rfl (λv=>lx)) rfl (λv=>lx)
 ·exact hu
theorem BX {n:Nat}{l:List Pr}(h:∀q∈l,q.in n)(k:Nat)(hn:n<=1000000:=by omega):(l.getD k Pr.z).n.length<=9223372036854775807/\((l.getD k Pr.z).vs.length<=9223372036854775807/\((l.getD k Pr.z).vs.getD 0 []).length<=9223372036854775807):=by
 have h0:(l.getD k Pr.z).in n:=by
  by_cases hk:k<l.length
  ·rw[f_,y_ hk];exact h _ (K_ hk)
  ·rw[f_,P_ a_];exact⟨Nat.zero_le _,Nat.zero_le _,λv hv=>by cases hv⟩
 obtain⟨h1,h2,h3⟩:=h0;refine⟨a_,a_,?_⟩;cases hv:(l.getD k Pr.z).vs with
 |nil=>exact Nat.zero_le _
 |cons v vs=>have:=h3 v (by rw[hv];exact z_ ..);show v.length<=_;omega
attribute [local irreducible] bG au aa az aR ab ad
attribute [local irreducible] iQ rk nc jv cK fU j9 eo
theorem IF {G:Glo}{m:Int}(hE:ab G errTy)(hU:ab G utfTy)(hM:ab G (bP m))(hS:qh G)(v:Int)(t:List UInt8)(l:LineS)(hl:l.t.length<=1500)(ht:t.length<=20100)(hb:nP t l):ad prog G 27 [uv l,.int .i64 v] [] (Ti v l (iR v l).A):=by
 have hc:=uB (G:=G) v;have h1:=HK (G:=G) l.t (bU v 4) a_;have hin:=HE (bU v 4) l.t;have hpl:=λi g0 g1=>Ic (G:=G) t l i g0 g1 ht hb;refine mh func27 call27 λC hC hGL=> ?_;refine gu hC hGL (λx:Nat=>[(1,.int .i64 v),(2,SD l),(4,.own 0 (eW x)),(5,.raw .nilIface)]) (λx=>[HU x Ln.no Vl.no iN iN]) (λ_=>True) ?_ ?_
 ·refine ao ?_;intro b;intros;exact cy b trivial
 intro b4 _;by_cases hv:v=3\/v=4
 ·refine cut hC hGL [(1,.int .i64 v),(2,SD l),(4,.own 0 (eW b4)),(5,.raw .nilIface)] [HU b4 Ln.no Vl.no iN iN] True ?_ λ_=> ?_
  ·rcases hv with rfl|rfl<;>exact eK
  have hke:rk (bU v 4) l.t≠ .none->pg v l=(Ln.no,Vl.no):=λh=>by
   unfold pg iR;rw[if_pos hv];rcases hq:rk (bU v 4) l.t with _|e|⟨e,p⟩
   ·exact absurd hq h
   ·rfl
   ·rfl
  rcases hq:rk (bU v 4) l.t with _|e|⟨e,p⟩
  ·have h2:=wD (G:=G) hS v (iQ (bU v 4) l.t).n (iQ (bU v 4) l.t).ps a_ (by have:=(Cf (bU v 4) l.t).1;omega) (λk=>(BX hin.2.2 k).1) (λk=>(BX hin.2.2 k).2);have h3:=GD (G:=G) hU hM (iQ (bU v 4) l.t).v (M3 v l.t) a_;have hvin:=Nd (iQ (bU v 4) l.t).v (M3 v l.t);have e3:iR v l=(match (yA v l.t).2 with|.none=>.none|x=>.at x.e (cK l ((l.t.length:Int)-(iQ (bU v 4) l.t).v.length+max 0 x.p) l.f.length)):=by unfold iR;rw[if_pos hv,hq];rfl
   have e4:pg v l=(match iR v l with|.none=>(iQ (bU v 4) l.t,(yA v l.t).1)|_=>(Ln.no,Vl.no)):=rfl;have h4:=sG (G:=G) hE (yA v l.t).2;rw[hq] at h1;change ak _ _ _ _ (.tuple [.int .i64 (M3 v l.t),_]) at h2;change ak _ _ _ _ (.tuple [(yA v l.t).1.R,(yA v l.t).2.A]) at h3;change (yA v l.t).2.in _ at hvin;unfold Ti;generalize iQ (bU v 4) l.t=L at*
   generalize yA v l.t=V at*
   obtain⟨V,x⟩:=V;dsimp only at*
   generalize M3 v l.t=k at*
   generalize (eM v).A=z at*
   refine gu hC hGL (λb6:Nat=>[(1,.int .i64 v),(2,SD l),(4,.own 0 (eW b4)),(5,.raw .nilIface),(6,.own 1 (eW b6)),(7,AVal.raw .nilIface)]) (λb6=>[HU b4 Ln.no Vl.no iN iN,.cells b6 (some 92) [.str L.g,.str L.n,.list 2 L.ps.length (fU L.ps),.str L.v]]) (λ_=>True) ?_ ?_
   ·refine ao ?_;intros;refine bh mixed hC hGL false (λb6:Nat=>[(1,.int .i64 v),(2,SD l),(4,.own 0 (eW b4)),(5,.raw .nilIface),(6,.own 1 (eW b6)),(7,AVal.raw .nilIface)]) (λb6=>[HU b4 Ln.no Vl.no iN iN,.cells b6 (some 92) [.str L.g,.str L.n,.list 2 L.ps.length (fU L.ps),.str L.v]]) .p21 be ?_ ?_
    ·refine xn ?_;repeat' first|exact .n|apply Lc.mk
     all_goals intros
     all_goals intros
     all_goals exact⟨_,ah,rfl⟩
    ·intro b6;refine ao ?_;intros;exact cy b6 trivial
   intro b6 _;rcases x with _|e|⟨e,p⟩
   ·rw[e4,e3];simp only[Err.A] at h3 ⊢;refine ay hC hGL (ao ?_);intros;exact⟨[],Ug _,_,_,rfl,rfl,.inr ⟨rfl,rfl⟩⟩
   ·have hp:=hpl ((l.t.length:Int)-L.v.length) a_ a_;have e5:(l.t.length:Int)-L.v.length+max 0 (Err.errno e).p=(l.t.length:Int)-L.v.length:=by show _+max 0 (-1)=_;omega
    rw[e4,e3];dsimp only
    rw[e5];simp only[Err.A,Err.e,lJ] at h3 h4 ⊢;refine ay hC hGL (ao ?_);intros;rename Nat=>b12
    refine bh mixed hC hGL false (λ_:Unit=>[(4,.own 0 (eW b4)),(5,sP e (cK l ((l.t.length:Int)-L.v.length) l.f.length))]) (λ_=>[HU b4 Ln.no Vl.no iN iN,.cells b6 (some 92) [.str L.g,.str L.n,.list 2 L.ps.length (fU L.ps),.str L.v],Yp b12 V]) .p22 be xu ?_;intro _;refine ao ?_;intros;exact⟨[],Ug _,iN,iN,rfl,rfl,.inl ⟨rfl,rfl,by first|exact rfl|exact trivial⟩⟩
   ·have hvin:0<=p/\p<=((L.v.length+1:Nat):Int):=hvin;have hp:=hpl ((l.t.length:Int)-L.v.length+p) a_ a_;have e5:max 0 (Err.at e p).p=p:=by show max 0 p=p;omega
    rw[e4,e3];dsimp only
    rw[e5];simp only[Err.A,Err.e,lJ] at h3 h4 ⊢;refine ay hC hGL (ao ?_);intros;rename Nat=>b12
    refine bh mixed hC hGL false (λ_:Unit=>[(4,.own 0 (eW b4)),(5,sP e (cK l ((l.t.length:Int)-L.v.length+p) l.f.length))]) (λ_=>[HU b4 Ln.no Vl.no iN iN,.cells b6 (some 92) [.str L.g,.str L.n,.list 2 L.ps.length (fU L.ps),.str L.v],Yp b12 V]) .p22 be xu ?_;intro _;refine ao ?_;intros;exact⟨[],Ug _,iN,iN,rfl,rfl,.inl ⟨rfl,rfl,by first|exact rfl|exact trivial⟩⟩
  ·exact absurd hq (HF _ _ _)
  ·have e1:iR v l= .at e (cK l p l.f.length):=by unfold iR;rw[if_pos hv,hq];rfl
   have e2:=hke (by rw[hq];exact λh=>by cases h);have hip:0<=p/\p<=(l.t.length:Int):=by
    have:=Pe (bU v 4) l.t;rw[hq] at this;exact this
   have hpl:=hpl p hip.1 a_;unfold Ti;rw[e1,e2];rw[hq] at h1;generalize iQ (bU v 4) l.t=L at*
   simp only[Err.A,lJ] at h1 ⊢;refine gu hC hGL (λb6:Nat=>[(1,.int .i64 v),(2,SD l),(4,.own 0 (eW b4)),(5,.raw .nilIface),(6,.own 1 (eW b6)),(7,sP e p)]) (λb6=>[HU b4 Ln.no Vl.no iN iN,.cells b6 (some 92) [.str L.g,.str L.n,.list 2 L.ps.length (fU L.ps),.str L.v]]) (λ_=>True) ?_ ?_
   ·refine ao ?_;intros;refine bh mixed hC hGL false (λb6:Nat=>[(1,.int .i64 v),(2,SD l),(4,.own 0 (eW b4)),(5,.raw .nilIface),(6,.own 1 (eW b6)),(7,sP e p)]) (λb6=>[HU b4 Ln.no Vl.no iN iN,.cells b6 (some 92) [.str L.g,.str L.n,.list 2 L.ps.length (fU L.ps),.str L.v]]) .p21 be ?_ ?_
    ·refine xn ?_;repeat' first|exact .n|apply Lc.mk
     all_goals intros
     all_goals intros
     all_goals exact⟨_,ah,rfl⟩
    ·intro b6;refine ao ?_;intros;exact cy b6 trivial
   intro b6 _;refine ay hC hGL (ao ?_);intros;refine bh mixed hC hGL false (λ_:Unit=>[(4,.own 0 (eW b4)),(5,sP e (cK l p l.f.length))]) (λ_=>[HU b4 Ln.no Vl.no iN iN,.cells b6 (some 92) [.str L.g,.str L.n,.list 2 L.ps.length (fU L.ps),.str L.v]]) (.t 0 (.t 1 (.t 2 (.t 3 (.t 4 (.t 5 (.t 6 (.t 7 (.t 8 (.t 9 (.b 10 (.t 11 (.br 12 (.t 13 (.b 14 (.t 15 .done))) (.b 14 (.b 12 (.t 13 (.t 15 .done))))))))))))))))) be xu ?_;intro _;refine ao ?_;intros;exact⟨[],Ug _,iN,iN,rfl,rfl,.inl ⟨rfl,rfl,by first|exact rfl|exact trivial⟩⟩
 ·have e1:iR v l= .errno 1:=by unfold iR;rw[if_neg hv]
  have e2:pg v l=(Ln.no,Vl.no):=by unfold pg;rw[e1]
  unfold Ti;rw[e1,e2];refine ay hC hGL (xn ?_);repeat' first|exact .n|apply Lc.mk
  all_goals intros
  all_goals exact⟨[],Ug _,iN,iN,rfl,rfl,.inl ⟨rfl,rfl,by first|exact rfl|exact trivial⟩⟩
end
section
def aI (c:UInt8)(s:List UInt8):List UInt8:=s.filter (· != c)
theorem Pw:∀{s:List UInt8} {c:UInt8},Lib.indexByte s c= -1->c∉s
 |[],c,_=>by simp
 |x::t,c,h=>by
  have hge:=Lib.indexByte_ge t c;unfold Lib.indexByte at h;split at h
  ·omega
  ·rename_i hx;split at h
   ·rename_i h2;have:=Pw (beq_iff_eq.1 h2);simp only[p_,not_or];exact⟨λe=>hx (by simp[e]),this⟩
   ·omega
theorem J4:∀{s:List UInt8} {c:UInt8} {i:Nat},Lib.indexByte s c=i->∃t,s=s.take i++c::t/\s.drop (i+1)=t/\c∉s.take i
 |[],c,i,h=>by unfold Lib.indexByte at h;omega
 |x::t,c,i,h=>by
  have hge:=Lib.indexByte_ge t c;unfold Lib.indexByte at h;split at h
  ·rename_i hx;obtain rfl:i=0:=by omega
   have:x=c:=by simpa using hx
   subst this;exact⟨t,by simp,by simp,by simp⟩
  ·rename_i hx;split at h
   ·omega
   ·rename_i h2;have h2:Lib.indexByte t c≠ -1:=λe=>h2 (beq_iff_eq.2 e);obtain⟨j,rfl⟩:∃j,i=j+1:=⟨i-1,a_⟩;have hj:Lib.indexByte t c=((j:Nat):Int):=by push_cast at h;omega
    obtain⟨u,h1,h2,h3⟩:=J4 (s:=t) (c:=c) (i:=j) hj;refine⟨u,by rw[YR,Lu,<-h1],by rw[YQ];exact h2,?_⟩;rw[YR,p_,not_or];exact⟨λe=>hx (by simp[e]),h3⟩
theorem OF {s:List UInt8}{c:UInt8}(h:c∉s):aI c s=s:=by
 unfold aI;rw[List.filter_eq_self];intro x hx;simp only[bne_iff_ne,Za];rintro rfl;exact h hx
theorem Jo (c:UInt8):∀(f:Nat) (s:List UInt8),s.length<f->Lib.replaceK [c] [] (Lib.countFrom [c] f s) s=aI c s
 |0,s,h=>by omega
 |f+1,s,h=>by
  unfold Lib.countFrom;have hge:=Lib.indexByte_ge s c;split
  ·rename_i h1;have h1:=beq_iff_eq.1 h1;rw[Lib.index_one] at h1;rw[Lib.replaceK,OF (Pw h1)]
  ·rename_i h1;rw[Lib.index_one] at h1 ⊢;obtain⟨i,hi⟩:∃i:Nat,Lib.indexByte s c=i:=⟨(Lib.indexByte s c).toNat,by
    have:Lib.indexByte s c≠ -1:=λe=>h1 (beq_iff_eq.2 e);omega⟩
   obtain⟨t,h2,h3,h4⟩:=J4 hi;have hi2:Lib.index s [c]=(i:Int):=by rw[Lib.index_one];exact hi
   have hlen:t.length<f:=by
    rw[<-h3,k_];have:=congrArg List.length h2;simp only[d_,j_,i_] at this;omega
   rw[hi,Nat.add_comm 1,Lib.replaceK_hit _ _ _ _ i hi2];simp only[B_,j_,E_,Nat.zero_add,Dc];rw[h3,Jo c f t hlen];conv=>rhs;rw[h2]
   have e1:aI c (s.take i++c::t)=aI c (s.take i)++aI c t:=by unfold aI;rw[List.filter_append,List.filter_cons];simp
   rw[e1,OF h4]
theorem D8 (s:List UInt8)(c:UInt8):Lib.replaceAll s [c] []=aI c s:=by
 unfold Lib.replaceAll Lib.replace Lib.replaceNum Lib.count;rw[if_neg (by simp),if_pos (.inl b_)];exact Jo c _ s (Nat.lt_succ_self _)
theorem strings_ReplaceAll {G:Glo}{m:Int}(hU:ab G (bP m))(s:List UInt8)(c:UInt8)(hl:s.length<=1000000):ak prog G 136 [.str s,.str [c],.str []] (.str (aI c s)):=by
 refine bK rfl call136 ?_;rintro R args ⟨x,u,e,hx,y,u',e',hy,z,u2,e2,hz,rfl⟩ w hG hs;obtain rfl:=aD.1 hx;obtain rfl:=aD.1 hy;obtain rfl:=aD.1 hz;subst e2;subst e';obtain rfl:=fK e;refine(Tryz.strings_ReplaceAll ⟨s.toArray⟩ ⟨#[c]⟩ ⟨#[]⟩ m w (by rw[bH];omega) (oO hU hG hs) (Nat.le_refl 1) (by rw[bH];show s.length+_*0<=_;omega)).mono ?_;rintro e w' ⟨rfl,hb⟩;exact⟨by simp[AVal.conc,D8],hb⟩
end
section
set_option maxHeartbeats 8000000
attribute [local irreducible] bG au az aR ab ad
def GK (t:Stm):Nat->Bool
 |0=>fE t.y 0 9999
 |1=>fE t.m 1 12
 |2=>fE t.d 1 t.day
 |3=>fE t.h 0 23
 |4=>fE t.i 0 59
 |_=>fE t.s 0 59
theorem Vg {t:Stm}(h:∀j,j<6->GK t j=true)(z:vK t.o=true):t.rng=true:=by
 have h0:fE t.y 0 9999=true:=h 0 b_;have h1:fE t.m 1 12=true:=h 1 b_;have h2:fE t.d 1 t.day=true:=h 2 b_;have h3:fE t.h 0 23=true:=h 3 b_;have h4:fE t.i 0 59=true:=h 4 b_;have h5:fE t.s 0 59=true:=h 5 b_;unfold Stm.rng;rw[h0,h1,h2,h3,h4,h5,z];rfl
theorem s8 {t:Stm}(j:Nat)(h:GK t j=false):t.rng=false:=by
 unfold Stm.rng
 match j,h with
 |0,h=>have h:fE t.y 0 9999=false:=h;simp[h]
 |1,h=>have h:fE t.m 1 12=false:=h;simp[h]
 |2,h=>have h:fE t.d 1 t.day=false:=h;simp[h]
 |3,h=>have h:fE t.h 0 23=false:=h;simp[h]
 |4,h=>have h:fE t.i 0 59=false:=h;simp[h]
 |n+5,h=>have h:fE t.s 0 59=false:=h;simp[h]
theorem Xn {t:Stm}(z:vK t.o=false):t.rng=false:=by
 unfold Stm.rng;rw[z];simp
theorem e_3 {t:Stm}(h:¬zH t.dn t.tn t.z t.h t.o):t.e=3:=by
 unfold Stm.e;rw[if_neg (λk=>h ((mg t).1 k))]
theorem e_2 {t:Stm}(h:zH t.dn t.tn t.z t.h t.o)(k:t.rng=false):t.e=2:=by
 unfold Stm.e;rw[if_pos ((mg t).2 h),k];rfl
theorem e_0 {t:Stm}(h:zH t.dn t.tn t.z t.h t.o)(k:t.rng=true):t.e=0:=by
 unfold Stm.e;rw[if_pos ((mg t).2 h),k];rfl
theorem mG {t:Stm}{k:Nat}(h:∀j,j<k->GK t j=true)(hk:GK t k=true):∀j,j<k+1->GK t j=true:=by
 intro j hj;rcases YY j k with g|g
 ·exact h j g
 ·rw[show j=k by omega];exact hk
theorem WS {p q:Prop}[Decidable p][Decidable q]:((decide p&&decide q)=true)↔p/\q:=by simp
theorem WT {p q:Prop}[Decidable p][Decidable q]:((decide p&&decide q)=false)↔¬(p/\q):=by simp
theorem wT {n lo hi:Int}(h:n= -1\/lo<=n/\n<=hi):fE n lo hi=true:=vS.2 h
theorem wF {n lo hi:Int}(h:¬(n= -1\/lo<=n/\n<=hi)):fE n lo hi=false:=UD.2 h
attribute [local irreducible] nf
theorem jS {G:Glo}(hS:ab G shapesTy)(t:Stm):ak prog G 147 [t.A] (.int .i64 t.e):=by
 have h1:=pH hS t.y t.m t.d;have h2:=pH hS t.h t.i t.s;have h3:=Oo (G:=G) t.y t.m;have k1:=λn lo hi (_:(0:Int)<=0)=>fF (G:=G) n lo hi;have h5:=jR (G:=G) t.o;have hE3:=e_3 (t:=t);have hE2:=e_2 (t:=t);have hE0:=e_0 (t:=t);unfold zH Stm.dn Stm.tn at hE3 hE2 hE0;refine mh func147 call147 λC hC hGL=> ?_;refine cut hC hGL [(1,.rop t.R 0),(2,.int .i64 0)] [] True ?_ λ_=> ?_
 ·exact bB
 refine cut hC hGL [(1,.rop t.R 0),(3,.int .i64 (nf (a6 t.y) (a6 t.m) (a6 t.d))),(4,.int .i64 (nf (a6 t.h) (a6 t.i) (a6 t.s)))] [] True ?_ λ_=> ?_
 ·refine ao ?_;refine bh mixed hC hGL false (λ(_:Unit)=>[(1,.rop t.R 0),(3,.int .i64 (nf (a6 t.y) (a6 t.m) (a6 t.d))),(4,.int .i64 (nf (a6 t.h) (a6 t.i) (a6 t.s)))]) (λ_=>[]) .p17 be ?_ ?_
  ·refine xn ?_;repeat' first|exact .n|apply Lc.mk
   all_goals intros
   all_goals exact⟨(),⟨rfl,rfl,rfl,trivial⟩,rfl⟩
  ·intro _;exact eK
 clear h1 h2;generalize nf (a6 t.y) (a6 t.m) (a6 t.d)=D at*
 generalize nf (a6 t.h) (a6 t.i) (a6 t.s)=T at*
 refine cut hC hGL [(1,.rop t.R 0),(3,.int .i64 D),(4,.int .i64 T)] [] (0<=D/\0<=T/\¬(D=0/\T=0)) ?_ λp1=> ?_
 ·clear hE2 hE0;refine xw ?_;repeat' first|exact .n|apply Lc.mk
  all_goals intros
  all_goals first|omega|(apply aj;refine congrArg (AVal.int .i64) ?_;rw[hE3 (λk=>by have:=k.1;omega)])
 refine cut hC hGL [(1,.rop t.R 0),(3,.int .i64 D),(4,.int .i64 T)] [] (0<D/\0<T->(D=3\/D=5\/D=6)/\T<=3) ?_ λp2=> ?_
 ·clear hE2 hE0;refine xw ?_;repeat' first|exact .n|apply Lc.mk
  all_goals intros
  all_goals first|omega|(apply aj;refine congrArg (AVal.int .i64) ?_;rw[hE3 (λk=>by have:=k.1.2.2.2;omega)])
 refine cut hC hGL [(1,.rop t.R 0)] [] ((t.z=true->t.h≠ -1)/\(t.z=false->t.o=0)) ?_ λp3=> ?_
 ·clear hE2 hE0 p1 p2;refine xw ?_;repeat' first|exact .n|apply Lc.mk
  all_goals intros
  all_goals first
   |exact Bool.noConfusion ((show t.z=true by assumption).symm.trans (show t.z=false by assumption))
   |exact⟨λ_=>by assumption,λk=>Bool.noConfusion ((show t.z=true by assumption).symm.trans k)⟩
   |exact⟨λk=>Bool.noConfusion (k.symm.trans (show t.z=false by assumption)),λ_=>by assumption⟩
   |(apply aj;refine congrArg (AVal.int .i64) ?_;rw[hE3 (λk=>by have:=k.2;rw[if_pos (by assumption)] at this;omega)])
   |(apply aj;refine congrArg (AVal.int .i64) ?_;rw[hE3 (λk=>by have:=k.2;rw[if_neg (by rw[show t.z=false by assumption];decide)] at this;omega)])
 have hF:(0<=D/\0<=T/\¬(D=0/\T=0)/\(0<D/\0<T->(D=3\/D=5\/D=6)/\T<=3))/\(if t.z=true then t.h≠ -1 else t.o=0):=by
  refine⟨⟨p1.1,p1.2.1,p1.2.2,p2⟩,?_⟩;split
  ·exact p3.1 (by assumption)
  ·rename_i k;exact p3.2 (by simpa using k)
 have key2:=hE2 hF;have key0:=hE0 hF;clear hE2 hE0 hE3 hF p1 p2 p3;refine cut hC hGL [(1,.rop t.R 0),(5,.int .i64 31)] [] True ?_ λ_=> ?_
 ·exact bB
 refine gu hC hGL (λq:Int=>[(1,.rop t.R 0),(5,.int .i64 q)]) (λ_=>[]) (λq=>q=t.day) ?_ λq hq=> ?_
 ·refine xw ?_;repeat' first|exact .n|apply Lc.mk
  all_goals intros
  all_goals first
   |exact cy _ (by unfold Stm.day;rw[if_neg (by assumption)])
   |exact cy _ (by unfold Stm.day;rw[if_pos (by assumption)])
 subst hq;refine cut hC hGL [(1,.rop t.R 0)] [] (∀j,j<6->GK t j=true) ?_ λhj=> ?_
 ·refine aK ?_;refine lp hC hGL (λ(k:Nat)=>[(1,.rop t.R 0),(104,_),(105,.int .i64 6),(106,.int .i64 (k:Nat))]) (λ_=>[]) (λk=>k<=6/\∀j,j<k->GK t j=true) (λk=>6-k) 0 ?_ ah rfl ?_
  ·exact⟨a_,λj hj=>absurd hj a_⟩
  rintro k ⟨hk,hj⟩;rcases(show k=0\/k=1\/k=2\/k=3\/k=4\/k=5\/k=6 by omega) with rfl|rfl|rfl|rfl|rfl|rfl|rfl
  all_goals
   refine xw ?_;repeat' first|exact .n|apply Lc.mk
   all_goals intros
   all_goals try simp only[WS,WT] at*
   all_goals first
    |exact hj _ (by assumption)
    |exact ga 1 ⟨b_,mG hj (wT a_)⟩ b_ ah aF
    |exact ga 2 ⟨b_,mG hj (wT a_)⟩ b_ ah aF
    |exact ga 3 ⟨b_,mG hj (wT a_)⟩ b_ ah aF
    |exact ga 4 ⟨b_,mG hj (wT a_)⟩ b_ ah aF
    |exact ga 5 ⟨b_,mG hj (wT a_)⟩ b_ ah aF
    |exact ga 6 ⟨b_,mG hj (wT a_)⟩ b_ ah aF
    |(apply aj;refine congrArg (AVal.int .i64) ?_;first
     |rw[key2 (s8 0 (wF a_))]
     |rw[key2 (s8 1 (wF a_))]
     |rw[key2 (s8 2 (wF a_))]
     |rw[key2 (s8 3 (wF a_))]
     |rw[key2 (s8 4 (wF a_))]
     |rw[key2 (s8 5 (wF a_))])
 refine ay hC hGL ?_;refine xw ?_;repeat' first|exact .n|apply Lc.mk
 all_goals intros
 all_goals (apply aj;refine congrArg (AVal.int .i64) ?_;first|rw[key0 (Vg hj (by assumption))]|rw[key2 (Xn (by assumption))])
end
section
def Ys (i k:Nat):Bool:=([[false,false,false],[true,false,false],[true,true,false],[true,true,true],[false,true,false],[false,true,true],[false,false,true]].getD i []).getD k false
def gh (s:List UInt8)(a b:Nat):Prop:=∀j,a<=j->j<b->48<=aa s j/\aa s j<=57
theorem XI {α:Type}{l:List α}(h:l.length=4):∃a b c d,l=[a,b,c,d]:=by
 match l,h with
 |[a,b,c,d],_=>exact⟨a,b,c,d,rfl⟩
theorem Ya {s:List UInt8}(hl:s.length=4)(hd:gh s 0 4):Lib.atoiAll s= .ok (ki s 0):=by
 obtain⟨a,b,c,d,rfl⟩:=XI hl;have ha:48<=a.toNat/\a.toNat<=57:=hd 0 a_ a_;have hb:48<=b.toNat/\b.toNat<=57:=hd 1 a_ a_;have hc:48<=c.toNat/\c.toNat<=57:=hd 2 a_ a_;have hdd:48<=d.toNat/\d.toNat<=57:=hd 3 a_ a_;have e:ki [a,b,c,d] 0=10*(10*(10*((a.toNat:Int)-48)+((b.toNat:Int)-48))+((c.toNat:Int)-48))+((d.toNat:Int)-48):=rfl;have p:Lib.parseUint10 0 [a,b,c,d]= .ok ((((0*10+(a.toNat-48))*10+(b.toNat-48))*10+(c.toNat-48))*10+(d.toNat-48)):=by
  rw[Lib.parseUint10,if_pos ha,if_neg a_,if_neg a_,Lib.parseUint10,if_pos hb,if_neg a_,if_neg a_,Lib.parseUint10,if_pos hc,if_neg a_,if_neg a_,Lib.parseUint10,if_pos hdd,if_neg a_,if_neg a_,Lib.parseUint10]
 unfold Lib.atoiAll;dsimp only
 rw[if_neg a_];unfold Lib.parseMag;rw[if_neg (by simp),p];dsimp only
 rw[if_neg a_,if_neg a_,if_neg a_,e];congr 1
 omega
theorem ML {G:Glo}(s:List UInt8)(hl:s.length=4)(hd:gh s 0 4):ak prog G 117 [.str s] (.tuple [.int .i64 (ki s 0),.raw .nilIface]):=by
 have ha:=Ya hl hd;refine ik (.tuple #[.int .i64 (ki s 0),.nilIface]) (λR=>mO (aq.2 rfl) (ar.2 rfl)) call117 ?_;intro R args hr w _ _;obtain⟨x,t,e',hx,rfl⟩:=hr;obtain rfl:=aD.1 hx;obtain rfl:=fK e';refine(strconv_Atoi_ok ⟨s.toArray⟩ (by rw[bH];omega) _ (by simpa using ha) w).mono ?_;rintro e w' ⟨rfl,hw⟩;refine⟨rfl,?_⟩;rcases hw with rfl|⟨t,rfl⟩
 ·exact Below.refl _ _
 ·exact⟨rfl,rfl,rfl,by rw[Lib.bytesWorld_size];omega,λk hk=>Lib.bytesWorld_at_old _ _ _ _ hk⟩
abbrev KH (b:Nat)(t:List UInt8):HEnt:=.cells b (some 9) [.str t]
theorem lk {G:Glo}{m:Int}(hM:ab G (bP m))(i k:Nat)(hi:i<=6)(hk:k<3):ak prog G 145 [.str (j3 i),.str (([97,98,99].take (k+1)).drop k)] (.bool (Ys i k)):=by
 have:=jB (G:=G) hM (j3 i) (([97,98,99].take (k+1)).drop k);rcases(show k=0\/k=1\/k=2 by omega) with rfl|rfl|rfl<;>rcases(show i=0\/i=1\/i=2\/i=3\/i=4\/i=5\/i=6 by omega) with rfl|rfl|rfl|rfl|rfl|rfl|rfl<;>exact this b_
def sY (i:Nat)(s:List UInt8):Int:=if i=1\/i=2\/i=3 then ki s 0 else-1
def sM (i:Nat)(s:List UInt8):Int:=if i=2\/i=3 then dx s 4 else if i=4\/i=5 then dx s 0 else-1
def sD (i:Nat)(s:List UInt8):Int:=if i=3 then dx s 6 else if i=5 then dx s 2 else if i=6 then dx s 0 else-1
def sH (i:Nat)(s:List UInt8):Int:=if i=1\/i=2\/i=3 then dx s 0 else-1
def sI (i:Nat)(s:List UInt8):Int:=if i=2\/i=3 then dx s 2 else if i=4\/i=5 then dx s 0 else-1
def sS (i:Nat)(s:List UInt8):Int:=if i=3 then dx s 4 else if i=5 then dx s 2 else if i=6 then dx s 0 else-1
def dN (i:Nat):Nat:=[0,4,6,8,2,4,2].getD i 0
def cN (i:Nat):Nat:=[0,2,4,6,2,4,2].getD i 0
def TY (i j:Nat)(d c z:List UInt8):Stm×Int:=
 if z≠[]/\(bI z).2≠0 then(Stm.no,(bI z).2)
 else if(⟨sY i d,sM i d,sD i d,sH j c,sI j c,sS j c,decide (z≠[]),if z=[] then 0 else(bI z).1⟩:Stm).e=0 then(⟨sY i d,sM i d,sD i d,sH j c,sI j c,sS j c,decide (z≠[]),if z=[] then 0 else(bI z).1⟩,0)
 else(Stm.no,(⟨sY i d,sM i d,sD i d,sH j c,sI j c,sS j c,decide (z≠[]),if z=[] then 0 else(bI z).1⟩:Stm).e)
theorem fS {s:List UInt8}{a b:Nat}:dx (s.drop a) b=dx s (a+b):=by
 unfold dx bR;rw[cW,cW,Nat.add_assoc]
attribute [local irreducible] bG au aa az aR ab ad
attribute [local irreducible] Lib.contains
theorem Br {G:Glo}(b:Nat)(t:List UInt8)(h4:4<=t.length)(hl:t.length<=1000000)(hd:gh t 0 4):ad prog G 183 [.raw (pW b),.int .i64 4] [KH b t] (λr H=>r= .ret (.int .i64 (ki t 0))/\H=[KH b (t.drop 4)]):=by
 have k0:ak prog G 117 [.str (t.take 4)] (.tuple [.int .i64 (ki t 0),.raw .nilIface]):=by
  have:=ML (G:=G) (t.take 4) (by rw[i_];omega) (λj h1 h2=>by rw[gY h2];exact hd j h1 h2);have e:ki (t.take 4) 0=ki t 0:=by unfold ki bR;rw[gY a_,gY a_,gY a_,gY a_]
  rwa [e] at this
 have hGL:ab G []:=al;refine lE [(0,0,pW b)] func183 call183 rfl rfl rfl rfl (by repeat (first|exact trivial|refine And.intro ⟨rfl,rfl⟩ ?_)) ?_;intro C hC;exact ay hC hGL bB
theorem gj {G:Glo}(b:Nat)(t:List UInt8)(h4:2<=t.length)(hl:t.length<=1000000)(hd:gh t 0 2):ad prog G 183 [.raw (pW b),.int .i64 2] [KH b t] (λr H=>r= .ret (.int .i64 (dx t 0))/\H=[KH b (t.drop 2)]):=by
 have k0:ak prog G 117 [.str (t.take 2)] (.tuple [.int .i64 (dx t 0),.raw .nilIface]):=by
  have:=yH (G:=G) (t.take 2) (by rw[i_];omega) (by rw[gY a_];exact hd 0 a_ a_) (by rw[gY a_];exact hd 1 a_ a_);have e:10*bR (t.take 2) 0+bR (t.take 2) 1=dx t 0:=by unfold dx bR;rw[gY a_,gY a_]
  rwa [e] at this
 have hGL:ab G []:=al;refine lE [(0,0,pW b)] func183 call183 rfl rfl rfl rfl (by repeat (first|exact trivial|refine And.intro ⟨rfl,rfl⟩ ?_)) ?_;intro C hC;exact ay hC hGL bB
end
section
attribute [local irreducible] bG au aa az aR ab ad
attribute [local irreducible] Lib.contains bI gP
theorem cC {G:Glo}{m:Int}(hM:ab G (bP m))(hS:ab G shapesTy)(i j:Nat)(hi:i<=6)(hj:j<=6)(d c z:List UInt8)(hd:d.length=dN i)(hdd:gh d 0 (dN i))(hc:c.length=cN j)(hcc:gh c 0 (cN j))(hz:z.length<=1000000):
  ak prog G 135 [.str (j3 i),.str (j3 j),.str d,.str c,.str z] (.tuple [(TY i j d c z).1.A,.int .i64 (TY i j d c z).2]):=by
 have c0:=lk (G:=G) hM i 0 hi b_;have c1:=lk (G:=G) hM i 1 hi b_;have c2:=lk (G:=G) hM i 2 hi b_;have e0:=lk (G:=G) hM j 0 hj b_;have e1:=lk (G:=G) hM j 1 hj b_;have e2:=lk (G:=G) hM j 2 hj b_;have hR:=λu=>jS (G:=G) hS u;have hZ:=qu (G:=G) z a_;refine mh func135 call135 λC hC hGL=> ?_;refine gu hC hGL (λx:Nat×Nat×Nat=>[(0,.str (j3 i)),(1,.str (j3 j)),(4,.str z),(7,.own 0 (pW x.1)),(8,.own 1 (pW x.2.1)),(10,.own 2 (pW x.2.2))]) (λx=>[KH x.1 d,KH x.2.1 c,iP x.2.2 0 0 0 0 0 0 false 0]) (λ_=>True) ?_ λx _=> ?_
 ·refine Ra ?_;intro b7 b8 b10;exact cy (b7,b8,b10) trivial
 obtain⟨b7,b8,b10⟩:=x;dsimp only
 refine gu hC hGL (λb12:Nat=>[(0,.str (j3 i)),(1,.str (j3 j)),(4,.str z),(7,.own 0 (pW b7)),(8,.own 1 (pW b8)),(10,.own 2 (pW b10)),(12,.own 3 (pW b12))]) (λb12=>[KH b7 d,KH b8 c,iP b10 0 0 0 0 0 0 false 0,iP b12 (-1) (-1) (-1) (-1) (-1) (-1) false 0]) (λ_=>True) ?_ λb12 _=> ?_
 ·refine ao ?_;intro b12;exact cy b12 trivial
 refine cut hC hGL [(0,.str (j3 i)),(1,.str (j3 j)),(4,.str z),(7,.own 0 (pW b7)),(8,.own 1 (pW b8)),(10,.own 2 (pW b10)),(12,.own 3 (pW b12)),(13,.func (.func 183) [] [])] [KH b7 d,KH b8 c,iP b10 0 0 0 0 0 0 false 0,iP b12 (-1) (-1) (-1) (-1) (-1) (-1) false 0] True eK λ_=> ?_;refine gu hC hGL (λ_:List UInt8=>[(1,.str (j3 j)),(4,.str z),(8,.own 1 (pW b8)),(10,.own 2 (pW b10)),(12,.own 3 (pW b12)),(13,.func (.func 183) [] [])]) (λx=>[KH b7 x,KH b8 c,iP b10 0 0 0 0 0 0 false 0,iP b12 (sY i d) (sM i d) (sD i d) (-1) (-1) (-1) false 0]) (λ_=>True) ?_ λd' _=> ?_
 ·refine ao ?_;refine mQ hC hGL 4 ?_;rcases(show i=0\/i=1\/i=2\/i=3\/i=4\/i=5\/i=6 by omega) with rfl|rfl|rfl|rfl|rfl|rfl|rfl
  ·have hd:d.length=0:=hd;have hdd:gh d 0 0:=hdd;refine ao ?_;intros;exact cy (d) trivial
  ·have hd:d.length=4:=hd;have hdd:gh d 0 4:=hdd;have f0:=Br (G:=G) b7 d a_ a_ (λj g1 g2=>hdd j g1 a_);refine ao ?_;intros;exact cy (d.drop 4) trivial
  ·have hd:d.length=6:=hd;have hdd:gh d 0 6:=hdd;have f0:=Br (G:=G) b7 d a_ a_ (λj g1 g2=>hdd j g1 a_);have f1:=gj (G:=G) b7 (d.drop 4) (by simp only[k_];omega) (by simp only[k_];omega) (λj g1 g2=>by rw[cW];exact hdd _ a_ a_);rw[show dx (d.drop 4) 0=dx d 4 by rw[fS]] at f1;refine ao ?_;intros;exact cy ((d.drop 4).drop 2) trivial
  ·have hd:d.length=8:=hd;have hdd:gh d 0 8:=hdd;have f0:=Br (G:=G) b7 d a_ a_ (λj g1 g2=>hdd j g1 a_);have f1:=gj (G:=G) b7 (d.drop 4) (by simp only[k_];omega) (by simp only[k_];omega) (λj g1 g2=>by rw[cW];exact hdd _ a_ a_);rw[show dx (d.drop 4) 0=dx d 4 by rw[fS]] at f1;have f2:=gj (G:=G) b7 ((d.drop 4).drop 2) (by simp only[k_];omega) (by simp only[k_];omega) (λj g1 g2=>by rw[cW,cW];exact hdd _ a_ a_);rw[show dx ((d.drop 4).drop 2) 0=dx d 6 by rw[fS,fS]] at f2;refine ao ?_;intros;exact cy (((d.drop 4).drop 2).drop 2) trivial
  ·have hd:d.length=2:=hd;have hdd:gh d 0 2:=hdd;have f0:=gj (G:=G) b7 d a_ a_ (λj g1 g2=>hdd j g1 a_);refine ao ?_;intros;exact cy (d.drop 2) trivial
  ·have hd:d.length=4:=hd;have hdd:gh d 0 4:=hdd;have f0:=gj (G:=G) b7 d a_ a_ (λj g1 g2=>hdd j g1 a_);have f1:=gj (G:=G) b7 (d.drop 2) (by simp only[k_];omega) (by simp only[k_];omega) (λj g1 g2=>by rw[cW];exact hdd _ a_ a_);rw[show dx (d.drop 2) 0=dx d 2 by rw[fS]] at f1;refine ao ?_;intros;exact cy ((d.drop 2).drop 2) trivial
  ·have hd:d.length=2:=hd;have hdd:gh d 0 2:=hdd;have f0:=gj (G:=G) b7 d a_ a_ (λj g1 g2=>hdd j g1 a_);refine ao ?_;intros;exact cy (d.drop 2) trivial
 refine gu hC hGL (λ_:List UInt8=>[(4,.str z),(10,.own 2 (pW b10)),(12,.own 3 (pW b12))]) (λx=>[KH b7 d',KH b8 x,iP b10 0 0 0 0 0 0 false 0,iP b12 (sY i d) (sM i d) (sD i d) (sH j c) (sI j c) (sS j c) false 0]) (λ_=>True) ?_ λc' _=> ?_
 ·generalize sY i d=y0;generalize sM i d=m0;generalize sD i d=d0;refine ao ?_;refine mQ hC hGL 4 ?_;rcases(show j=0\/j=1\/j=2\/j=3\/j=4\/j=5\/j=6 by omega) with rfl|rfl|rfl|rfl|rfl|rfl|rfl
  ·have hc:c.length=0:=hc;have hcc:gh c 0 0:=hcc;refine ao ?_;intros;exact cy (c) trivial
  ·have hc:c.length=2:=hc;have hcc:gh c 0 2:=hcc;have f0:=gj (G:=G) b8 c a_ a_ (λj g1 g2=>hcc j g1 a_);refine ao ?_;intros;exact cy (c.drop 2) trivial
  ·have hc:c.length=4:=hc;have hcc:gh c 0 4:=hcc;have f0:=gj (G:=G) b8 c a_ a_ (λj g1 g2=>hcc j g1 a_);have f1:=gj (G:=G) b8 (c.drop 2) (by simp only[k_];omega) (by simp only[k_];omega) (λj g1 g2=>by rw[cW];exact hcc _ a_ a_);rw[show dx (c.drop 2) 0=dx c 2 by rw[fS]] at f1;refine ao ?_;intros;exact cy ((c.drop 2).drop 2) trivial
  ·have hc:c.length=6:=hc;have hcc:gh c 0 6:=hcc;have f0:=gj (G:=G) b8 c a_ a_ (λj g1 g2=>hcc j g1 a_);have f1:=gj (G:=G) b8 (c.drop 2) (by simp only[k_];omega) (by simp only[k_];omega) (λj g1 g2=>by rw[cW];exact hcc _ a_ a_);rw[show dx (c.drop 2) 0=dx c 2 by rw[fS]] at f1;have f2:=gj (G:=G) b8 ((c.drop 2).drop 2) (by simp only[k_];omega) (by simp only[k_];omega) (λj g1 g2=>by rw[cW,cW];exact hcc _ a_ a_);rw[show dx ((c.drop 2).drop 2) 0=dx c 4 by rw[fS,fS]] at f2;refine ao ?_;intros;exact cy (((c.drop 2).drop 2).drop 2) trivial
  ·have hc:c.length=2:=hc;have hcc:gh c 0 2:=hcc;have f0:=gj (G:=G) b8 c a_ a_ (λj g1 g2=>hcc j g1 a_);refine ao ?_;intros;exact cy (c.drop 2) trivial
  ·have hc:c.length=4:=hc;have hcc:gh c 0 4:=hcc;have f0:=gj (G:=G) b8 c a_ a_ (λj g1 g2=>hcc j g1 a_);have f1:=gj (G:=G) b8 (c.drop 2) (by simp only[k_];omega) (by simp only[k_];omega) (λj g1 g2=>by rw[cW];exact hcc _ a_ a_);rw[show dx (c.drop 2) 0=dx c 2 by rw[fS]] at f1;refine ao ?_;intros;exact cy ((c.drop 2).drop 2) trivial
  ·have hc:c.length=2:=hc;have hcc:gh c 0 2:=hcc;have f0:=gj (G:=G) b8 c a_ a_ (λj g1 g2=>hcc j g1 a_);refine ao ?_;intros;exact cy (c.drop 2) trivial
 unfold TY;generalize sY i d=y0;generalize sM i d=m0;generalize sD i d=d0;generalize sH j c=h0;generalize sI j c=i0;generalize sS j c=s0;by_cases hz0:z=[]
 ·subst hz0;have hR0:ak prog G 147 [.agg [.int .i64 y0,.int .i64 m0,.int .i64 d0,.int .i64 h0,.int .i64 i0,.int .i64 s0,.bool false,.int .i64 0]] (.int .i64 (⟨y0,m0,d0,h0,i0,s0,false,0⟩:Stm).e):=hR ⟨y0,m0,d0,h0,i0,s0,false,0⟩;rw[if_neg (by simp)];simp only[Zc,show decide (([]:List UInt8)≠[])=false from rfl];generalize (⟨y0,m0,d0,h0,i0,s0,false,0⟩:Stm).e=e at*
  by_cases he:e=0
  ·rw[if_pos he];exact ay hC hGL bB
  ·rw[if_neg he];exact ay hC hGL bB
 ·have hlz:z.length≠0:=λh=>hz0 (s_ h);have hR0:ak prog G 147 [.agg [.int .i64 y0,.int .i64 m0,.int .i64 d0,.int .i64 h0,.int .i64 i0,.int .i64 s0,.bool true,.int .i64 (bI z).1]] (.int .i64 (⟨y0,m0,d0,h0,i0,s0,true,(bI z).1⟩:Stm).e):=hR ⟨y0,m0,d0,h0,i0,s0,true,(bI z).1⟩;simp only[if_neg hz0,decide_eq_true hz0];by_cases hv:(bI z).2=0
  ·rw[if_neg (λh=>h.2 hv)];generalize (⟨y0,m0,d0,h0,i0,s0,true,(bI z).1⟩:Stm).e=e at*
   by_cases he:e=0
   ·rw[if_pos he];exact ay hC hGL bB
   ·rw[if_neg he];exact ay hC hGL bB
  ·rw[if_pos ⟨hz0,hv⟩];exact ay hC hGL bB
end
section
theorem lQ {a:UInt8}(h:48<=a.toNat/\a.toNat<=57):(a != 45)=true:=by
 rw[bne_iff_ne];rintro rfl;exact absurd h b_
theorem MZ {a:UInt8}(h:a.toNat=45):(a != 45)=false:=by
 obtain rfl:a=45:=UInt8.toNat_inj.1 h;rfl
theorem io {s u:List UInt8}{i:Nat}(h:aP s=u)(hi:i<u.length)(h45:aa u i=45):aa s i=45:=(ny a_).1 (((ec h).2 i hi).trans h45)
theorem K1 {s:List UInt8}(h:aP s=bQ 0):(aI 45 s).length=0/\gh (aI 45 s) 0 0/\sY 0 (aI 45 s)=dY 0 s/\sM 0 (aI 45 s)=dM 0 s/\sD 0 (aI 45 s)=dD 0 s:=by
 obtain rfl:s=[]:=s_ (ec h).1;exact⟨rfl,λj _ h=>absurd h (Uf _),rfl,rfl,rfl⟩
theorem KZ {s:List UInt8}(h:aP s=bQ 1):(aI 45 s).length=4/\gh (aI 45 s) 0 4/\sY 1 (aI 45 s)=dY 1 s/\sM 1 (aI 45 s)=dM 1 s/\sD 1 (aI 45 s)=dD 1 s:=by
 have hl:s.length=4:=(ec h).1;have f0:=a8 h (i:=0) b_ b_;have f1:=a8 h (i:=1) b_ b_;have f2:=a8 h (i:=2) b_ b_;have f3:=a8 h (i:=3) b_ b_
 match s,hl with
 |[a,b,c,d],_=>
  have f0:48<=a.toNat/\a.toNat<=57:=f0;have f1:48<=b.toNat/\b.toNat<=57:=f1;have f2:48<=c.toNat/\c.toNat<=57:=f2;have f3:48<=d.toNat/\d.toNat<=57:=f3;have e:aI 45 [a,b,c,d]=[a,b,c,d]:=by simp only[aI,List.filter,lQ f0,lQ f1,lQ f2,lQ f3]
  rw[e];refine⟨rfl,λj _ hj=> ?_,rfl,rfl,rfl⟩;rcases(show j=0\/j=1\/j=2\/j=3 by omega) with rfl|rfl|rfl|rfl
  ·exact f0
  ·exact f1
  ·exact f2
  ·exact f3
theorem KY {s:List UInt8}(h:aP s=bQ 2):(aI 45 s).length=6/\gh (aI 45 s) 0 6/\sY 2 (aI 45 s)=dY 2 s/\sM 2 (aI 45 s)=dM 2 s/\sD 2 (aI 45 s)=dD 2 s:=by
 have hl:s.length=7:=(ec h).1;have f0:=a8 h (i:=0) b_ b_;have f1:=a8 h (i:=1) b_ b_;have f2:=a8 h (i:=2) b_ b_;have f3:=a8 h (i:=3) b_ b_;have f4:=io h (i:=4) b_ b_;have f5:=a8 h (i:=5) b_ b_;have f6:=a8 h (i:=6) b_ b_
 match s,hl with
 |[a,b,c,d,e,f,g],_=>
  have f0:48<=a.toNat/\a.toNat<=57:=f0;have f1:48<=b.toNat/\b.toNat<=57:=f1;have f2:48<=c.toNat/\c.toNat<=57:=f2;have f3:48<=d.toNat/\d.toNat<=57:=f3;have f4:e.toNat=45:=f4;have f5:48<=f.toNat/\f.toNat<=57:=f5;have f6:48<=g.toNat/\g.toNat<=57:=f6;have e:aI 45 [a,b,c,d,e,f,g]=[a,b,c,d,f,g]:=by simp only[aI,List.filter,lQ f0,lQ f1,lQ f2,lQ f3,MZ f4,lQ f5,lQ f6]
  rw[e];refine⟨rfl,λj _ hj=> ?_,rfl,rfl,rfl⟩;rcases(show j=0\/j=1\/j=2\/j=3\/j=4\/j=5 by omega) with rfl|rfl|rfl|rfl|rfl|rfl
  ·exact f0
  ·exact f1
  ·exact f2
  ·exact f3
  ·exact f5
  ·exact f6
theorem KX {s:List UInt8}(h:aP s=bQ 3):(aI 45 s).length=8/\gh (aI 45 s) 0 8/\sY 3 (aI 45 s)=dY 3 s/\sM 3 (aI 45 s)=dM 3 s/\sD 3 (aI 45 s)=dD 3 s:=by
 have hl:s.length=8:=(ec h).1;have f0:=a8 h (i:=0) b_ b_;have f1:=a8 h (i:=1) b_ b_;have f2:=a8 h (i:=2) b_ b_;have f3:=a8 h (i:=3) b_ b_;have f4:=a8 h (i:=4) b_ b_;have f5:=a8 h (i:=5) b_ b_;have f6:=a8 h (i:=6) b_ b_;have f7:=a8 h (i:=7) b_ b_
 match s,hl with
 |[a,b,c,d,e,f,g,h],_=>
  have f0:48<=a.toNat/\a.toNat<=57:=f0;have f1:48<=b.toNat/\b.toNat<=57:=f1;have f2:48<=c.toNat/\c.toNat<=57:=f2;have f3:48<=d.toNat/\d.toNat<=57:=f3;have f4:48<=e.toNat/\e.toNat<=57:=f4;have f5:48<=f.toNat/\f.toNat<=57:=f5;have f6:48<=g.toNat/\g.toNat<=57:=f6;have f7:48<=h.toNat/\h.toNat<=57:=f7;have e:aI 45 [a,b,c,d,e,f,g,h]=[a,b,c,d,e,f,g,h]:=by simp only[aI,List.filter,lQ f0,lQ f1,lQ f2,lQ f3,lQ f4,lQ f5,lQ f6,lQ f7]
  rw[e];refine⟨rfl,λj _ hj=> ?_,rfl,rfl,rfl⟩;rcases(show j=0\/j=1\/j=2\/j=3\/j=4\/j=5\/j=6\/j=7 by omega) with rfl|rfl|rfl|rfl|rfl|rfl|rfl|rfl
  ·exact f0
  ·exact f1
  ·exact f2
  ·exact f3
  ·exact f4
  ·exact f5
  ·exact f6
  ·exact f7
theorem KW {s:List UInt8}(h:aP s=bQ 4):(aI 45 s).length=2/\gh (aI 45 s) 0 2/\sY 4 (aI 45 s)=dY 4 s/\sM 4 (aI 45 s)=dM 4 s/\sD 4 (aI 45 s)=dD 4 s:=by
 have hl:s.length=4:=(ec h).1;have f0:=io h (i:=0) b_ b_;have f1:=io h (i:=1) b_ b_;have f2:=a8 h (i:=2) b_ b_;have f3:=a8 h (i:=3) b_ b_
 match s,hl with
 |[a,b,c,d],_=>
  have f0:a.toNat=45:=f0;have f1:b.toNat=45:=f1;have f2:48<=c.toNat/\c.toNat<=57:=f2;have f3:48<=d.toNat/\d.toNat<=57:=f3;have e:aI 45 [a,b,c,d]=[c,d]:=by simp only[aI,List.filter,MZ f0,MZ f1,lQ f2,lQ f3]
  rw[e];refine⟨rfl,λj _ hj=> ?_,rfl,rfl,rfl⟩;rcases(show j=0\/j=1 by omega) with rfl|rfl
  ·exact f2
  ·exact f3
theorem KV {s:List UInt8}(h:aP s=bQ 5):(aI 45 s).length=4/\gh (aI 45 s) 0 4/\sY 5 (aI 45 s)=dY 5 s/\sM 5 (aI 45 s)=dM 5 s/\sD 5 (aI 45 s)=dD 5 s:=by
 have hl:s.length=6:=(ec h).1;have f0:=io h (i:=0) b_ b_;have f1:=io h (i:=1) b_ b_;have f2:=a8 h (i:=2) b_ b_;have f3:=a8 h (i:=3) b_ b_;have f4:=a8 h (i:=4) b_ b_;have f5:=a8 h (i:=5) b_ b_
 match s,hl with
 |[a,b,c,d,e,f],_=>
  have f0:a.toNat=45:=f0;have f1:b.toNat=45:=f1;have f2:48<=c.toNat/\c.toNat<=57:=f2;have f3:48<=d.toNat/\d.toNat<=57:=f3;have f4:48<=e.toNat/\e.toNat<=57:=f4;have f5:48<=f.toNat/\f.toNat<=57:=f5;have e:aI 45 [a,b,c,d,e,f]=[c,d,e,f]:=by simp only[aI,List.filter,MZ f0,MZ f1,lQ f2,lQ f3,lQ f4,lQ f5]
  rw[e];refine⟨rfl,λj _ hj=> ?_,rfl,rfl,rfl⟩;rcases(show j=0\/j=1\/j=2\/j=3 by omega) with rfl|rfl|rfl|rfl
  ·exact f2
  ·exact f3
  ·exact f4
  ·exact f5
theorem KU {s:List UInt8}(h:aP s=bQ 6):(aI 45 s).length=2/\gh (aI 45 s) 0 2/\sY 6 (aI 45 s)=dY 6 s/\sM 6 (aI 45 s)=dM 6 s/\sD 6 (aI 45 s)=dD 6 s:=by
 have hl:s.length=5:=(ec h).1;have f0:=io h (i:=0) b_ b_;have f1:=io h (i:=1) b_ b_;have f2:=io h (i:=2) b_ b_;have f3:=a8 h (i:=3) b_ b_;have f4:=a8 h (i:=4) b_ b_
 match s,hl with
 |[a,b,c,d,e],_=>
  have f0:a.toNat=45:=f0;have f1:b.toNat=45:=f1;have f2:c.toNat=45:=f2;have f3:48<=d.toNat/\d.toNat<=57:=f3;have f4:48<=e.toNat/\e.toNat<=57:=f4;have e:aI 45 [a,b,c,d,e]=[d,e]:=by simp only[aI,List.filter,MZ f0,MZ f1,MZ f2,lQ f3,lQ f4]
  rw[e];refine⟨rfl,λj _ hj=> ?_,rfl,rfl,rfl⟩;rcases(show j=0\/j=1 by omega) with rfl|rfl
  ·exact f3
  ·exact f4
theorem Dq {s:List UInt8}{i:Nat}(hi:i<=6)(h:aP s=bQ i):(aI 45 s).length=dN i/\gh (aI 45 s) 0 (dN i)/\sY i (aI 45 s)=dY i s/\sM i (aI 45 s)=dM i s/\sD i (aI 45 s)=dD i s:=by
 rcases(show i=0\/i=1\/i=2\/i=3\/i=4\/i=5\/i=6 by omega) with rfl|rfl|rfl|rfl|rfl|rfl|rfl
 ·exact K1 h
 ·exact KZ h
 ·exact KY h
 ·exact KX h
 ·exact KW h
 ·exact KV h
 ·exact KU h
theorem Nu {s:List UInt8}(h:aP s=aX 0):(aI 45 s).length=0/\gh (aI 45 s) 0 0/\sH 0 (aI 45 s)=cH 0 s/\sI 0 (aI 45 s)=cI 0 s/\sS 0 (aI 45 s)=cS 0 s:=by
 obtain rfl:s=[]:=s_ (ec h).1;exact⟨rfl,λj _ h=>absurd h (Uf _),rfl,rfl,rfl⟩
theorem Nt {s:List UInt8}(h:aP s=aX 1):(aI 45 s).length=2/\gh (aI 45 s) 0 2/\sH 1 (aI 45 s)=cH 1 s/\sI 1 (aI 45 s)=cI 1 s/\sS 1 (aI 45 s)=cS 1 s:=by
 have hl:s.length=2:=(ec h).1;have f0:=a8 h (i:=0) b_ b_;have f1:=a8 h (i:=1) b_ b_
 match s,hl with
 |[a,b],_=>
  have f0:48<=a.toNat/\a.toNat<=57:=f0;have f1:48<=b.toNat/\b.toNat<=57:=f1;have e:aI 45 [a,b]=[a,b]:=by simp only[aI,List.filter,lQ f0,lQ f1]
  rw[e];refine⟨rfl,λj _ hj=> ?_,rfl,rfl,rfl⟩;rcases(show j=0\/j=1 by omega) with rfl|rfl
  ·exact f0
  ·exact f1
theorem Ns {s:List UInt8}(h:aP s=aX 2):(aI 45 s).length=4/\gh (aI 45 s) 0 4/\sH 2 (aI 45 s)=cH 2 s/\sI 2 (aI 45 s)=cI 2 s/\sS 2 (aI 45 s)=cS 2 s:=by
 have hl:s.length=4:=(ec h).1;have f0:=a8 h (i:=0) b_ b_;have f1:=a8 h (i:=1) b_ b_;have f2:=a8 h (i:=2) b_ b_;have f3:=a8 h (i:=3) b_ b_
 match s,hl with
 |[a,b,c,d],_=>
  have f0:48<=a.toNat/\a.toNat<=57:=f0;have f1:48<=b.toNat/\b.toNat<=57:=f1;have f2:48<=c.toNat/\c.toNat<=57:=f2;have f3:48<=d.toNat/\d.toNat<=57:=f3;have e:aI 45 [a,b,c,d]=[a,b,c,d]:=by simp only[aI,List.filter,lQ f0,lQ f1,lQ f2,lQ f3]
  rw[e];refine⟨rfl,λj _ hj=> ?_,rfl,rfl,rfl⟩;rcases(show j=0\/j=1\/j=2\/j=3 by omega) with rfl|rfl|rfl|rfl
  ·exact f0
  ·exact f1
  ·exact f2
  ·exact f3
theorem Nr {s:List UInt8}(h:aP s=aX 3):(aI 45 s).length=6/\gh (aI 45 s) 0 6/\sH 3 (aI 45 s)=cH 3 s/\sI 3 (aI 45 s)=cI 3 s/\sS 3 (aI 45 s)=cS 3 s:=by
 have hl:s.length=6:=(ec h).1;have f0:=a8 h (i:=0) b_ b_;have f1:=a8 h (i:=1) b_ b_;have f2:=a8 h (i:=2) b_ b_;have f3:=a8 h (i:=3) b_ b_;have f4:=a8 h (i:=4) b_ b_;have f5:=a8 h (i:=5) b_ b_
 match s,hl with
 |[a,b,c,d,e,f],_=>
  have f0:48<=a.toNat/\a.toNat<=57:=f0;have f1:48<=b.toNat/\b.toNat<=57:=f1;have f2:48<=c.toNat/\c.toNat<=57:=f2;have f3:48<=d.toNat/\d.toNat<=57:=f3;have f4:48<=e.toNat/\e.toNat<=57:=f4;have f5:48<=f.toNat/\f.toNat<=57:=f5;have e:aI 45 [a,b,c,d,e,f]=[a,b,c,d,e,f]:=by simp only[aI,List.filter,lQ f0,lQ f1,lQ f2,lQ f3,lQ f4,lQ f5]
  rw[e];refine⟨rfl,λj _ hj=> ?_,rfl,rfl,rfl⟩;rcases(show j=0\/j=1\/j=2\/j=3\/j=4\/j=5 by omega) with rfl|rfl|rfl|rfl|rfl|rfl
  ·exact f0
  ·exact f1
  ·exact f2
  ·exact f3
  ·exact f4
  ·exact f5
theorem Nq {s:List UInt8}(h:aP s=aX 4):(aI 45 s).length=2/\gh (aI 45 s) 0 2/\sH 4 (aI 45 s)=cH 4 s/\sI 4 (aI 45 s)=cI 4 s/\sS 4 (aI 45 s)=cS 4 s:=by
 have hl:s.length=3:=(ec h).1;have f0:=io h (i:=0) b_ b_;have f1:=a8 h (i:=1) b_ b_;have f2:=a8 h (i:=2) b_ b_
 match s,hl with
 |[a,b,c],_=>
  have f0:a.toNat=45:=f0;have f1:48<=b.toNat/\b.toNat<=57:=f1;have f2:48<=c.toNat/\c.toNat<=57:=f2;have e:aI 45 [a,b,c]=[b,c]:=by simp only[aI,List.filter,MZ f0,lQ f1,lQ f2]
  rw[e];refine⟨rfl,λj _ hj=> ?_,rfl,rfl,rfl⟩;rcases(show j=0\/j=1 by omega) with rfl|rfl
  ·exact f1
  ·exact f2
theorem Np {s:List UInt8}(h:aP s=aX 5):(aI 45 s).length=4/\gh (aI 45 s) 0 4/\sH 5 (aI 45 s)=cH 5 s/\sI 5 (aI 45 s)=cI 5 s/\sS 5 (aI 45 s)=cS 5 s:=by
 have hl:s.length=5:=(ec h).1;have f0:=io h (i:=0) b_ b_;have f1:=a8 h (i:=1) b_ b_;have f2:=a8 h (i:=2) b_ b_;have f3:=a8 h (i:=3) b_ b_;have f4:=a8 h (i:=4) b_ b_
 match s,hl with
 |[a,b,c,d,e],_=>
  have f0:a.toNat=45:=f0;have f1:48<=b.toNat/\b.toNat<=57:=f1;have f2:48<=c.toNat/\c.toNat<=57:=f2;have f3:48<=d.toNat/\d.toNat<=57:=f3;have f4:48<=e.toNat/\e.toNat<=57:=f4;have e:aI 45 [a,b,c,d,e]=[b,c,d,e]:=by simp only[aI,List.filter,MZ f0,lQ f1,lQ f2,lQ f3,lQ f4]
  rw[e];refine⟨rfl,λj _ hj=> ?_,rfl,rfl,rfl⟩;rcases(show j=0\/j=1\/j=2\/j=3 by omega) with rfl|rfl|rfl|rfl
  ·exact f1
  ·exact f2
  ·exact f3
  ·exact f4
theorem No {s:List UInt8}(h:aP s=aX 6):(aI 45 s).length=2/\gh (aI 45 s) 0 2/\sH 6 (aI 45 s)=cH 6 s/\sI 6 (aI 45 s)=cI 6 s/\sS 6 (aI 45 s)=cS 6 s:=by
 have hl:s.length=4:=(ec h).1;have f0:=io h (i:=0) b_ b_;have f1:=io h (i:=1) b_ b_;have f2:=a8 h (i:=2) b_ b_;have f3:=a8 h (i:=3) b_ b_
 match s,hl with
 |[a,b,c,d],_=>
  have f0:a.toNat=45:=f0;have f1:b.toNat=45:=f1;have f2:48<=c.toNat/\c.toNat<=57:=f2;have f3:48<=d.toNat/\d.toNat<=57:=f3;have e:aI 45 [a,b,c,d]=[c,d]:=by simp only[aI,List.filter,MZ f0,MZ f1,lQ f2,lQ f3]
  rw[e];refine⟨rfl,λj _ hj=> ?_,rfl,rfl,rfl⟩;rcases(show j=0\/j=1 by omega) with rfl|rfl
  ·exact f2
  ·exact f3
theorem gy {s:List UInt8}{i:Nat}(hi:i<=6)(h:aP s=aX i):(aI 45 s).length=cN i/\gh (aI 45 s) 0 (cN i)/\sH i (aI 45 s)=cH i s/\sI i (aI 45 s)=cI i s/\sS i (aI 45 s)=cS i s:=by
 rcases(show i=0\/i=1\/i=2\/i=3\/i=4\/i=5\/i=6 by omega) with rfl|rfl|rfl|rfl|rfl|rfl|rfl
 ·exact Nu h
 ·exact Nt h
 ·exact Ns h
 ·exact Nr h
 ·exact Nq h
 ·exact Np h
 ·exact No h
theorem SZ (u:Stm):o5 u=if u.e=0 then(u,.none) else(Stm.no,.errno u.e):=rfl
theorem TX {i j:Nat}(hi:i<=6)(hj:j<=6){d c z:List UInt8}(hd:aP d=bQ i)(hc:aP c=aX j):
  TY i j (aI 45 d) (aI 45 c) z=if z≠[]/\(bI z).2≠0 then(Stm.no,(bI z).2) else((o5 (GB i d j c z)).1,(o5 (GB i d j c z)).2.e):=by
 obtain⟨-, -,e1,e2,e3⟩:=Dq hi hd;obtain⟨-, -,e4,e5,e6⟩:=gy hj hc;unfold TY;rw[e1,e2,e3,e4,e5,e6];split
 ·rfl
 ·rw[SZ];have e:(⟨dY i d,dM i d,dD i d,cH j c,cI j c,cS j c,decide (z≠[]),if z=[] then 0 else(bI z).1⟩:Stm)=GB i d j c z:=rfl;rw[e];by_cases h:(GB i d j c z).e=0
  ·rw[if_pos h,if_pos h];rfl
  ·rw[if_neg h,if_neg h];rfl
theorem Hq {P u:List UInt8}{n:Nat}(hn:n<P.length)(h:aa P n≠aa u n):P.isPrefixOf u=false:=by
 rw[Bool.eq_false_iff];intro hp;rw[List.isPrefixOf_iff_prefix] at hp;obtain⟨t,rfl⟩:=hp;apply h;unfold aa;simp only[f_];rw[H_ hn]
theorem wY {P u:List UInt8}(hn:u.length<P.length):P.isPrefixOf u=false:=by
 rw[Bool.eq_false_iff];intro hp;rw[List.isPrefixOf_iff_prefix] at hp;have:=hp.length_le;omega
theorem fP {r:Int}:0<=aS [90,43,45] r↔(r=90\/r=43\/r=45):=by
 have:=tI (a:=90) (b:=43) (c:=45) r;rw[this];simp
end
end Go.Proofs.YtnbaflecdkgihaaGreatDoor
