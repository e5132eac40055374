/- Parts of the proof of canonItems_card. -/
import Derived.Lib.ItoaNum
import Derived.Lib.Join
import Derived.Lib.Split
import Derived.Lib.Builder
import Derived.Lib.UnsafeStr
import Derived.Scope
import Derived.Lib.IndexAny
import Derived.Test.YtmdhmodenkjmdaaGreatDoorBae
set_option linter.unusedVariables false
set_option linter.unusedSimpArgs false
set_option linter.unusedSectionVars false
namespace Go.Proofs.YtmdhmodenkjmdaaGreatDoor
open Go Go.RowKit
open Tryz
set_option maxRecDepth 20000
set_option maxHeartbeats 4000000
section
def cg (n:Int):List UInt8:=bw [48+n/10,48+n%10]
def sC (n:Int):Bool:=decide (-840<=n/\n<=840)
theorem wW {n:Int}:sC n=true↔(-840<=n/\n<=840):=by simp[sC]
def fY (n:Int):List UInt8:=if sC n then(if n=0 then[90] else if n<0 then([45]++cg ((0-n)/60))++cg ((0-n)%60) else([43]++cg (n/60))++cg (n%60)) else[]
def iw (n:Int):Err:=if sC n then .none else .errno 2
attribute [local irreducible] bI ap aa az aW ab ad
attribute [local irreducible] sC
theorem mo {G:Glo}(n:Int):an prog G 144 [.int .i64 n] (.bool (sC n)):=by
 refine aw func144 call144 λC hC hGL=> ?_;refine xw ?_;repeat' first|exact .n|apply Lc.mk
 all_goals intros
 all_goals (apply aj;refine congrArg AVal.bool ?_;rw[Bool.eq_iff_iff];simp only[wW,reduceCtorEq,false_iff,true_iff,Bool.not_eq_true',jU];omega)
theorem iz {G:Glo}(n:Int):an prog G 77 [.int .i64 n] (.bool (sC n)):=by
 refine aw func77 call77 λC hC hGL=> ?_;have hw:=dV (G:=G) n (-840) 840;refine aZ ?_;intros;apply aj;refine congrArg AVal.bool ?_;rw[Bool.eq_iff_iff,wW];simp
theorem Fx {G:Glo}(n:Int)(h0:0<=n)(h1:n<100):an prog G 201 [.int .i64 n] (.str (cg n)):=by
 refine aw func201 call201 λC hC hGL=> ?_;refine aZ ?_;intros;refine aO hC hGL (cb [_,_] rfl (by intro v hv;simp only[List.mem_cons,List.not_mem_nil,or_false] at hv;omega) rfl rfl rfl rfl rfl rfl) rfl rfl ?_;exact bK
theorem fL (n:Int):(cg n).length=2:=rfl
attribute [local irreducible] cg
theorem qh {G:Glo}(n:Int):an prog G 151 [.int .i64 n] (.tuple [.str (fY n),(iw n).A]):=by
 refine aw func151 call151 λC hC hGL=> ?_;have h1:=mo (G:=G) n;have k2:=λk h0 h1=>Fx (G:=G) k h0 h1;have l1:=fL ((0-n)/60);have l2:=fL ((0-n)%60)
 have l3:=fL (n/60)
 have l4:=fL (n%60)
 cases hz:sC n with
 |false=>
  rw[hz] at h1
  refine aZ ?_
  intros
  apply aj
  rw[fY,iw,hz]
  rfl
 |true=>
  rw[hz] at h1
  have hz2:=wW.1 hz
  refine xw ?_
  repeat' first|exact .n|apply Lc.mk
  all_goals intros
  ·apply aj
   rw[fY,iw,hz,if_pos rfl,if_pos (by omega)]
   rfl
  ·apply aj
   rw[fY,iw,hz,if_pos rfl,if_neg (by omega),if_pos (by omega)]
   rfl
  ·apply aj
   rw[fY,iw,hz,if_pos rfl,if_neg (by omega),if_neg (by omega)]
   rfl
theorem pJ {G:Glo}(i:Nat)(hi:i<100):an prog G 188 [.int .i64 (i:Int),.int .i64 10] (.str (Lib.decDigits i)):=by
 refine cj rfl call188 ?_;intro R args hr w _ _;obtain⟨x,t,e,hx,y,t',e',hy,rfl⟩:=hr;have hx:=am.1 hx;have hy:=am.1 hy;subst hx hy;obtain rfl:args=#[.int .i64 (i:Int),.int .i64 10]:=by cases args;simp_all
 refine(strconv_FormatInt_10_small i hi w).mono ?_;rintro e w' ⟨rfl,rfl⟩;exact⟨rfl,Below.refl _ _⟩
theorem iE {i:Nat}(h:i<10):Lib.decDigits i=[UInt8.ofNat (48+i)]:=by
 rw[Lib.decDigits,dif_pos h]
theorem iD {i:Nat}(h:10<=i)(h1:i<100):Lib.decDigits i=[UInt8.ofNat (48+i/10),UInt8.ofNat (48+i%10)]:=by
 rw[Lib.decDigits,dif_neg (by omega),iE (by omega)];rfl
theorem FJ (i:Nat):cg (i:Int)=[UInt8.ofNat (48+i/10),UInt8.ofNat (48+i%10)]:=by
 unfold cg bw;simp only[List.map];rw[show(48+(i:Int)/10).toNat=48+i/10 by omega,show(48+(i:Int)%10).toNat=48+i%10 by omega]
theorem kx {G:Glo}(i:Nat)(h1:i<100):an prog G 134 [.int .i64 (i:Int),.int .i64 10,.int .i64 2] (.str (cg i)):=by
 refine aw func134 call134 λC hC hGL=> ?_;have hf:=pJ (G:=G) i h1;rw[FJ];by_cases h:i<10
 ·rw[iE h] at hf;refine aZ ?_;intros;refine ja hC hGL 2 ?_;refine aZ ?_;intros;apply aj;rw[show i/10=0 by omega,show i%10=i by omega];rfl
 ·rw[iD (by omega) h1] at hf;refine aZ ?_;intros;refine ja hC hGL 1 ?_;exact bK
theorem lZ {G:Glo}(n:Int):an prog G 81 [.int .i64 n] (.tuple [.str (fY n),.int .i64 (iw n).e]):=by
 refine aw func81 call81 λC hC hGL=> ?_;have h1:=iz (G:=G) n;have k2:=λ(k:Int) (h0:0<=k) (h1:k<100)=>(show an prog G 134 [.int .i64 k,.int .i64 10,.int .i64 2] (.str (cg k)) by obtain⟨i,rfl⟩:=Int.eq_ofNat_of_zero_le h0;exact kx i (by omega));have l1:=fL ((0-n)/60);have l2:=fL ((0-n)%60);have l3:=fL (n/60);have l4:=fL (n%60);cases hz:sC n with
 |false=>
  rw[hz] at h1;refine aZ ?_;intros;apply aj;rw[fY,iw,hz];rfl
 |true=>
  rw[hz] at h1;have hz2:=wW.1 hz;refine xw ?_;repeat' first|exact .n|apply Lc.mk
  all_goals intros
  ·apply aj;rw[fY,iw,hz,if_pos rfl,if_pos (by omega)];rfl
  ·apply aj;rw[fY,iw,hz,if_pos rfl,if_neg (by omega),if_pos (by omega)];rfl
  ·apply aj;rw[fY,iw,hz,if_pos rfl,if_neg (by omega),if_neg (by omega)];rfl
end
section
def ar (n:Int):Bool:=decide (n≠ -1)
theorem jS {n:Int}:ar n=true↔n≠ -1:=by simp[ar]
theorem Cm {n:Int}:ar n=false↔n= -1:=by simp[ar]
def No (b:Bool):UInt8:=if b then 57 else 45
def sB (a b c:Bool):List UInt8:=[No a,No b,No c]
def cZ:Bool->Bool->Bool->Int
 |false,false,false=>0
 |true,false,false=>1
 |true,true,false=>2
 |true,true,true=>3
 |false,true,false=>4
 |false,true,true=>5
 |false,false,true=>6
 |true,false,true=> -1
def pL (y m:Int):Int:=
 if m<1\/12<m then 0
 else if m=2 then(if y≠ -1/\(y.tmod 4≠0\/y.tmod 100=0/\y.tmod 400≠0) then 28 else 29)
 else if m=4\/m=6\/m=9\/m=11 then 30 else 31
def dD (n lo hi:Int):Bool:=decide (n= -1\/lo<=n/\n<=hi)
theorem qk {n lo hi:Int}:dD n lo hi=true↔(n= -1\/lo<=n/\n<=hi):=by simp[dD]
theorem Ld {n lo hi:Int}:dD n lo hi=false↔¬(n= -1\/lo<=n/\n<=hi):=by simp[dD]
structure Stm where
 y:Int
 m:Int
 d:Int
 h:Int
 i:Int
 s:Int
 z:Bool
 o:Int
def Stm.A (t:Stm):AVal:=.agg [.int .i64 t.y,.int .i64 t.m,.int .i64 t.d,.int .i64 t.h,.int .i64 t.i,.int .i64 t.s,.bool t.z,.int .i64 t.o]
def L8 (d t:Int):Bool:=decide (0<=d/\0<=t/\¬(d=0/\t=0)/\(0<d/\0<t->(d=3\/d=5\/d=6)/\t<=3))
def Stm.dn (t:Stm):Int:=cZ (ar t.y) (ar t.m) (ar t.d)
def Stm.tn (t:Stm):Int:=cZ (ar t.h) (ar t.i) (ar t.s)
def Stm.frm (t:Stm):Bool:=L8 t.dn t.tn&&(if t.z then ar t.h else decide (t.o=0))
def Stm.day (t:Stm):Int:=if t.m= -1 then 31 else pL t.y t.m
def Stm.rng (t:Stm):Bool:=dD t.y 0 9999&&(dD t.m 1 12&&(dD t.d 1 t.day&&(dD t.h 0 23&&(dD t.i 0 59&&(dD t.s 0 59&&sC t.o)))))
def Stm.e (t:Stm):Int:=if t.frm then(if t.rng then 0 else 2) else 3
def Stm.E (t:Stm):Err:=if t.frm then(if t.rng then .none else .errno 2) else .errno 3
theorem Stm.E_e (t:Stm):t.E.e=t.e:=by unfold Stm.E Stm.e;(repeat' split)<;>rfl
theorem Stm.E_p (t:Stm):t.E.p= -1:=by unfold Stm.E;(repeat' split)<;>rfl
def fQ (n:Int):List UInt8:=bw [48+n/1000,48+n/100%10,48+n/10%10,48+n%10]
def kT (a b c:Bool)(y m d:Int):List UInt8:=match a,b,c with
 |true,false,false=>fQ y
 |true,true,false=>(fQ y++[45])++cg m
 |true,true,true=>(fQ y++cg m)++cg d
 |false,true,false=>[45,45]++cg m
 |false,true,true=>([45,45]++cg m)++cg d
 |false,false,true=>[45,45,45]++cg d
 |_,_,_=>[]
def jT (a b c:Bool)(h m s:Int):List UInt8:=match a,b,c with
 |true,false,false=>[84]++cg h
 |true,true,false=>([84]++cg h)++cg m
 |true,true,true=>(([84]++cg h)++cg m)++cg s
 |false,true,false=>([84]++[45])++cg m
 |false,true,true=>(([84]++[45])++cg m)++cg s
 |false,false,true=>(([84]++[45])++[45])++cg s
 |_,_,_=>[]
def Stm.txt (t:Stm):List UInt8:=kT (ar t.y) (ar t.m) (ar t.d) t.y t.m t.d++jT (ar t.h) (ar t.i) (ar t.s) t.h t.i t.s++(if t.z then fY t.o else[])
def Stm.T (t:Stm):List UInt8:=if t.frm then(if t.rng then t.txt else[]) else[]
def fR:List UInt8->List UInt8->List UInt8
 |[],_=>[]
 |c::r,all=>if c=57 then(match all with|x::t=>x::fR r t|[]=>[]) else c::fR r all
end
section
attribute [local irreducible] bI ap aa az aW ab ad
def j8 (c:Int):List UInt8->Nat->Int
 |[],_=> -1
 |x::t,k=>if(x.toNat:Int)=c then k else j8 c t (k+1)
def bQ (s:List UInt8)(c:Int):Int:=j8 c s 0
theorem ul {c:UInt8}(b:ByteArray):∀(t:List UInt8) (k:Nat),(∀j,j<t.length->b[k+j]! =t.getD j 0)->
  (match (List.range' k t.length).find? λi=>b[i]! ==c with|some i=>(i:Int)|none=> -1)=j8 (c.toNat:Int) t k
 |[],_,_=>by simp[j8]
 |x::t,k,h=>by
  have h0:=h 0 (by simp);simp only[Nat.add_zero,List.getD_cons_zero] at h0;rw[List.length_cons,List.range'_succ,List.find?_cons,h0];by_cases e:x=c
  ·subst e;simp[j8]
  ·have e1:(x==c)=false:=by simpa using e
   rw[e1];have e2:¬((x.toNat:Int)=(c.toNat:Int)):=by
    intro h;exact e (UInt8.toNat_inj.1 (by omega))
   simp only[j8,if_neg e2];exact ul b t (k+1) (λj hj=>by
    have:=h (j+1) (by simpa using hj);rw[show k+1+j=k+(j+1) by omega,this];simp)
theorem jk {G:Glo}(s:List UInt8)(c:Int)(h0:0<=c)(h1:c<=255):an prog G 174 [.str s,.int .u8 c] (.int .i64 (bQ s c)):=by
 refine cH func174 (by kernel_rfl) (by kernel_rfl) (by kernel_rfl) (e:=Go.Extern.BytealgIndexByte.indexByte) (by kernel_rfl) ?_;intro R args ha w;obtain⟨x,t,e,hx,y,t',e',hy,rfl⟩:=ha;have hx:=aF.1 hx;have hy:=am.1 hy;subst hx hy;obtain rfl:args=#[.string ⟨s.toArray⟩,.int .u8 c]:=by cases args;simp_all
 refine⟨.int .i64 (bQ s c),?_,am.2 rfl⟩;have hc:(c.toNat.toUInt8).toNat=c.toNat:=by
  show(UInt8.ofNat c.toNat).toNat=_;rw[UInt8.toNat_ofNat'];omega
 have key:=ul (c:=c.toNat.toUInt8) ⟨s.toArray⟩ s 0 (λj hj=>by
  rw[Nat.zero_add];rw[getElem!_pos (⟨s.toArray⟩:ByteArray) j (by rw[bT];exact hj)];show s.toArray[j]=_;simp[List.getD,hj])
 rw[hc,Int.toNat_of_nonneg h0] at key;have e:Go.Extern.BytealgIndexByte.indexByte #[.string ⟨s.toArray⟩,.int .u8 c]=(match (List.range (⟨s.toArray⟩:ByteArray).size).find? λi=>(⟨s.toArray⟩:ByteArray)[i]! ==c.toNat.toUInt8 with|some i=>pure (goInt i)|none=>pure (goInt (-1))):=rfl;rw[e,bT,List.range_eq_range'];unfold bQ;rw[<-key];generalize List.find? _ _=o;cases o<;>rfl
theorem ft {G:Glo}(s:List UInt8)(c:Int)(h0:0<=c)(h1:c<=255):an prog G 104 [.str s,.int .u8 c] (.int .i64 (bQ s c)):=by
 have hb:=jk (G:=G) s c h0 h1;refine aw func104 call104 λC hC hGL=> ?_;exact bK
theorem bB {G:Glo}(s:List UInt8)(c:Int)(h0:0<=c)(h1:c<=255):an prog G 55 [.str s,.int .u8 c] (.int .i64 (bQ s c)):=by
 have hb:=ft (G:=G) s c h0 h1;refine aw func55 call55 λC hC hGL=> ?_;exact bK
end
section
attribute [local irreducible] bI ap aa az aW ab ad
attribute [local irreducible] bQ
theorem pr {G:Glo}(s:List UInt8)(hs:s.length<=140737488355328)(ha:∀j,j<s.length->aa s j<128):an prog G 56 [.str s] (.str (Lib.toLowerA s)):=by
 refine cj rfl call56 ?_;intro R args hr w _ _;obtain⟨x,t,e,hx,rfl⟩:=hr;have hx:=aF.1 hx;subst hx;obtain rfl:args=#[.string ⟨s.toArray⟩]:=by cases args;simp_all
 have:=strings_ToLower_ascii ⟨s.toArray⟩ w (by rw[bT];exact hs) (λj b hb=>by
  have hb':s[j]? =some b:=by simpa using hb
  have hj:=(List.getElem?_eq_some_iff.1 hb').1;have h2:=ha j hj;unfold aa at h2;simpa[List.getD,hb'] using h2)
 simp only[AVal.conc];simpa using this
def fX:List UInt8:=[65,66,67,68,69,70,71,72,73,74,75,76,77,78,79,80,81,82,83,84,85,86,87,88,89,90]
def abcL:List UInt8:=[97,98,99,100,101,102,103,104,105,106,107,108,109,110,111,112,113,114,115,116,117,118,119,120,121,122]
def HT:List UInt8:=[48,49,50,51,52,53,54,55,56,57,45]
theorem ia {G:Glo}:an prog G 56 [.str fX] (.str abcL):=by
 have h:=pr (G:=G) fX (by decide) (by decide+kernel);have e:Lib.toLowerA fX=abcL:=by decide
 rwa [e] at h
theorem jo {p:Int->Bool}(h:∀c:Fin 256,p (c.1:Int)=true){c:Int}(h0:0<=c)(h1:c<=255):p c=true:=by
 have:=h ⟨c.toNat,by omega⟩;simpa only[Int.toNat_of_nonneg h0] using this
theorem rI {c:Int}(h0:0<=c)(h1:c<=255):decide (bQ ((fX++abcL)++HT) c<0)= !bY c:=by
 have:=jo (p:=λc=>decide (bQ ((fX++abcL)++HT) c<0)== !bY c) (by decide+kernel) h0 h1;simpa using this
theorem qO {G:Glo}(s:List UInt8)(hl:s.length<=9223372036854775807):an prog G 67 [.str s] (.bool (isS s)):=by
 refine aw func67 call67 λC hC hGL=> ?_;have hT:=ia (G:=G);have hI:=λc h0 h1=>bB (G:=G) ((fX++abcL)++HT) c h0 h1;have hW:=dV (G:=G) (s.length:Int) 1 40;repeat' (first|(conv=>whnf);first|refine .w ?_|refine .v ?_|refine bu ?_ ?_<;>(intro hb;try exact dd hb)|apply au|apply aM|(apply a6<;>intro hb)|(apply ba;intro hbd)|(apply bc;intro bl)|(apply bh;intro va vk vc hva)|(apply bg;intro v)|(apply bj;intro bl cap hcap)|apply bx|(apply bf<;>intro hnx)|apply ct mixed hC hGL (by kernel_rfl)|(show Rt _ _ _;exact a7)|fail)
 all_goals try conv=>whnf
 refine lp hC hGL (λ(i:Nat)=>[(0,.str s),(6,.own 0 (.slice (some ⟨bl,0,none⟩) s.length cap)),(7,.int .i64 s.length),(8,.int .i64 i)]) (λ_=>[.buf bl s cap]) (λi=>i<=s.length/\∀j,j<i->bY (aa s j)=true) (λi=>s.length-i) 0 ?_ ai rfl ?_
 ·exact⟨Nat.zero_le _,by intro j hj;omega⟩
 rintro i ⟨hi,hb0⟩;repeat' (first|(conv=>whnf);first|refine .w ?_|refine .v ?_|refine bu ?_ ?_<;>(intro hb;try exact dd hb)|apply au|apply aM|(apply a6<;>intro hb)|(apply ba;intro hbd)|(apply aJ;first|exact hT|exact hW|(exact hI _ (by omega) (by omega)))|(apply ax (i:=0) rfl;first|exact hT|exact hW|(exact hI _ (by omega) (by omega)))|(apply bc;intro bl)|(apply bh;intro va vk vc hva)|(apply bg;intro v)|(apply bj;intro bl cap hcap)|apply bx|(apply bf<;>intro hnx)|apply ct mixed hC hGL (by kernel_rfl)|(apply cq;assumption;(first|exact hT|exact hW|(exact hI _ (by omega) (by omega)));exact rfl)|(show Rt _ _ _;exact a7)|fail)
 all_goals try conv=>whnf
 ·apply aj;have hx:=rI (c:=(aa s i:Int)) (by omega) (by omega);rw[decide_eq_true hb] at hx;rw[isS,IH (j:=i) (by omega) (by simpa using hx.symm)];rfl
 ·have hx:=rI (c:=(aa s i:Int)) (by omega) (by omega);rw[decide_eq_false (by omega)] at hx;refine db (i+1) ?_ ?_ ai rfl
  ·exact⟨by omega,cB hb0 (by simpa using hx.symm)⟩
  ·omega
 ·apply aj;refine congrArg AVal.bool ?_;have ha:B6 bY s=true:=sx.2 λj hj=>hb0 j (by omega);simp only[isS,ha,Bool.true_and];rw[Bool.eq_iff_iff];simp only[Bool.and_eq_true,decide_eq_true_eq];omega
theorem Hm {c:Int}(h0:0<=c)(h1:c<=255):(if 0<=bQ abcL c then bQ abcL c<26/\(aa fX (bQ abcL c).toNat:Int)=dm 97 122 (-32) c.toNat else dm 97 122 (-32) c.toNat=c):=by
 have:=jo (p:=λc=>decide (if 0<=bQ abcL c then bQ abcL c<26/\(aa fX (bQ abcL c).toNat:Int)=dm 97 122 (-32) c.toNat else dm 97 122 (-32) c.toNat=c)) (by decide+kernel) h0 h1;simpa using this
theorem C1 {c:Int}(h0:0<=c)(h1:c<=255):(if 0<=bQ fX c then bQ fX c<26/\(aa abcL (bQ fX c).toNat:Int)=dm 65 90 32 c.toNat else dm 65 90 32 c.toNat=c):=by
 have:=jo (p:=λc=>decide (if 0<=bQ fX c then bQ fX c<26/\(aa abcL (bQ fX c).toNat:Int)=dm 65 90 32 c.toNat else dm 65 90 32 c.toNat=c)) (by decide+kernel) h0 h1;simpa using this
theorem i6 {G:Glo}(s:List UInt8)(hl:s.length<=9223372036854775807):an prog G 21 [.str s] (.str (ao 97 122 (-32) s)):=by
 refine aw func21 call21 λC hC hGL=> ?_;have hT:=ia (G:=G);have hcT:=call56;have hcI:=call55;have hI:=λc h0 h1=>bB (G:=G) abcL c h0 h1;have eU:fX.length=26:=rfl;repeat' (first|(conv=>whnf);first|refine .w ?_|refine .v ?_|refine bu ?_ ?_<;>(intro hb;try exact dd hb)|apply au|apply aM|(apply a6<;>intro hb)|(apply ba;intro hbd)|(apply bc;intro bl)|(apply bh;intro va vk vc hva)|(apply bg;intro v)|(apply bj;intro bl cap hcap)|apply bx|(apply bf<;>intro hnx)|apply ct mixed hC hGL (by kernel_rfl)|(show Rt _ _ _;exact a7)|fail)
 all_goals try conv=>whnf
 refine lp hC hGL (λ(x:Nat×List UInt8)=>[(3,.own 0 (.slice (some ⟨bl,0,none⟩) s.length cap)),(9,.int .i64 s.length),(10,.int .i64 x.1)]) (λx=>[.buf bl x.2 cap]) (iI 97 122 (-32) s) (λx=>s.length-x.1) (0,s) ?_ ai rfl ?_
 ·exact qp
 rintro⟨i,t⟩ hI0;have hi:=hI0.1;have ht:=hI0.2.1;dsimp only at hi ht ⊢;repeat' (first|(conv=>whnf);first|refine .w ?_|refine .v ?_|refine bu ?_ ?_<;>(intro hb;try exact dd hb)|apply au|apply aM|(apply a6<;>intro hb)|(apply ba;intro hbd)|(apply aJ;first|exact hT|(exact hI _ (by omega) (by omega)))|(apply ax (i:=0) rfl;first|exact hT|(exact hI _ (by omega) (by omega)))|(apply bc;intro bl)|(apply bh;intro va vk vc hva)|(apply bg;intro v)|(apply bj;intro bl cap hcap)|apply bx|(apply bf<;>intro hnx)|apply ct mixed hC hGL (by kernel_rfl)|(apply cq;assumption;(first|exact hT|(exact hI _ (by omega) (by omega)));exact rfl)|(show Rt _ _ _;exact a7)|fail)
 all_goals try conv=>whnf
 ·have e:=gu hI0 (by omega);have hx:=Hm (c:=(aa s i:Int)) (by omega) (by omega);rw[if_pos (by rw[<-e];exact hb),<-e] at hx;refine aZ ?_;intros;refine db (i+1,t.set i (UInt8.ofNat ((aa fX (bQ abcL (aa t i)).toNat:Nat):Int).toNat)) ?_ ?_ ai rfl
  ·refine mr hI0 (by omega) ?_ (by omega) (by have:=bG fX (bQ abcL (aa t i)).toNat;omega);rw[hx.2,e];simp only[Int.toNat_natCast]
  ·dsimp only;omega
 ·have e:=gu hI0 (by omega);have hx:=Hm (c:=(aa s i:Int)) (by omega) (by omega);rw[if_neg (by rw[<-e];omega)] at hx;refine db (i+1,t) ?_ ?_ ai rfl
  ·exact kh hI0 (by omega) (by simpa using hx)
  ·dsimp only;omega
 ·apply aj;rw[mt (by decide) (by decide) hI0 (by omega)]
theorem gx {G:Glo}(s:List UInt8)(hl:s.length<=9223372036854775807):an prog G 20 [.str s] (.str (ao 65 90 32 s)):=by
 refine aw func20 call20 λC hC hGL=> ?_;have hT:=ia (G:=G);have hI:=λc h0 h1=>bB (G:=G) fX c h0 h1;have eL:abcL.length=26:=rfl;repeat' (first|(conv=>whnf);first|refine .w ?_|refine .v ?_|refine bu ?_ ?_<;>(intro hb;try exact dd hb)|apply au|apply aM|(apply a6<;>intro hb)|(apply ba;intro hbd)|(apply bc;intro bl)|(apply bh;intro va vk vc hva)|(apply bg;intro v)|(apply bj;intro bl cap hcap)|apply bx|(apply bf<;>intro hnx)|apply ct mixed hC hGL (by kernel_rfl)|(show Rt _ _ _;exact a7)|fail)
 all_goals try conv=>whnf
 refine lp hC hGL (λ(x:Nat×List UInt8)=>[(3,.own 0 (.slice (some ⟨bl,0,none⟩) s.length cap)),(9,.int .i64 s.length),(10,.int .i64 x.1)]) (λx=>[.buf bl x.2 cap]) (iI 65 90 32 s) (λx=>s.length-x.1) (0,s) ?_ ai rfl ?_
 ·exact qp
 rintro⟨i,t⟩ hI0;have hi:=hI0.1;have ht:=hI0.2.1;dsimp only at hi ht ⊢;repeat' (first|(conv=>whnf);first|refine .w ?_|refine .v ?_|refine bu ?_ ?_<;>(intro hb;try exact dd hb)|apply au|apply aM|(apply a6<;>intro hb)|(apply ba;intro hbd)|(apply aJ;first|exact hT|(exact hI _ (by omega) (by omega)))|(apply ax (i:=0) rfl;first|exact hT|(exact hI _ (by omega) (by omega)))|(apply bc;intro bl)|(apply bh;intro va vk vc hva)|(apply bg;intro v)|(apply bj;intro bl cap hcap)|apply bx|(apply bf<;>intro hnx)|apply ct mixed hC hGL (by kernel_rfl)|(apply cq;assumption;(first|exact hT|(exact hI _ (by omega) (by omega)));exact rfl)|(show Rt _ _ _;exact a7)|fail)
 all_goals try conv=>whnf
 ·have e:=gu hI0 (by omega);have hx:=C1 (c:=(aa s i:Int)) (by omega) (by omega);rw[if_pos (by rw[<-e];exact hb),<-e] at hx;refine aZ ?_;intros;refine db (i+1,t.set i (UInt8.ofNat ((aa abcL (bQ fX (aa t i)).toNat:Nat):Int).toNat)) ?_ ?_ ai rfl
  ·refine mr hI0 (by omega) ?_ (by omega) (by have:=bG abcL (bQ fX (aa t i)).toNat;omega);rw[hx.2,e];simp only[Int.toNat_natCast]
  ·dsimp only;omega
 ·have e:=gu hI0 (by omega);have hx:=C1 (c:=(aa s i:Int)) (by omega) (by omega);rw[if_neg (by rw[<-e];omega)] at hx;refine db (i+1,t) ?_ ?_ ai rfl
  ·exact kh hI0 (by omega) (by simpa using hx)
  ·dsimp only;omega
 ·apply aj;rw[mt (by decide) (by decide) hI0 (by omega)]
end
section
theorem lx {c:Int}:∀(t:List UInt8) (k:Nat),(j8 c t k= -1/\∀j,j<t.length->(aa t j:Int)≠c)\/∃m,m<t.length/\j8 c t k=((k+m:Nat):Int)/\(aa t m:Int)=c/\∀j,j<m->(aa t j:Int)≠c
 |[],_=>.inl ⟨rfl,λj h=>absurd h (Nat.not_lt_zero _)⟩
 |x::t,k=>by
  by_cases e:(x.toNat:Int)=c
  ·refine .inr ⟨0,by simp,by simp[j8,e],by simpa[aa] using e,λj h=>absurd h (Nat.not_lt_zero _)⟩
  ·have e1:j8 c (x::t) k=j8 c t (k+1):=by simp[j8,e]
   have h0:∀{p:Prop},(∀j,j<t.length->(aa t j:Int)≠c)->∀j,j<(x::t).length->(aa (x::t) j:Int)≠c:=by
    intro _ h j hj;cases j with
    |zero=>simpa[aa] using e
    |succ j=>simpa[aa] using h j (by simpa using hj)
   rcases lx (c:=c) t (k+1) with⟨h1,h2⟩|⟨m,h1,h2,h3,h4⟩
   ·exact .inl ⟨by rw[e1,h1],h0 (p:=True) h2⟩
   ·refine .inr ⟨m+1,by simpa using h1,by rw[e1,h2];omega,by simpa[aa] using h3,λj hj=> ?_⟩;cases j with
    |zero=>simpa[aa] using e
    |succ j=>simpa[aa] using h4 j (by omega)
theorem v6 {s:List UInt8}{c:Int}{i:Nat}(hi:i<s.length)(h:(aa s i:Int)=c)(h0:∀j,j<i->(aa s j:Int)≠c):bQ s c=i:=by
 rcases lx (c:=c) s 0 with⟨h1,h2⟩|⟨m,h1,h2,h3,h4⟩
 ·exact absurd h (h2 i hi)
 ·unfold bQ;rw[h2];have:m=i:=by
   rcases Nat.lt_trichotomy m i with h5|h5|h5
   ·exact absurd h3 (h0 m h5)
   ·exact h5
   ·exact absurd h (h4 i h5)
  omega
theorem um {s:List UInt8}{c:Int}(h0:∀j,j<s.length->(aa s j:Int)≠c):bQ s c= -1:=by
 rcases lx (c:=c) s 0 with⟨h1,h2⟩|⟨m,h1,h2,h3,h4⟩
 ·exact h1
 ·exact absurd h3 (h0 m h1)
theorem mI (s:List UInt8)(c:Int):(bQ s c= -1/\∀j,j<s.length->(aa s j:Int)≠c)\/∃m,m<s.length/\bQ s c=(m:Int)/\(aa s m:Int)=c/\∀j,j<m->(aa s j:Int)≠c:=by
 rcases lx (c:=c) s 0 with h|⟨m,h1,h2,h3⟩
 ·exact .inl h
 ·exact .inr ⟨m,h1,by unfold bQ;rw[h2];omega,h3⟩
def g8 (i:Nat)(c:Int):Bool:=decide ((97<=c/\c<=122)\/(65<=c/\c<=90)\/(0<i/\((48<=c/\c<=57)\/c=43\/c=45\/c=46)))
theorem AA {i:Nat}{c:Int}:g8 i c=true↔((97<=c/\c<=122)\/(65<=c/\c<=90)\/(0<i/\((48<=c/\c<=57)\/c=43\/c=45\/c=46))):=by simp[g8]
theorem LM {i:Nat}{c:Int}:g8 i c=false↔¬((97<=c/\c<=122)\/(65<=c/\c<=90)\/(0<i/\((48<=c/\c<=57)\/c=43\/c=45\/c=46))):=by simp[g8]
def dG (s:List UInt8):Nat:=if bQ s 58<1 then 0 else if ∀j,j<(bQ s 58).toNat->g8 j (aa s j)=true then(bQ s 58).toNat else 0
theorem Kl {s:List UInt8}{i:Nat}(hi:i<s.length)(h:(aa s i:Int)=58)(h0:∀j,j<i->(aa s j:Int)≠58/\g8 j (aa s j)=true):dG s=i:=by
 have e:=v6 hi h λj hj=>(h0 j hj).1;unfold dG;rw[e];by_cases h1:(i:Int)<1
 ·rw[if_pos h1];omega
 ·rw[if_neg h1,if_pos (λj hj=>(h0 j (by omega)).2)];omega
theorem Ip {s:List UInt8}{i:Nat}(hi:i<s.length)(h:(aa s i:Int)≠58)(hb:g8 i (aa s i)=false)(h0:∀j,j<i->(aa s j:Int)≠58/\g8 j (aa s j)=true):dG s=0:=by
 rcases mI s 58 with⟨h1,_⟩|⟨m,h1,h2,h3,h4⟩
 ·unfold dG;rw[h1];rfl
 ·have:i<m:=by
   rcases Nat.lt_trichotomy m i with h5|h5|h5
   ·exact absurd h3 (h0 m h5).1
   ·subst h5;exact absurd h3 h
   ·exact h5
  unfold dG;rw[h2];split
  ·rfl
  ·rw[if_neg];intro hh;have:=hh i (by omega);rw[hb] at this;cases this
theorem Fd {s:List UInt8}(h0:∀j,j<s.length->(aa s j:Int)≠58):dG s=0:=by
 unfold dG;rw[um h0];rfl
theorem wI {s:List UInt8}(h:dG s≠0):dG s<s.length/\aa s (dG s)=58/\bQ s 58=dG s:=by
 rcases mI s 58 with⟨h1,_⟩|⟨m,h1,h2,h3,h4⟩
 ·unfold dG at h;rw[h1] at h;exact absurd rfl h
 ·have e:dG s=m:=by
   unfold dG at*
   generalize bQ s 58=z at*
   subst h2;by_cases e1:(m:Int)<1
   ·rw[if_pos e1] at h;exact absurd rfl h
   ·rw[if_neg e1] at h ⊢;by_cases e2:∀j,j<(m:Int).toNat->g8 j (aa s j)=true
    ·rw[if_pos e2];omega
    ·rw[if_neg e2] at h;exact absurd rfl h
  rw[e];exact⟨h1,by omega,h2⟩
attribute [local irreducible] bI ap aa az aW ab ad
attribute [local irreducible] bQ dG g8
theorem Aa {G:Glo}(s:List UInt8)(hl:s.length<=9223372036854775807):an prog G 192 [.str s] (.int .i64 (dG s)):=by
  refine aw func192 call192 λC hC hGL=> ?_;refine aZ ?_;intros;refine lp hC hGL (λ(i:Nat)=>[(0,.str s),(6,.int .i64 s.length),(7,.int .i64 i)]) (λ_=>[]) (λi=>i<=s.length/\∀j,j<i->(aa s j:Int)≠58/\g8 j (aa s j)=true) (λi=>s.length-i) 0 ?_ ai rfl ?_
  · exact⟨Nat.zero_le _,by intro j hj;omega⟩
  rintro i ⟨hi,hb0⟩;refine xw ?_;repeat' first|exact .n|apply Lc.mk
  all_goals intros
  all_goals first
    |(apply aj;refine congrArg (AVal.int .i64) ?_;rw[Kl (i:=i) (by omega) (by omega) hb0];first|done|rfl)
    |(apply aj;refine congrArg (AVal.int .i64) ?_;rw[Ip (i:=i) (by omega) (by omega) (LM.2 (by omega)) hb0];first|done|rfl)
    |(apply aj;refine congrArg (AVal.int .i64) ?_;rw[Fd (λj hj=>(hb0 j (by omega)).1)];first|done|rfl)
    | (refine db (i+1) ?_ ?_ ai rfl
       · exact⟨by omega,cB hb0 ⟨by omega,AA.2 (by omega)⟩⟩
       · omega)
def qB (s:List UInt8):Int:=if dG s=0 then 8 else 0
def mK (c:Int):Bool:=decide (33<=c/\c<=126)
theorem rL {c:Int}:mK c=true↔(33<=c/\c<=126):=by simp[mK]
theorem Hu {c:Int}:mK c=false↔¬(33<=c/\c<=126):=by simp[mK]
def zb (f:Int->Bool):List UInt8->Nat->Int
 |[],_=> -1
 |x::t,k=>if f (x.toNat:Int) then k else zb f t (k+1)
def fP (f:Int->Bool)(s:List UInt8):Int:=zb f s 0
theorem lB {f:Int->Bool}:∀(t:List UInt8) (k:Nat),(zb f t k= -1/\∀j,j<t.length->f (aa t j:Int)=false)\/∃m,m<t.length/\zb f t k=((k+m:Nat):Int)/\f (aa t m:Int)=true/\∀j,j<m->f (aa t j:Int)=false
 |[],_=>.inl ⟨rfl,λj h=>absurd h (Nat.not_lt_zero _)⟩
 |x::t,k=>by
  by_cases e:f (x.toNat:Int)=true
  ·refine .inr ⟨0,by simp,by simp[zb,e],by simpa[aa] using e,λj h=>absurd h (Nat.not_lt_zero _)⟩
  ·have e1:zb f (x::t) k=zb f t (k+1):=by simp[zb,e]
   rcases lB (f:=f) t (k+1) with⟨h1,h2⟩|⟨m,h1,h2,h3,h4⟩
   ·refine .inl ⟨by rw[e1,h1],λj hj=> ?_⟩;cases j with
    |zero=>simpa[aa] using e
    |succ j=>simpa[aa] using h2 j (by simpa using hj)
   ·refine .inr ⟨m+1,by simpa using h1,by rw[e1,h2];omega,by simpa[aa] using h3,λj hj=> ?_⟩;cases j with
    |zero=>simpa[aa] using e
    |succ j=>simpa[aa] using h4 j (by omega)
theorem jN {f:Int->Bool}{s:List UInt8}{i:Nat}(hi:i<s.length)(h:f (aa s i:Int)=true)(h0:∀j,j<i->f (aa s j:Int)=false):fP f s=i:=by
 rcases lB (f:=f) s 0 with⟨h1,h2⟩|⟨m,h1,h2,h3,h4⟩
 ·rw[h2 i hi] at h;cases h
 ·unfold fP;rw[h2];have:m=i:=by
   rcases Nat.lt_trichotomy m i with h5|h5|h5
   ·rw[h0 m h5] at h3;cases h3
   ·exact h5
   ·rw[h4 i h5] at h;cases h
  omega
theorem fA {f:Int->Bool}{s:List UInt8}(h0:∀j,j<s.length->f (aa s j:Int)=false):fP f s= -1:=by
 rcases lB (f:=f) s 0 with⟨h1,h2⟩|⟨m,h1,h2,h3,h4⟩
 ·exact h1
 ·rw[h0 m h1] at h3;cases h3
theorem jM (f:Int->Bool)(s:List UInt8):(fP f s= -1/\∀j,j<s.length->f (aa s j:Int)=false)\/∃m,m<s.length/\fP f s=(m:Int)/\f (aa s m:Int)=true/\∀j,j<m->f (aa s j:Int)=false:=by
 rcases lB (f:=f) s 0 with h|⟨m,h1,h2,h3⟩
 ·exact .inl h
 ·exact .inr ⟨m,h1,by unfold fP;rw[h2];omega,h3⟩
attribute [local irreducible] mK fP
theorem kw {G:Glo}(s:List UInt8)(f:Nat)(p:Int->Bool)(hl:s.length<=9223372036854775807)(hp:∀c:Nat,c<256->an prog G f [.int .u8 (c:Int)] (.bool (p c))):an prog G 83 [.str s,.func (.func f) [] []] (.int .i64 (fP p s)):=by
 refine aw func83 call83 λC hC hGL=> ?_;repeat' (first|(conv=>whnf);first|refine .w ?_|refine .v ?_|refine bu ?_ ?_<;>(intro hb;try exact dd hb)|apply au|apply aM|(apply a6<;>intro hb)|(apply ba;intro hbd)|(apply bc;intro bl)|(apply bh;intro va vk vc hva)|(apply bg;intro v)|(apply bj;intro bl cap hcap)|apply bx|(apply bf<;>intro hnx)|apply ct mixed hC hGL (by kernel_rfl)|(show Rt _ _ _;exact a7)|fail)
 all_goals try conv=>whnf
 refine lp hC hGL (λ(i:Nat)=>[(1,.func (.func f) [] []),(8,.own 0 (.slice (some ⟨bl,0,none⟩) s.length cap)),(9,.int .i64 s.length),(10,.int .i64 i)]) (λ_=>[.buf bl s cap]) (λi=>i<=s.length/\∀j,j<i->p (aa s j:Int)=false) (λi=>s.length-i) 0 ?_ ai rfl ?_
 ·exact⟨Nat.zero_le _,by intro j hj;omega⟩
 rintro i ⟨hi,hb0⟩;repeat' (first|(conv=>whnf);first|refine .w ?_|refine .v ?_|refine bu ?_ ?_<;>(intro hb;try exact dd hb)|apply au|apply aM|(apply a6<;>intro hb)|(apply ba;intro hbd)|(apply aJ;first|exact hp _ (by omega))|(apply ax (i:=0) rfl;first|exact hp _ (by omega))|(apply bc;intro bl)|(apply bh;intro va vk vc hva)|(apply bg;intro v)|(apply bj;intro bl cap hcap)|apply bx|(apply bf<;>intro hnx)|apply ct mixed hC hGL (by kernel_rfl)|(apply cq;assumption;(first|exact hp _ (by omega));exact rfl)|(show Rt _ _ _;exact a7)|fail)
 all_goals try conv=>whnf
 ·apply aj;rw[jN (i:=i) (by omega) hb hb0]
 ·refine db (i+1) ?_ ?_ ai rfl
  ·exact⟨by omega,cB hb0 hb⟩
  ·omega
 ·apply aj;rw[fA (λj hj=>hb0 j (by omega))];rfl
theorem y4 {c:Int}(h0:0<=c)(h1:c<=255):decide (bQ ((fX++abcL)++[]) c<0)= !g8 0 c:=by
 have:=jo (p:=λc=>decide (bQ ((fX++abcL)++[]) c<0)== !g8 0 c) (by decide+kernel) h0 h1;simpa using this
def LL:List UInt8:=[48,49,50,51,52,53,54,55,56,57,43,45,46]
theorem y3 {c:Int}(h0:0<=c)(h1:c<=255):decide (bQ ((fX++abcL)++LL) c<0)= !g8 1 c:=by
 have:=jo (p:=λc=>decide (bQ ((fX++abcL)++LL) c<0)== !g8 1 c) (by decide+kernel) h0 h1;simpa using this
theorem tD {i:Nat}{c:Int}(h:i=0):g8 i c=g8 0 c:=by rw[h]
theorem tE {i:Nat}{c:Int}(h:0<i):g8 i c=g8 1 c:=by
 rw[Bool.eq_iff_iff,AA,AA];omega
theorem Iq {s:List UInt8}{m:Nat}(hm:bQ s 58=m)(h1:0<m)(h:∀j,j<m->g8 j (aa s j)=true):dG s=m:=by
 unfold dG;rw[hm,if_neg (by omega),if_pos (λj hj=>h j (by omega))];omega
theorem Io {s:List UInt8}{m:Nat}(hm:bQ s 58=m){i:Nat}(hi:i<m)(h:g8 i (aa s i)=false):dG s=0:=by
 unfold dG;rw[hm];split
 ·rfl
 ·rw[if_neg];intro hh;have:=hh i (by omega);rw[h] at this;cases this
theorem AS {G:Glo}(s:List UInt8)(hl:s.length<=9223372036854775807):an prog G 127 [.str s] (.tuple [.str (s.take (dG s)),.int .i64 (qB s)]):=by
 refine aw func127 call127 λC hC hGL=> ?_;have hI:=bB (G:=G) s 58 (by decide) (by decide);have hT:=ia (G:=G);have hJ0:=λc h0 h1=>bB (G:=G) ((fX++abcL)++[]) c h0 h1;have hJ1:=λc h0 h1=>bB (G:=G) ((fX++abcL)++LL) c h0 h1;have hle:bQ s 58<s.length:=by
  rcases mI s 58 with⟨h1,_⟩|⟨m,h1,h2,_⟩<;>omega
 repeat' (first|(conv=>whnf);first|refine .w ?_|refine .v ?_|refine bu ?_ ?_<;>(intro hb;try exact dd hb)|apply au|apply aM|(apply a6<;>intro hb)|(apply ba;intro hbd)|(apply aJ;exact hI)|(apply ax (i:=0) rfl;exact hI)|(apply bc;intro bl)|(apply bh;intro va vk vc hva)|(apply bg;intro v)|(apply bj;intro bl cap hcap)|apply bx|(apply bf<;>intro hnx)|apply ct mixed hC hGL (by kernel_rfl)|(apply cq;assumption;exact hI;exact rfl)|(show Rt _ _ _;exact a7)|fail)
 all_goals try conv=>whnf
 ·apply aj;have e:dG s=0:=by unfold dG;rw[if_pos (by omega)]
  rw[qB,if_pos e,e];rfl
 have hm0:∃m:Nat,bQ s 58=m/\0<m/\m<s.length:=⟨(bQ s 58).toNat,by omega,by omega,by omega⟩;obtain⟨m,hm,hm1,hm2⟩:=hm0;have hA:=Iq hm hm1;have hN:=λi hi h=>Io (i:=i) hm hi h;have hbt:=λj (hj:j<m)=>ip (s:=s) hj;rw[hm] at*
 rw[show(m:Int).toNat=m from rfl] at*
 have ht:(s.take m).length=m:=by rw[List.length_take];omega
 rw[ht] at*
 refine lp hC hGL (λ(i:Nat)=>[(0,.str s),(4,.int .i64 m),(15,.own 0 (.slice (some ⟨bl,0,none⟩) m cap)),(16,.int .i64 m),(17,.int .i64 i)]) (λ_=>[.buf bl (s.take m) cap]) (λi=>i<=m/\∀j,j<i->g8 j (aa s j)=true) (λi=>m-i) 0 ?_ ai rfl ?_
 ·exact⟨Nat.zero_le _,by intro j hj;omega⟩
 rintro i ⟨hi,hb0⟩;repeat' (first|(conv=>whnf);first|refine .w ?_|refine .v ?_|refine bu ?_ ?_<;>(intro hb;try exact dd hb)|apply au|apply aM|(apply a6<;>intro hb)|(apply ba;intro hbd)|(apply aJ;first|exact hT|(exact hJ0 _ (by omega) (by omega))|(exact hJ1 _ (by omega) (by omega)))|(apply ax (i:=0) rfl;first|exact hT|(exact hJ0 _ (by omega) (by omega))|(exact hJ1 _ (by omega) (by omega)))|(apply bc;intro bl)|(apply bh;intro va vk vc hva)|(apply bg;intro v)|(apply bj;intro bl cap hcap)|apply bx|(apply bf<;>intro hnx)|apply ct mixed hC hGL (by kernel_rfl)|(apply cq;assumption;(first|exact hT|(exact hJ0 _ (by omega) (by omega))|(exact hJ1 _ (by omega) (by omega)));exact rfl)|(show Rt _ _ _;exact a7)|fail)
 all_goals try conv=>whnf
 ·apply aj;have hx:=y4 (c:=(aa (s.take m) i:Int)) (by omega) (by omega);rw[decide_eq_true hb,hbt i (by omega)] at hx;have e:=hN i (by omega) (by rw[tD (by omega)];simpa using hx.symm);rw[qB,if_pos e,e];rfl
 ·have hx:=y4 (c:=(aa (s.take m) i:Int)) (by omega) (by omega);rw[decide_eq_false (by omega),hbt i (by omega)] at hx;refine db (i+1) ?_ ?_ ai rfl
  ·exact⟨by omega,cB hb0 (by rw[tD (by omega)];simpa using hx.symm)⟩
  ·omega
 ·apply aj;have hx:=y3 (c:=(aa (s.take m) i:Int)) (by omega) (by omega);rw[decide_eq_true hb,hbt i (by omega)] at hx;have e:=hN i (by omega) (by rw[tE (by omega)];simpa using hx.symm);rw[qB,if_pos e,e];rfl
 ·have hx:=y3 (c:=(aa (s.take m) i:Int)) (by omega) (by omega);rw[decide_eq_false (by omega),hbt i (by omega)] at hx;refine db (i+1) ?_ ?_ ai rfl
  ·exact⟨by omega,cB hb0 (by rw[tE (by omega)];simpa using hx.symm)⟩
  ·omega
 ·apply aj;have e:=hA (λj hj=>hb0 j (by omega));rw[qB,if_neg (by omega),e];rfl
def dI (c:Int):Bool:= !mK c
theorem rg {c:Int}:dI c=true↔¬(33<=c/\c<=126):=by simp[dI,rL,Hu]
theorem rh {c:Int}:dI c=false↔(33<=c/\c<=126):=by simp[dI,rL]
def fZ (s:List UInt8):Err:=if dG s=0 then .errno 8 else if 0<=fP dI s then .at 3 (fP dI s) else if dG s+1=s.length then .at 7 s.length else .none
attribute [local irreducible] dI
theorem Dy {G:Glo}(s:List UInt8)(hl:s.length<=9223372036854775807):an prog G 142 [.str s] (fZ s).A:=by
 refine aw func142 call142 λC hC hGL=> ?_;have hb0:=Aa (G:=G) s hl;have hlt:dG s≠0->dG s<s.length:=λh=>(wI h).1;refine xw ?_;repeat' first|exact .n|apply Lc.mk
 all_goals intros
 ·apply aj;rw[fZ,if_pos (by omega)];rfl
 refine lp hC hGL (λ(i:Nat)=>[(0,.str s),(3,.int .i64 (dG s)),(11,.int .i64 s.length),(12,.int .i64 i)]) (λ_=>[]) (λi=>i<=s.length/\∀j,j<i->dI (aa s j)=false) (λi=>s.length-i) 0 ?_ ai rfl ?_
 ·exact⟨Nat.zero_le _,by intro j hj;omega⟩
 rintro i ⟨hi,hg0⟩;refine xw ?_;repeat' first|exact .n|apply Lc.mk
 all_goals intros
 ·apply aj;rw[fZ,if_neg (by omega),jN (i:=i) (by omega) (rg.2 (by omega)) hg0,if_pos (by omega)];rfl
 ·apply aj;rw[fZ,if_neg (by omega),jN (i:=i) (by omega) (rg.2 (by omega)) hg0,if_pos (by omega)];rfl
 ·refine db (i+1) ?_ ?_ ai rfl
  ·exact⟨by omega,cB hg0 (rh.2 (by omega))⟩
  ·omega
 ·apply aj;rw[fZ,if_neg (by omega),fA (λj hj=>hg0 j (by omega)),if_neg (by omega),if_pos (by omega)];rfl
 ·apply aj;rw[fZ,if_neg (by omega),fA (λj hj=>hg0 j (by omega)),if_neg (by omega),if_neg (by omega)];rfl
theorem Eg {G:Glo}(c:Int)(h0:0<=c)(h1:c<=255):an prog G 129 [.int .u8 c] (.bool (mK c)):=by
 refine aw func129 call129 λC hC hGL=> ?_;have hw:=dV (G:=G) c 33 126;refine aZ ?_;intros;apply aj;refine congrArg AVal.bool ?_;rw[Bool.eq_iff_iff,rL];simp
theorem vF {G:Glo}(c:Int)(h0:0<=c)(h1:c<=255):an prog G 128 [.int .u8 c] (.bool (dI c)):=by
 refine aw func128 call128 λC hC hGL=> ?_;have hw:=Eg (G:=G) c h0 h1;refine aZ ?_;intros;apply aj;unfold dI;rfl
theorem vH {G:Glo}(s:List UInt8)(hl:s.length<=9223372036854775807):an prog G 75 [.str s] (.agg [.int .i64 (fZ s).e,.int .i64 (fZ s).p]):=by
 refine aw func75 call75 λC hC hGL=> ?_;have h1:=AS (G:=G) s hl;have h2:=kw (G:=G) s 128 dI hl (λc hc=>vF (G:=G) c (by omega) (by omega));have h3:=kA (G:=G);have h4:=i7 (G:=G);have hn:qB s=0->dG s<s.length/\dG s≠0:=λh=>by
  unfold qB at h;split at h
  ·cases h
  ·exact⟨(wI (by assumption)).1,by assumption⟩
 have hln:qB s=0->(s.take (dG s)).length=dG s:=λh=>by
  have:=(hn h).1;rw[List.length_take];omega
 have hs58:qB s=0->(s=s.take (dG s)++[58]↔dG s+1=s.length):=λh=>by
  have h1:=hn h;have h2:=hln h;have h3:=(wI h1.2).2.1;constructor
  ·intro e;have:=congrArg List.length e;rw[List.length_append,h2] at this;simpa using this.symm
  ·intro e;refine List.ext_getElem (by rw[List.length_append,h2];simpa using e.symm) (λj j1 j2=> ?_);by_cases hj:j<dG s
   ·rw[List.getElem_append_left (by omega),List.getElem_take]
   ·rw[List.getElem_append_right (by omega)];have ej:j=dG s:=by omega
    subst ej;rw[bU (by omega)] at h3;have:s[dG s]=58:=UInt8.toNat_inj.1 (by simpa using h3);simp[h2,this]
 repeat' (first|(conv=>whnf);first|refine .w ?_|refine .v ?_|refine bu ?_ ?_<;>(intro hb;try exact dd hb)|apply au|apply aM|(apply a6<;>intro hb)|(apply ba;intro hbd)|(apply aJ;first|exact h1|exact h2|exact h3 _|exact h4)|(apply ax (i:=0) rfl;first|exact h1|exact h2|exact h3 _|exact h4)|(apply bc;intro bl)|(apply bh;intro va vk vc hva)|(apply bg;intro v)|(apply bj;intro bl cap hcap)|apply bx|(apply bf<;>intro hnx)|apply ct mixed hC hGL (by kernel_rfl)|(apply cq;assumption;(first|exact h1|exact h2|exact h3 _|exact h4);exact rfl)|(show Rt _ _ _;exact a7)|fail)
 all_goals try conv=>whnf
 ·apply aj;have e:dG s=0:=by unfold qB at hb;split at hb;assumption;exact absurd rfl hb
  rw[fZ,qB,if_pos e,if_pos e];rfl
 ·apply aj;rw[fZ,if_neg (hn (by assumption)).2,if_pos (by omega)];rfl
 ·apply aj;rw[fZ,if_neg (hn (by assumption)).2,if_neg (by omega),if_pos ((hs58 (by assumption)).1 hb)];rfl
 ·apply aj;rw[fZ,if_neg (hn (by assumption)).2,if_neg (by omega),if_neg (λh=>hb ((hs58 (by assumption)).2 h))];rfl
end
section
noncomputable abbrev cw (m:Int):List (Nat×List AVal):=[(1,[.int .i64 m])]
theorem rk {G:Glo}{m:Int}(hU:ab G (cw m)){R:Seal}{w:World}(hG:G.p R)(hs:ea R w):w.cell? ⟨1,0,none⟩=some (.int .i64 m):=by
 obtain⟨v,hc,hr⟩:=di.cell hs (hU 1 [.int .i64 m] rfl R hG) (i:=0) rfl;have hr:[v]=[Value.int .i64 m]:=hr;rw[(List.cons.inj hr).1] at hc;exact hc
def ew (G:Glo):Prop:=∀R,G.p R->∃e fz,R 10=some (.cells (Lib.pow10Tab.map λz=>Value.int .u64 z).toArray e fz)
end
section
theorem MS.below {C:Ctx}{R:Seal}{H:Heap}{w w':World}(h:MS C R H w)(hb:Below w.heap.size w w'):MS C R H w':=by
 have hlt:∀{b:Nat} {o:Obj},w.heap[b]? =some o->b<w.heap.size:=λ{b o} h1=>by
  rcases Nat.lt_or_ge b w.heap.size with h|h
  ·exact h
  ·rw[Array.getElem?_eq_none h] at h1;cases h1
 refine⟨λb o ho=> ?_,h.ge,h.fresh,⟨λx hx=> ?_,h.heap.nodup,h.heap.apart⟩,h.own,?_⟩
 ·have h1:=h.sealed b o ho;rw[hb.block b (hlt h1),h1]
 ·exact HEnt.holds_mono (h.heap.holds x hx) (Seal.le_refl R) (λb hbk=>hb.block b (HEnt.blk_lt (h.heap.holds x hx) hbk))
 ·exact⟨hb.os.trans h.ext.os,hb.tape.trans h.ext.tape,hb.output.trans h.ext.output,Nat.le_trans h.ext.size hb.size,λb hlt hn=>by
   rw[hb.block b (Nat.lt_of_lt_of_le hlt h.ext.size)];exact h.ext.block b hlt hn⟩
theorem jX {P:Program}{G:Glo}{f:FuncId}{avs:List AVal}{H:Heap}{v:AVal}(u:Value)(hu:∀R,bD R v u)(hc:∀args w,(callFunc f args).run P w= .ok (.enter f args) w)
  (h:∀C R args,cJ R avs args.toList->∀w,G.p R->MS C R H w->Calls P f args w λe w'=>e= .returned u/\Below w.heap.size w w'):ad P G f avs H (λr H'=>r= .ret v/\H'=H):=by
 intro R w args hG hm ha;refine .inl ⟨hc args w,(h _ R args ha w hG hm).mono ?_⟩;rintro e w' ⟨rfl,hb⟩;exact⟨.ret v,H,R,⟨rfl,rfl⟩,⟨_,rfl,hu R⟩,hm.below hb⟩
def aY (l:List (List UInt8)):List AVal:=l.map .str
def aE (l:List (List UInt8))(i:Nat):AVal:=.str (l.getD i [])
theorem iS (l:List (List UInt8)):∀i,i<l.length->(aE l i).cells=((aY l).drop (i*1)).take 1/\(aE l i).plain=true:=by
 intro i hi;refine⟨?_,rfl⟩;have:i<(aY l).length:=by simpa[aY] using hi
 rw[Nat.mul_one,List.drop_eq_getElem_cons this];simp[aE,AVal.cells,aY,List.getD,hi]
theorem cM (l:List (List UInt8))(s:List UInt8):aY l++[.str s]=aY (l++[s]):=by simp[aY]
theorem n9 (l:List (List UInt8)):(aY l).length=l.length:=by simp[aY]
def M4 (l:List (List UInt8)):List ByteArray:=l.map λs=>⟨s.toArray⟩
theorem zK (l:List (List UInt8)):(M4 l).map (·.data.toList)=l:=by
 unfold M4;rw[List.map_map];refine(List.map_congr_left (g:=id) λx _=> ?_).trans (List.map_id l);simp
theorem qb (l:List (List UInt8)):(M4 l).length=l.length:=by simp[M4]
theorem iy {R:Seal}:∀{l:List (List UInt8)} {vs:List Value},bA R (aY l) vs->vs=l.map λs=>Value.string ⟨s.toArray⟩
 |[],_,h=>h
 |s::l,_,h=>by
  obtain⟨v,t,rfl,h1,h2⟩:=h;have h1:[v]=[.string ⟨s.toArray⟩]:=h1;rw[List.cons.injEq] at h1
  rw[iy h2,h1.1]
  rfl
theorem DG {R:Seal}{w:World}{bl o:Nat}{Cs:Array Value}{e:TypeId}{fz:Nat×Nat}{l:List (List UInt8)}(hb:w.heap[bl]? =some (.cells Cs e fz))(hl:bA R (aY l) ((Cs.toList.drop o).take l.length)):
  ∀(j:Nat) x,(M4 l)[j]? =some x->w.cell? ⟨bl,o+j,none⟩=some (.string x):=by
 intro j x hx;have hj:j<l.length:=by have:=(List.getElem?_eq_some_iff.1 hx).1;rwa [qb] at this
 have:=iy hl;simp only[World.cell?,hb];have h2:((Cs.toList.drop o).take l.length)[j]? =(l.map λs=>Value.string ⟨s.toArray⟩)[j]? :=by rw[this]
 rw[List.getElem?_take_of_lt hj,List.getElem?_drop] at h2;have hx:x=⟨(l[j]).toArray⟩:=by
  unfold M4 at hx;rw[List.getElem?_map,List.getElem?_eq_getElem hj] at hx;simpa using hx.symm
 rw[hx];simpa[List.getElem?_eq_getElem hj] using h2
theorem Eu {R:Seal}{w:World}(hs:ea R w){l:List (List UInt8)}{v:Value}(h:bD R (.list 1 l.length (aE l)) v):∃a cap,v= .slice a l.length cap/\l.length<=cap/\(l=[]\/∃b o C e fz,a=some ⟨b,o,none⟩/\w.heap[b]? =some (.cells C e fz)/\bA R (aY l) ((C.toList.drop o).take l.length)):=by
 obtain⟨a,cap,e1,hle,h7⟩:=aR h rfl;simp only[List.cons.injEq,and_true] at e1;refine⟨a,cap,e1,hle,?_⟩;rcases h7 with h7|⟨b,o,C,e,fz,ha,hR,hall⟩
 ·exact .inl (List.eq_nil_of_length_eq_zero h7)
 ·refine .inr ⟨b,o,C,e,fz,ha,hs _ _ hR,?_⟩;have key:∀(m:Nat) (l':List (List UInt8)) (o':Nat),l'.length=m->(∀i,i<m->aV R (aE l' i) ((C.toList.drop (o'+i*1)).take 1))->bA R (aY l') ((C.toList.drop o').take m):=by
   intro m;induction m with
   |zero=>intro l' o' hl _;rw[List.eq_nil_of_length_eq_zero hl];simp[aY,bA]
   |succ m ih=>
    intro l' o' hl hi
    match l',hl with
    |s::t,hl=>
     have h0:=hi 0 (by omega);have h0:(C.toList.drop (o'+0*1)).take 1=[.string ⟨s.toArray⟩]:=h0;rw[Nat.zero_mul,Nat.add_zero] at h0;have hlt:o'<C.toList.length:=by
      rcases Nat.lt_or_ge o' C.toList.length with h|h
      ·exact h
      ·rw[List.drop_eq_nil_of_le h] at h0;cases h0
     rw[List.drop_eq_getElem_cons hlt] at h0 ⊢;simp only[List.take_succ_cons,List.take_zero,List.cons.injEq,and_true] at h0;rw[List.take_succ_cons,h0];refine⟨_,_,rfl,rfl,ih t (o'+1) (by simpa using hl) (λi h=> ?_)⟩;have:=hi (i+1) (by omega);rw[show o'+(i+1)*1=o'+1+i*1 by omega] at this;exact this
  exact key _ l o rfl hall
theorem rC {l:List (List UInt8)}{sep:List UInt8}{w:World}{b o cap:Nat}{C:Array Value}{e:TypeId}{fz:Nat×Nat}{R:Seal}(hb:w.heap[b]? =some (.cells C e fz))(hl:bA R (aY l) ((C.toList.drop o).take l.length))(hcap:l.length<=cap)(hN:l.length<=140737488355328)(hlen:(Lib.join l sep).length<=140737488355328):
  Calls prog 54 #[.slice (some ⟨b,o,none⟩) l.length cap,.string ⟨sep.toArray⟩] w λe w'=>e= .returned (.string ⟨(Lib.join l sep).toArray⟩)/\Below w.heap.size w w':=by
 have hlt:b<w.heap.size:=by
  rcases Nat.lt_or_ge b w.heap.size with h|h
  ·exact h
  ·rw[Array.getElem?_eq_none h] at hb;cases hb
 have:=Tryz.strings_Join b o cap (M4 l) ⟨sep.toArray⟩ w (DG hb hl) hlt (by rw[qb];exact hN) (by rw[qb];exact hcap) (by rw[zK];simpa using hlen);rw[qb,zK] at this;simpa using this
theorem uf {sep:List UInt8}{w:World}{a:Option Addr}{cap:Nat}:Calls prog 54 #[.slice a 0 cap,.string ⟨sep.toArray⟩] w λe w'=>e= .returned (.string ⟨#[]⟩)/\Below w.heap.size w w':=by
 refine(strings_Join_none a cap ⟨sep.toArray⟩ w).mono ?_;rintro e w' ⟨rfl,rfl⟩;exact⟨rfl,Below.refl _ _⟩
theorem cd {G:Glo}{eT:Option TypeId}(l:List (List UInt8))(sep:List UInt8)(v:Value)(hN:l.length<=140737488355328)(hlen:(Lib.join l sep).length<=140737488355328):
  ad prog G 54 [.raw v,.str sep] [.row v eT 1 l.length (aY l)] (λr H=>r= .ret (.str (Lib.join l sep))/\H=[.row v eT 1 l.length (aY l)]):=by
 refine jX (.string ⟨(Lib.join l sep).toArray⟩) (λR=>aF.2 rfl) call54 ?_;rintro C R args ⟨x,t,e,hx,y,t',e',hy,rfl⟩ w hG hm;obtain rfl:=al.1 hx;obtain rfl:=aF.1 hy;subst e';obtain rfl:=dN e;obtain⟨hlen',hx'⟩:=hm.heap.holds _ (List.mem_singleton.2 rfl);rcases hx' with⟨rfl,h0⟩|⟨bl,cap,Cs,el,fz,rfl,hb,hcs,hnc,hl,hfz⟩
 ·have:l=[]:=List.eq_nil_of_length_eq_zero h0;subst this;exact uf
 ·exact rC (o:=0) hb (by simpa using hl) hnc hN hlen
theorem strings_Join {G:Glo}(l:List (List UInt8))(sep:List UInt8)(hN:l.length<=140737488355328)(hlen:(Lib.join l sep).length<=140737488355328):
  an prog G 54 [.list 1 l.length (aE l),.str sep] (.str (Lib.join l sep)):=by
 refine cj rfl call54 ?_;rintro R args ⟨x,t,e,hx,y,t',e',hy,rfl⟩ w hG hs;obtain rfl:=aF.1 hy;subst e';obtain⟨a,cap,rfl,hcap,h7⟩:=Eu hs hx;obtain rfl:=dN e;rcases h7 with rfl|⟨b,o,C,e,fz,rfl,hb,hl⟩
 ·exact uf
 ·exact rC hb hl hcap hN hlen
end
section
def bq (c:UInt8):List UInt8->List (List UInt8)
 |[]=>[[]]
 |x::t=>if x=c then[]::bq c t else match bq c t with
  |[]=>[[x]]
  |p::ps=>(x::p)::ps
theorem mZ (c:UInt8):∀s:List UInt8,bq c s≠[]
 |[]=>by simp[bq]
 |x::t=>by
  unfold bq;split
  ·simp
  ·split<;>simp
theorem Bg (c:UInt8):Lib.index [] [c]= -1:=rfl
theorem Bh {x c:UInt8}{t:List UInt8}(h:x=c):Lib.index (x::t) [c]=0:=by
 subst h;simp[Lib.index,List.isPrefixOf]
theorem yZ {x c:UInt8}{t:List UInt8}(h:x≠c):Lib.index (x::t) [c]=if Lib.index t [c]== -1 then-1 else Lib.index t [c]+1:=by
 have:(c==x)=false:=by simpa using Ne.symm h
 simp[Lib.index,List.isPrefixOf,this]
theorem jt {sep s:List UInt8}{k i:Nat}(h:Lib.index s sep=i):Lib.splitK sep 0 (k+1) s=s.take i::Lib.splitK sep 0 k (s.drop (i+sep.length)):=by
 have hm:¬(Lib.index s sep== -1)=true:=λe=>by have:=beq_iff_eq.1 e;omega
 rw[Lib.splitK,if_neg hm,h];simp
theorem js (c:UInt8):∀s:List UInt8,Lib.splitK [c] 0 (Lib.count s [c]) s=bq c s
 |[]=>by rw[Lib.count_miss (Bg c)];rfl
 |x::t=>by
  have ih:=js c t;by_cases hx:x=c
  ·have h0:Lib.index (x::t) [c]=(0:Nat):=Bh hx;rw[Lib.count_hit (by simp) h0,Nat.add_comm,jt h0];simp only[List.take_zero,List.length_cons,List.length_nil,Nat.zero_add,List.drop_succ_cons,List.drop_zero];rw[ih,bq,if_pos hx]
  ·have h1:=yZ (t:=t) hx;rcases Lib.index_spec t [c] with⟨h2,_⟩|⟨i,h2,_⟩
   ·rw[h2] at h1;have h1:Lib.index (x::t) [c]= -1:=by simpa using h1
    rw[Lib.count_miss h2] at ih;rw[Lib.count_miss h1,bq,if_neg hx,<-ih];rfl
   ·have hne:¬((i:Int)== -1)=true:=λe=>by have:=beq_iff_eq.1 e;omega
    rw[h2,if_neg hne] at h1;have h1:Lib.index (x::t) [c]=((i+1:Nat):Int):=by rw[h1];omega
    rw[Lib.count_hit (by simp) h2,Nat.add_comm,jt h2] at ih;rw[Lib.count_hit (by simp) h1,Nat.add_comm,jt h1,bq,if_neg hx,<-ih];rfl
theorem kO {P:Program}{G:Glo}{f:FuncId}{avs:List AVal}{H:Heap}{sz m:Nat}{cs:List AVal}{T:TypeId}(hc:∀args w,(callFunc f args).run P w= .ok (.enter f args) w)
  (hlen:cs.length=m*sz)
  (h:∀C R args,cJ R avs args.toList->∀w,G.p R->MS C R H w->Calls P f args w λe w'=>∃(w1:World) (Cs:Array Value),Below w.heap.size w w1/\e= .returned (.slice (some ⟨w1.heap.size,0,none⟩) m m)/\w'=w1.alloc (.cells Cs T)/\Cs.size=m*sz/\∀R,bA R cs Cs.toList):
  ad P G f avs H (λr H'=>∃b,r= .ret (.own H.length (.slice (some ⟨b,0,none⟩) m m))/\H'=H++[.row (.slice (some ⟨b,0,none⟩) m m) (some T) sz m cs]):=by
 intro R w args hG hm ha;refine .inl ⟨hc args w,(h _ R args ha w hG hm).mono ?_⟩;rintro e w' ⟨w1,Cs,hb,rfl,rfl,hsz,hr⟩;have hm1:=hm.below hb;have hm2:=hm1.alloc (.cells Cs T) (.row (.slice (some ⟨w1.heap.size,0,none⟩) m m) (some T) sz m cs) rfl ?_
 ·exact⟨_,_,R,⟨w1.heap.size,rfl,rfl⟩,⟨_,rfl,aQ.2 ⟨rfl,rfl⟩⟩,hm2.perm (List.perm_append_singleton _ _).symm⟩
 ·refine⟨hlen,.inr ⟨w1.heap.size,m,Cs,T,(0,0),rfl,dF _ _,hsz,Nat.le_refl _,?_,.inl (Nat.le_refl _),λt ht=>Option.some.inj ht⟩⟩;have:=hr R;have hl:=ay this;rwa [List.take_of_length_le (by omega)]
theorem ll (R:Seal):∀l:List (List UInt8),bA R (aY l) (l.map λs=>Value.string ⟨s.toArray⟩)
 |[]=>rfl
 |_::l=>⟨_,_,rfl,rfl,ll R l⟩
theorem tz {G:Glo}{m:Int}(hU:ab G (cw m))(H:Heap)(s:List UInt8)(c:UInt8)(hl:s.length<100000):
  ad prog G 53 [.str s,.str [c]] H (λr H'=>∃b,r= .ret (.own H.length (.slice (some ⟨b,0,none⟩) (bq c s).length (bq c s).length))/\H'=H++[.row (.slice (some ⟨b,0,none⟩) (bq c s).length (bq c s).length) (some 9) 1 (bq c s).length (aY (bq c s))]):=by
 refine kO call53 (by rw[n9,Nat.mul_one]) ?_
 rintro C R args ⟨x,t,e,hx,y,t',e',hy,rfl⟩ w hG hm;obtain rfl:=aF.1 hx;obtain rfl:=aF.1 hy;subst e';obtain rfl:=dN e;refine(strings_Split ⟨s.toArray⟩ ⟨#[c]⟩ m w (by rw[bT];omega) (rk hU hG hm.sealed) (Nat.le_refl 1)).mono ?_;rintro e w' ⟨rfl,rfl⟩;have hd:=Lib.splitB_data ⟨#[c]⟩ 0 (Lib.countB ⟨s.toArray⟩ ⟨#[c]⟩) ⟨s.toArray⟩;have hd:(Lib.splitB ⟨#[c]⟩ 0 (Lib.countB ⟨s.toArray⟩ ⟨#[c]⟩) ⟨s.toArray⟩).map (·.data.toList)=bq c s:=hd.trans (js c s);have hn:(bq c s).length=Lib.countB ⟨s.toArray⟩ ⟨#[c]⟩+1:=by
  have h1:=Lib.splitB_all ⟨#[c]⟩ (Nat.le_refl 1) 0 _ ⟨s.toArray⟩ rfl
  rw[<-hd,List.length_map,h1]
 rw[hn]
 have hm2:(Lib.splitB ⟨#[c]⟩ 0 (Lib.countB ⟨s.toArray⟩ ⟨#[c]⟩) ⟨s.toArray⟩).map Value.string=(bq c s).map λs=>Value.string ⟨s.toArray⟩:=by
  rw[<-hd,List.map_map]
  refine List.map_congr_left λx _=> ?_
  simp
 refine⟨w,_,Below.refl _ _,rfl,rfl,?_,λR=> ?_⟩
 ·rw[hm2];simp[hn]
 ·rw[hm2]
  exact ll R _
theorem mv {G:Glo}{m:Int}(hU:ab G (cw m))(s:List UInt8)(c:UInt8)(hl:s.length<100000):
  an prog G 53 [.str s,.str [c]] (.list 1 (bq c s).length (aE (bq c s))):=
 p4 (λa=>a) CP (aE (bq c s)) (iS _) ((tz hU [] s c hl).mono λ_ _ ⟨_,h1,h2⟩=>⟨_,_,h1,h2⟩)
theorem MN {P:Program}[Tab P]{G:Glo}{f:FuncId}{avs:List AVal}{H:Heap}{K Kp:AVal->Heap->Prop}{m sz:Nat}{cs:List AVal}{eT:Option TypeId}(hs:ad P G f avs H (λr H'=>∃b,r= .ret (.own H.length (.slice (some ⟨b,0,none⟩) m m))/\H'=H++[.row (.slice (some ⟨b,0,none⟩) m m) eT sz m cs]))
  (k:Ab λb=>cn (H++[.row (.slice (some ⟨b,0,none⟩) m m) eT sz m cs]) (K (.own H.length (.slice (some ⟨b,0,none⟩) m m)))):Cx P G f avs H K Kp:=by
 refine .mk _ hs ?_ ?_
 ·rintro v H' ⟨b,h1,rfl⟩;cases h1;have:=k.h b;rwa [aP] at this
 ·rintro v H' ⟨b,h1,_⟩;cases h1
end
section
theorem tA {c:UInt8}:∀{s:List UInt8},c∉s->bq c s=[s]
 |[],_=>rfl
 |x::t,h=>by
  simp only[List.mem_cons,not_or] at h;rw[bq,if_neg (Ne.symm h.1),tA h.2]
theorem qv {c:UInt8}:∀{u:List UInt8} {v:List UInt8},c∉u->∃p ps,bq c v=p::ps/\bq c (u++v)=(u++p)::ps
 |[],v,_=>by
  cases h:bq c v with
  |nil=>exact absurd h (mZ c v)
  |cons p ps=>exact⟨p,ps,rfl,h⟩
 |x::u,v,h=>by
  simp only[List.mem_cons,not_or] at h;obtain⟨p,ps,h1,h2⟩:=qv (v:=v) h.2;refine⟨p,ps,h1,?_⟩;rw[List.cons_append,bq,if_neg (Ne.symm h.1),h2];rfl
theorem F2 {c:UInt8}{u v:List UInt8}(h:c∉u):bq c (u++c::v)=u::bq c v:=by
 obtain⟨p,ps,h1,h2⟩:=qv (v:=c::v) h;rw[bq,if_pos rfl] at h1;cases h1;rw[h2,List.append_nil]
end
section
theorem oS {P Q:Prop}(hQ:Q)(h:Lf Q->P:=by
  intro ww;repeat' (first
   |(conv=>whnf);first
    |refine .w ?_|refine Ix.v ?_|refine Sd.v ?_|refine Sl.v ?_|apply e8|apply dU
    |refine bu ?_ ?_<;>(intro wb;try exact dd wb)
    |apply au|(apply a6<;>intro wb)|(apply ba;intro wb)|(apply nu;assumption;exact rfl)
    |(apply aJ;first|assumption|(apply k1<;>omega))|(apply bc;intro wl)|(apply aj;exact rfl)|(show Rt _ _ _;exact a7)
    |exact True.intro|(apply cW;intro wC whC)|apply cV|apply cT|(apply cU;exact rfl))
  all_goals (try conv=>whnf)
  all_goals (repeat (first|revert wb|revert wl|revert whC|revert wC))
  all_goals (apply Lf.h;apply ww)):P:=h ⟨hQ⟩
theorem xm {P Q:Prop}(hQ:Q)(h:Lf Q->P:=by
  intro ww;repeat' (first
   |(conv=>whnf);first
    |refine .w ?_|refine Ix.v ?_|refine Sd.v ?_|refine Sl.v ?_|apply e8|apply dU
    |refine bu ?_ ?_<;>(intro wb;try exact dd wb)
    |apply au|(apply a6<;>intro wb)|(apply ba;intro wb)|(apply nu;assumption;exact rfl)
    |(apply aJ;first|assumption|(apply k1<;>omega))|(apply bc;intro wl)|(apply aj;exact rfl)|(show Rt _ _ _;exact a7)
    |exact True.intro|(apply cW;intro wC whC)|apply cV|apply cT|(apply cU;exact rfl))
  all_goals (try conv=>whnf)
  all_goals (repeat (first|revert wb|revert wl|revert whC|revert wC))
  all_goals (apply Lf.l;with_reducible (repeat (first|apply ww|apply Lf.r)))) (e:Lz Q:=by repeat (first|exact Lz.n|apply Lz.c)):P:=h ⟨hQ⟩
end
section
abbrev oP (s:List UInt8):List AVal:=s.map λc=>.int .u8 (c.toNat:Int)
section
variable {P:Program} [Tab P] {C:Ctx} {n:Nat} {env:Env} {H:Heap} {Q:aK->Env->Heap->Prop} {ops:Array Oper} {rest:List Oper} {G:Glo} {GL:List (Nat×List AVal)}
variable {d:Nat} {t:TypeId} {p:String} {af:Array Edge} {g:Option (Nat×Bool)} {b:Bool}
variable {x y:Operand} {T:TypeId} {xT:TI} {tx ty:TypeId}
theorem GK {i n0:Nat}{v:Value}{s:List UInt8}{cs z:List AVal}{eT:Option TypeId}{e:TypeId}{xe xx:TI}(hC:C.G=G)(hGL:ab G GL)(hg:aC ops env g=some (b,b))(hdn:Nat.ble (d+1) n=true)
  (hx:ae env x=some (.own i v)) (hi:H[i]? =some (.row v eT 1 n0 cs)) (hy:ae env y=some (.str s))
  (h1:aS P T=some xT) (h2:xT.desc= .slice e) (h3:aS P e=some xe) (h4:xe.size=1) (h6:Nat.ble xe.bytes 1024=true) (h7:bp xe.zero=some z) (h8:z.length=1) (h9:aS P tx=some xx) (h10:xx.desc= .string)
  (hlen:n0+s.length<=137438953472) (hty:Lt eT e=true)
  (h:∀a k c,fO P C n G GL ops Q rest ((d,.own i (.slice a k c))::env) (H.set i (.row (.slice a k c) eT 1 (n0+s.length) (cs++oP s)))):
  mm P C n ops ({dst:=some d,op:=.call {callee:=.builtin .append,args:=[x,y].toArray,argTypes:=[T,tx].toArray},type:=t,pos:=p,after:=af,guard:=g}::rest) env H Q:=
 ⟨tN hg hdn hx hi hy h1 h2 h3 h4 rfl h6 h7 h8 (λR v hv=>Ja hv h9 h10) hlen (Cg hty) λv'=>iq (lA hi) λ⟨a,k,c,e,_⟩=>by subst e;exact bJ hC hGL _ _ _ (h a k c)⟩
end
end
section
attribute [local irreducible] bI ap aa az aW ab ad
abbrev cS (b:Nat):Value:=.pointer (some ⟨b,0,none⟩)
abbrev cE (b:Nat)(p:Value)(j:Nat)(v:Value):HEnt:=.cells b (some 150) [.raw p,.own j v]
abbrev eX (v:Value)(s:List UInt8):HEnt:=.row v (some 5) 1 s.length (oP s)
theorem rN {P:Program}[Tab P]{G:Glo}{GL:List (Nat×List AVal)}{n:Nat}{H:Heap}{v:Value}(i:Nat){f:FuncId}{fn:Func}{c:Code}{avs:List AVal}{Qf:cK->Heap->Prop}{rs:List ResultVar}(hf:P.funcs[f]? =some fn)
  (hc:∀args w,(callFunc f args).run P w= .ok (.enter f args) w) (hb:fn.body=some c) (hn:fn.ntmps=n) (hrs:fn.results=rs.toArray) (hlen:Nat.ble (AVal.raw v::avs).length n=true) (hGL:ab G GL) (hv:cm v=false)
  (h:∀C:Ctx,C.G=G->eQ P C n G GL c ((0,.own i v)::d8 0 (.raw v::avs)) H (sA P rs Qf)):ad P G f (.raw v::avs) H Qf:=
 nA hf hb hc hn hrs hlen λw0 R0 hG=>(yB (C:=⟨w0,R0,dk H,G,hG,[]⟩) (k:=0) i rfl hGL hv rfl (h ⟨w0,R0,dk H,G,hG,[]⟩ rfl)).mono λ_ _ _ q=>ir q
theorem oB {G:Glo}(b:Nat):an prog G 202 [.raw (cS b)] (.raw (cS b)):=by
 refine cH func202 (by kernel_rfl) (by kernel_rfl) (by kernel_rfl) (e:=Go.Extern.AbiNoEscape.same) (by kernel_rfl) ?_;rintro R args ⟨x,t,e,h1,h2⟩ w;obtain rfl:t=[]:=h2;obtain⟨l⟩:=args;obtain rfl:l=[x]:=e;exact⟨x,rfl,h1⟩
theorem yI {C:Ctx}{R:Seal}{H:Heap}{w:World}(hm:MS C R H w){i b:Nat}{e:TypeId}{cs:List AVal}(hi:H[i]? =some (.cells b (some e) cs)):w.shape? b=some (e,cs.length):=by
 obtain⟨Cs,el,fz,hb,hl,_,ht⟩:=gy hm hi;have:=ay hl;simp only[Array.length_toList] at this;simp[World.shape?,hb,this,ht e rfl]
section
variable {C:Ctx} {H:Heap} {env:Env} {x y:Operand} {i j b:Nat} {c0 c1:AVal}
theorem Jf (hx:ae env x=some (.own i (cS b)))(hi:H[j]? =some (.cells b (some 150) [c0,c1])):bn prog C H env (.convert 148 111 x) (.own i (cS b)):=by
 intro R ρ w hm hf dst t p af g;refine⟨cS b,?_,aQ.2 ⟨rfl,rfl⟩⟩;obtain⟨ie,hie,hs1,_⟩:=ek (P:=prog) (t:=150) rfl;have hr:=Lib.run_to_unsafe (P:=prog) w (src:=148) (dst:=111) (t:=150) (j:=ie) ⟨b,0,none⟩ underlying148 underlying111 hie (by rw[hs1];exact Nat.succ_ne_zero _) (yI hm hi) (Nat.zero_lt_succ _);simp only[execOp,(aQ.1 (hf _ _ hx)).1,Sem.run_bind,hr,Result.andThen_ok,Sem.run_pure]
theorem Jh (hx:ae env x=some (.raw (cS b)))(hi:H[j]? =some (.cells b (some 150) [c0,c1])):bn prog C H env (.convert 111 148 x) (.raw (cS b)):=by
 intro R ρ w hm hf dst t p af g;refine⟨cS b,?_,al.2 rfl⟩;obtain⟨ie,hie,hs1,_⟩:=ek (P:=prog) (t:=150) rfl;have hr:=Lib.run_from_unsafe (P:=prog) w (src:=111) (dst:=148) (u:=150) (j:=ie) ⟨b,0,none⟩ underlying111 underlying148 hie (yI hm hi) (by kernel_rfl);simp only[execOp,al.1 (hf _ _ hx),Sem.run_bind,hr,Result.andThen_ok,Sem.run_pure]
theorem Gc (hx:ae env x=some (.raw (cS b)))(hy:ae env y=some (.own i (cS b))):bn prog C H env (.binOp .neq 148 x y 148) (.bool false):=by
 intro R ρ w hm hf dst t p af g;refine⟨.bool false,?_,aN.2 rfl⟩;obtain⟨ie,hie,hs1,_⟩:=ek (P:=prog) (t:=150) rfl;have hr:=Lib.run_neq_ptr_same (P:=prog) w (tp:=148) (te:=150) (j:=ie) ⟨b,0,none⟩ underlying148 hie;have hg:(eqGuard BinOp.neq 148 x y (cS b) (cS b)).run prog w= .ok () w:=rfl;simp only[execOp,al.1 (hf _ _ hx),(aQ.1 (hf _ _ hy)).1,Sem.run_bind,hg,hr,Result.andThen_ok,Sem.run_pure]
end
theorem s4 {G:Glo}(b:Nat)(j:Nat)(v:Value):ad prog G 152 [.raw (cS b)] [cE b (.pointer none) j v] (λr H=>r= .ret (.tuple [])/\H=[cE b (cS b) j v]):=by
 have hGL:ab G []:=aD;refine rN 0 func152 call152 rfl rfl rfl rfl hGL rfl ?_;intro C hC;refine aZ ?_;intros;refine aO hC hGL (Jf (j:=0) rfl rfl) rfl rfl ?_;repeat' (first|(conv=>whnf);first|refine .w ?_|refine .v ?_|refine bu ?_ ?_<;>(intro hb;try exact dd hb)|apply au|apply aM|(apply a6<;>intro hb)|(apply ba;intro hbd)|(apply aJ;exact oB _)|(apply ax (i:=0) rfl;exact oB _)|(apply bc;intro bl)|(apply bh;intro va vk vc hva)|(apply bg;intro v)|(apply bj;intro bl cap hcap)|apply bx|(apply bf<;>intro hnx)|apply ct mixed hC hGL (by kernel_rfl)|(apply cq;assumption;exact oB _;exact rfl)|(show Rt _ _ _;exact a7)|fail)
 all_goals try conv=>whnf
 refine aO hC hGL (Jh (j:=0) rfl rfl) rfl rfl ?_;exact bK
theorem s3 {G:Glo}(b:Nat)(j:Nat)(v:Value):ad prog G 152 [.raw (cS b)] [cE b (cS b) j v] (λr H=>r= .ret (.tuple [])/\H=[cE b (cS b) j v]):=by
 have hGL:ab G []:=aD;refine rN 0 func152 call152 rfl rfl rfl rfl hGL rfl ?_;intro C hC;refine aZ ?_;intros;refine aO hC hGL (Gc rfl rfl) rfl rfl ?_;exact bK
def B9 (b:Nat)(p:Value):Prop:=p= .pointer none\/p=cS b
theorem iF {G:Glo}{b:Nat}{p:Value}(hp:B9 b p)(j:Nat)(v:Value):ad prog G 152 [.raw (cS b)] [cE b p j v] (λr H=>r= .ret (.tuple [])/\H=[cE b (cS b) j v]):=by
 rcases hp with rfl|rfl
 ·exact s4 b j v
 ·exact s3 b j v
theorem In (v:Value)(s t:List UInt8):HEnt.row v (some 5) 1 (s.length+t.length) (oP s++oP t)=eX v (s++t):=by
 simp only[eX,oP,List.length_append,List.map_append]
theorem qo {H:Heap}{i j:Nat}{x0 y0:HEnt}(hne:i≠j)(hi:H[i]? =some x0)(hj:H[j]? =some y0):∃rest:Heap,H.Perm ([x0,y0]++rest)/\∀x y,((H.set i x).set j y).Perm ([x,y]++rest):=by
 have key:∃rest:Heap,∀x y,((H.set i x).set j y).Perm ([x,y]++rest):=by
  rcases Nat.lt_or_gt_of_ne hne with h|h
  ·refine⟨(H.eraseIdx j).eraseIdx i,λx y=> ?_⟩;have h1:=iW (H:=H.set i x) (i:=j) (x:=y0) y (by rw[List.getElem?_set_ne (by omega)];exact hj);rw[List.eraseIdx_set_gt h] at h1;have h2:=iW (H:=H.eraseIdx j) (i:=i) (x:=x0) x (by rw[List.getElem?_eraseIdx_of_lt h];exact hi);refine h1.symm.trans ?_
   refine(List.Perm.append_left [y] h2.symm).trans ?_
   exact List.Perm.swap x y _
  ·refine⟨(H.eraseIdx j).eraseIdx (i-1),λx y=> ?_⟩
   have h1:=iW (H:=H.set i x) (i:=j) (x:=y0) y (by rw[List.getElem?_set_ne (by omega)];exact hj)
   rw[List.eraseIdx_set_lt h] at h1
   have h2:=iW (H:=H.eraseIdx j) (i:=i-1) (x:=x0) x (by rw[List.getElem?_eraseIdx_of_ge (by omega),show i-1+1=i by omega];exact hi)
   refine h1.symm.trans ?_
   refine(List.Perm.append_left [y] h2.symm).trans ?_
   exact List.Perm.swap x y _
 obtain⟨rest,h⟩:=key
 refine⟨rest,?_,h⟩
 have:=h x0 y0
 have e1:H.set i x0=H:=by
  obtain⟨hl,he⟩:=List.getElem?_eq_some_iff.1 hi
  rw[<-he];exact List.set_getElem_self hl
 have e2:H.set j y0=H:=by
  obtain⟨hl,he⟩:=List.getElem?_eq_some_iff.1 hj
  rw[<-he];exact List.set_getElem_self hl
 rw[e1,e2] at this
 exact this
theorem CO {C:Ctx}{R:Seal}{H:Heap}{w:World}{b j:Nat}{p v:Value}(k:Nat)(h:MS C R (cE b p j v::H) w):MS C R (cE b p k v::H) w:=
 h.swap (i:=0) (x:=cE b p j v) (y:=cE b p k v) rfl rfl (h.heap.holds (cE b p j v) List.mem_cons_self)
theorem p5 {P:Program}{G:Glo}{f:FuncId}{avs:List AVal}{H H0:Heap}{Qf Qf':cK->Heap->Prop}(hb:∀k,k∈dk H↔k∈dk H0)(hpre:∀C R w,MS C R H0 w->MS C R H w)(h:ad P G f avs H Qf)
  (hq:∀r H',Qf r H'->∃H'',Qf' r H''/\∀C R w,MS C R H' w->MS C R H'' w):ad P G f avs H0 Qf':=by
 unfold ad at h ⊢;intro R w args hG hm ha;rcases h R w args hG ((hpre _ _ _ hm).blks_iff λk=>(hb k).symm) ha with⟨h1,h2⟩|⟨v,w',h1,res,H',R',q,er,hm'⟩
 ·exact .inl ⟨h1,h2.mono λe w' ⟨res,H',R',q,er,hm'⟩=>let ⟨H'',q',hc⟩:=hq _ _ q;⟨res,H'',R',q',er,hc _ _ _ (hm'.blks_iff hb)⟩⟩
 ·obtain⟨H'',q',hc⟩:=hq _ _ q;exact .inr ⟨v,w',h1,res,H'',R',q',er,hc _ _ _ (hm'.blks_iff hb)⟩
theorem Dd {P:Program}{G:Glo}{f:FuncId}{avs:List AVal}{b j k:Nat}{p v:Value}{H:Heap}{Qf Qf':cK->Heap->Prop}(h:ad P G f avs (cE b p k v::H) Qf)
  (hq:∀r H',Qf r H'->∃H'',Qf' r H''/\∀C R w,MS C R H' w->MS C R H'' w):ad P G f avs (cE b p j v::H) Qf':=
 p5 (H:=cE b p k v::H) (H0:=cE b p j v::H) (λ_=>Iff.rfl) (λ_ _ _ h=>CO k h) h hq
abbrev eE:HEnt:=.row (.slice none 0 0) none 1 0 []
theorem MS.spoil {C:Ctx}{R:Seal}{H:Heap}{w w':World}{i b:Nat}{x:HEnt}{o:Obj}(h:MS C R H w)(hi:H[i]? =some x)(hb:x.blk=some b)(hw:iJ w b o w'):MS C R (H.set i eE) w':=by
 obtain⟨a,c,rfl,hset⟩:=lh (y:=eE) hi;rw[hset];have hx:x∈a++x::c:=by simp
 have hRb:=h.heap.apart x hx b hb;have hnd:=h.heap.nodup;rw[List.filterMap_append,List.filterMap_cons,hb] at hnd;have hd:=List.nodup_append.1 hnd;have hother:∀z,z∈a\/z∈c->∀k,z.blk=some k->k≠b:=by
  rintro z hz k hk rfl;rcases hz with hz|hz
  ·exact hd.2.2 k (List.mem_filterMap.2 ⟨z,hz,hk⟩) k (by simp) rfl
  ·exact(List.nodup_cons.1 hd.2.1).1 (List.mem_filterMap.2 ⟨z,hz,hk⟩)
 have hmem:∀z,z∈a++eE::c->z=eE\/((z∈a\/z∈c)/\z∈a++x::c):=by
  intro z hz;simp only[List.mem_append,List.mem_cons] at hz ⊢;rcases hz with hz|hz|hz
  ·exact .inr ⟨.inl hz,.inl hz⟩
  ·exact .inl hz
  ·exact .inr ⟨.inr hz,.inr (.inr hz)⟩
 refine⟨?_,h.ge,h.fresh,⟨?_,?_,?_⟩,?_,?_⟩
 ·intro k o' hk;rw[hw.other k (by rintro rfl;rw[hRb] at hk;cases hk)];exact h.sealed k o' hk
 ·intro z hz;rcases hmem z hz with rfl|⟨hz',hz''⟩
  ·exact⟨rfl,.inl ⟨rfl,rfl⟩⟩
  ·exact HEnt.holds_mono (h.heap.holds z hz'') (Seal.le_refl R) λk hk=>hw.other k (hother z hz' k hk)
 ·rw[List.filterMap_append,List.filterMap_cons];refine List.nodup_append.2 ⟨hd.1,(List.nodup_cons.1 hd.2.1).2,λk hk l hl=>hd.2.2 k hk l (List.mem_cons_of_mem _ hl)⟩
 ·intro z hz k hk;rcases hmem z hz with rfl|⟨_,hz''⟩
  ·cases hk
  ·exact h.heap.apart z hz'' k hk
 ·intro z hz k hk;rcases hmem z hz with rfl|⟨_,hz''⟩
  ·cases hk
  ·exact h.own z hz'' k hk
 ·have hob:=h.own x hx b hb;refine⟨hw.os.trans h.ext.os,hw.tape.trans h.ext.tape,hw.output.trans h.ext.output,by rw[hw.size];exact h.ext.size,λk hk hB=> ?_⟩;rw[hw.other k (by rintro rfl;rcases hob with h1|h1;omega;exact hB h1)];exact h.ext.block k hk hB
theorem jR {P:Program}[Tab P]{G:Glo}{f:FuncId}{avs:List AVal}{H:Heap}{K Kp:AVal->Heap->Prop}{i j b:Nat}{p v:Value}{s s':List UInt8}{r:AVal}(hi:H[i]? =some (cE b p j v))(hj:H[j]? =some (eX v s))(hne:i≠j)
  (hs:ad P G f avs [cE b p 1 v,eX v s] (λx H=>∃va vk vc,x= .ret r/\H=[cE b (cS b) 1 (.slice va vk vc),eX (.slice va vk vc) s']))
  (k:∀va vk vc,cn ((H.set i (cE b (cS b) j (.slice va vk vc))).set j (eX (.slice va vk vc) s')) (K r)):Cx P G f avs H K Kp:=by
 obtain⟨rest,hp,hp2⟩:=qo hne hi hj;have h1:ad P G f avs [cE b p j v,eX v s] (λx H=>∃va vk vc,x= .ret r/\H=[cE b (cS b) j (.slice va vk vc),eX (.slice va vk vc) s']):=by
  refine Dd hs ?_;rintro x H' ⟨va,vk,vc,rfl,rfl⟩;exact⟨_,⟨va,vk,vc,rfl,rfl⟩,λC R w h=>CO j h⟩
 refine⟨λx H'=>∃va vk vc,x= .ret r/\H'=(H.set i (cE b (cS b) j (.slice va vk vc))).set j (eX (.slice va vk vc) s'),io (im (H1:=[cE b p j v,eX v s]++rest) hp.symm (ff rest h1)) ?_,?_,?_⟩
 ·rintro x H' ⟨H1',⟨va,vk,vc,rfl,rfl⟩,rfl⟩;exact⟨_,(hp2 _ _).symm,va,vk,vc,rfl,rfl⟩
 ·rintro v' H' ⟨va,vk,vc,e,rfl⟩;cases e;have:=k va vk vc;rw[aP] at this;exact this
 ·rintro v' H' ⟨va,vk,vc,e,rfl⟩;cases e
theorem MP {P:Program}[Tab P]{G:Glo}{f:FuncId}{avs:List AVal}{H:Heap}{K Kp:AVal->Heap->Prop}{i j b:Nat}{p v:Value}{s:List UInt8}{r:AVal}(hi:H[i]? =some (cE b p j v))(hj:H[j]? =some (eX v s))(hne:i≠j)
  (hs:ad P G f avs [cE b p 1 v,eX v s] (λx H=>x= .ret r/\H=[]))
  (k:cn ((H.set i eE).set j eE) (K r)):Cx P G f avs H K Kp:=by
 obtain⟨rest,hp,hp2⟩:=qo hne hi hj;have h1:ad P G f avs [cE b p j v,eX v s] (λx H=>x= .ret r/\H=[eE,eE]):=by
  refine Dd hs ?_;rintro x H' ⟨rfl,rfl⟩;exact⟨_,⟨rfl,rfl⟩,λC R w h=>(h.ghost 1).ghost 1⟩
 refine⟨λx H'=>x= .ret r/\H'=(H.set i eE).set j eE,io (im (H1:=[cE b p j v,eX v s]++rest) hp.symm (ff rest h1)) ?_,?_,?_⟩
 ·rintro x H' ⟨H1',⟨rfl,rfl⟩,rfl⟩;exact⟨_,(hp2 _ _).symm,rfl,rfl⟩
 ·rintro v' H' ⟨e,rfl⟩;cases e;rw[aP] at k;exact k
 ·rintro v' H' ⟨e,rfl⟩;cases e
theorem ce {G:Glo}{b:Nat}{p:Value}(hp:B9 b p)(v:Value)(s t:List UInt8)(hl:s.length+t.length<=137438953472):ad prog G 93 [.raw (cS b),.str t] [cE b p 1 v,eX v s]
  (λr H=>∃va vk vc,r= .ret (.tuple [.int .i64 t.length,.raw .nilIface])/\H=[cE b (cS b) 1 (.slice va vk vc),eX (.slice va vk vc) (s++t)]):=by
 have hGL:ab G []:=aD;refine rN 0 func93 call93 rfl rfl rfl rfl hGL rfl ?_;intro C hC;repeat' (first|(conv=>whnf);first|refine .w ?_|refine .v ?_|refine bu ?_ ?_<;>(intro hb;try exact dd hb)|apply au|apply aM|(apply a6<;>intro hb)|(apply ba;intro hbd)|(apply aJ;exact iF hp _ _)|(apply ax (i:=0) rfl;exact iF hp _ _)|(apply bc;intro bl)|(apply bh;intro va vk vc hva)|(apply bg;intro v)|(apply bj;intro bl cap hcap)|apply bx|(apply bf<;>intro hnx)|apply ct mixed hC hGL (by kernel_rfl)|(apply cq;assumption;exact iF hp _ _;exact rfl)|(show Rt _ _ _;exact a7)|fail)
 all_goals try conv=>whnf
 refine GK hC hGL rfl rfl rfl rfl rfl rfl rfl rfl rfl rfl rfl rfl rfl rfl hl rfl ?_;intro va vk vc;refine aZ ?_;intros;exact⟨_,List.Sublist.refl _,va,vk,vc,rfl,by rw[In]⟩
theorem Mw {P:Program}{G:Glo}{f:FuncId}{avs:List AVal}{H:Heap}{Qf:cK->Heap->Prop}{i sz m:Nat}{v:Value}{eT:Option TypeId}{cs:List AVal}(hi:H[i]? =some (.row v eT sz m cs))
  (h:((v= .slice none 0 0/\m=0)\/∃g cap,v= .slice (some ⟨g,0,none⟩) m cap/\m<=cap)->ad P G f avs H Qf):ad P G f avs H Qf:=by
 unfold ad at h ⊢;intro R w args hG hm ha;obtain⟨_,hh⟩:=hm.heap.holds _ (List.mem_of_getElem? hi);refine h ?_ R w args hG hm ha;rcases hh with⟨rfl,rfl⟩|⟨g,cap,_,_,_,rfl,_,_,hle,_⟩
 ·exact .inl ⟨rfl,rfl⟩
 ·exact .inr ⟨g,cap,rfl,hle⟩
section
variable {P:Program} [Tab P] {C:Ctx} {n:Nat} {env:Env} {H:Heap} {Q:aK->Env->Heap->Prop} {ops:Array Oper} {rest:List Oper} {G:Glo} {GL:List (Nat×List AVal)}
variable {d:Nat} {t:TypeId} {p:String} {af:Array Edge} {g:Option (Nat×Bool)} {b:Bool} {x y:Operand}
omit [Tab P] in
theorem Ga {i k c:Nat}{a:Addr}{ts:Array TypeId}(hx:ae env x=some (.own i (.slice (some a) k c)))(hc:c≠0):bn P C H env (.call {callee:=.builtin .unsafeSliceData,args:=#[x],argTypes:=ts}) (.raw (.pointer (some a))):=by
 intro R ρ w hm hf dst t p af g;refine⟨.pointer (some a),?_,al.2 rfl⟩;have hr:=Lib.run_unsafeSliceData_row (P:=P) w ts t a k c hc;have e:(#[x].map ρ)=#[.slice (some a) k c]:=by simp[(aQ.1 (hf _ _ hx)).1]
 simp only[execOp,resolve,Sem.run_bind,Sem.run_pure,Result.andThen_ok,invoke,builtin,e,hr]
theorem GJ {i0 gb cap:Nat}{s:List UInt8}{pt it:TypeId}{e:TypeId}(hC:C.G=G)(hGL:ab G GL)(hg:aC ops env g=some (b,b))(hdn:Nat.ble (d+1) n=true)
  (hx:ae env x=some (.raw (cS gb))) (hy:ae env y=some (.int .i64 s.length)) (hi:H[i0]? =some (.row (.slice (some ⟨gb,0,none⟩) s.length cap) (some e) 1 s.length (oP s))) (hs:s≠[]) (hlen:s.length<=137438953472)
  (hp:P.underlying pt=some (.pointer e)) (hce:P.cellsOf e=1) (k:fO P C n G GL ops Q rest ((d,.str s)::env) (H.set i0 eE)):
  mm P C n ops ({dst:=some d,op:=.call {callee:=.builtin .unsafeString,args:=#[x,y],argTypes:=#[pt,it]},type:=t,pos:=p,after:=af,guard:=g}::rest) env H Q:=by
 refine⟨dg (X:=Unit) (av:=λ_=>.str s) (H':=λ_=>H.set i0 eE) hg rfl hdn (λR ρ w hm hf=> ?_) λ_=>bJ hC hGL _ _ _ k⟩;obtain⟨_,hh⟩:=hm.heap.holds _ (List.mem_of_getElem? hi);rcases hh with⟨h,_⟩|⟨g',cap',Cs,el,fz,h,hb,hcs,hle,hl,hfz,ht⟩
 ·cases h
 ·cases h;obtain rfl:=ht e rfl;rw[Nat.mul_one] at hcs hl;have hcell:∀j x,s[j]? =some x->w.cell? ((⟨gb,0,none⟩:Addr).add j)=some (.int .u8 x.toNat):=by
   intro j x hj;obtain⟨hj1,hj2⟩:=List.getElem?_eq_some_iff.1 hj;have:=sc (s:=s) (o:=0) hb (by rw[List.drop_zero];exact hl) j hj1;rw[hj2] at this;exact this
  have hsh:w.shape? gb=some (el,Cs.size):=by simp[World.shape?,hb]
  have hr:=Lib.run_unsafeString_row (P:=P) w pt it t el hp hce gb Cs.size hsh s hs (by omega) (by omega) hcell;have e2:(#[x,y].map ρ)=#[cS gb,.int .i64 s.length]:=by simp[al.1 (hf _ _ hx),am.1 (hf _ _ hy)]
  have hone:∃o,iJ w gb o (w.freeze ⟨gb,0,none⟩ s.length):=by
   have h0:s.length≠0:=by simpa using hs
   unfold World.freeze;rw[if_neg h0];obtain⟨lo,hi⟩:=fz;refine⟨.cells Cs el (if lo==hi then(0,0+s.length) else(min lo 0,max hi (0+s.length))),rfl,rfl,rfl,by simp,?_,?_⟩
   ·simp[Array.getElem?_modify,hb]
   ·intro k hk;simp[Array.getElem?_modify,Ne.symm hk]
  obtain⟨o,hone⟩:=hone;refine⟨(),.string ⟨s.toArray⟩,w.freeze ⟨gb,0,none⟩ s.length,R,?_,Seal.le_refl R,aF.2 rfl,hm.spoil hi rfl hone⟩;simp only[execOp,resolve,Sem.run_bind,Sem.run_pure,Result.andThen_ok,invoke,builtin,e2,hr]
omit [Tab P] in
theorem LO {i k c:Nat}{ts:Array TypeId}(hx:ae env x=some (.own i (.slice none k c))):bn P C H env (.call {callee:=.builtin .unsafeSliceData,args:=#[x],argTypes:=ts}) (.raw (.pointer none)):=by
 intro R ρ w hm hf dst t p af g
 refine⟨.pointer none,?_,al.2 rfl⟩
 have hr:=Lib.run_unsafeSliceData_nil (P:=P) w ts t k c;have e:(#[x].map ρ)=#[.slice none k c]:=by simp[(aQ.1 (hf _ _ hx)).1]
 simp only[execOp,resolve,Sem.run_bind,Sem.run_pure,Result.andThen_ok,invoke,builtin,e,hr]
omit [Tab P] in
theorem vj {pt it:TypeId}{a:Option Addr}(hx:ae env x=some (.raw (.pointer a)))(hy:ae env y=some (.int .i64 0)):bn P C H env (.call {callee:=.builtin .unsafeString,args:=#[x,y],argTypes:=#[pt,it]}) (.str []):=by
 intro R ρ w hm hf dst t p af g
 refine⟨.string .empty,?_,aF.2 rfl⟩
 have hr:=Lib.run_unsafeString_none (P:=P) w pt it t a;have e:(#[x,y].map ρ)=#[.pointer a,.int .i64 0]:=by simp[al.1 (hf _ _ hx),am.1 (hf _ _ hy)]
 simp only[execOp,resolve,Sem.run_bind,Sem.run_pure,Result.andThen_ok,invoke,builtin,e,hr]
theorem Jy {i0 i k gb:Nat}{ts:Array TypeId}{e:TypeId}{eT:Option TypeId}{cs:List AVal}(hC:C.G=G)(hGL:ab G GL)(hg:aC ops env g=some (b,b))(hdn:Nat.ble (d+1) n=true)
  (hx:ae env x=some (.own i (.slice (some ⟨gb,0,none⟩) k 0))) (hi:H[i0]? =some (.row (.slice (some ⟨gb,0,none⟩) k 0) eT 1 k cs)) (hp:P.underlying t=some (.pointer e))
  (kk:∀bl,fO P C n G GL ops Q rest ((d,.raw (cS bl))::env) H):
  mm P C n ops ({dst:=some d,op:=.call {callee:=.builtin .unsafeSliceData,args:=#[x],argTypes:=ts},type:=t,pos:=p,after:=af,guard:=g}::rest) env H Q:=by
 refine⟨dg (X:=Nat) (av:=λbl=>.raw (cS bl)) (H':=λ_=>H) hg rfl hdn (λR ρ w hm hf=> ?_) λbl=>bJ hC hGL _ _ _ (kk bl)⟩;obtain⟨_,hh⟩:=hm.heap.holds _ (List.mem_of_getElem? hi);rcases hh with⟨h,_⟩|⟨g',cap',Cs,el,fz,h,hb,hcs,hle,hl,hfz,ht⟩
 ·cases h
 ·cases h;have hr:=Lib.run_unsafeSliceData_zero (P:=P) w ts t e hp ⟨gb,0,none⟩ k (el,Cs.size) (by simp[World.shape?,hb]);have e2:(#[x].map ρ)=#[.slice (some ⟨gb,0,none⟩) k 0]:=by simp[(aQ.1 (hf _ _ hx)).1]
  refine⟨w.heap.size,cS w.heap.size,_,R.put w.heap.size (.view ⟨gb,0,none⟩ e),?_,Seal.put_le hm.seal_free,al.2 rfl,hm.alloc_sealed _⟩;simp only[execOp,resolve,Sem.run_bind,Sem.run_pure,Result.andThen_ok,invoke,builtin,e2,hr];rfl
end
theorem pQ {G:Glo}{b:Nat}{p:Value}(g cap:Nat)(s:List UInt8)(hs:s≠[])(hlen:s.length<=137438953472)(hc0:cap≠0):ad prog G 96 [.raw (cS b)] [cE b p 1 (.slice (some ⟨g,0,none⟩) s.length cap),eX (.slice (some ⟨g,0,none⟩) s.length cap) s] (λr H=>r= .ret (.str s)/\H=[cE b p 1 (.slice (some ⟨g,0,none⟩) s.length cap)]):=by
 have hGL:ab G []:=aD;refine rN 0 func96 call96 rfl rfl rfl rfl hGL rfl ?_;intro C hC;refine aT ?_;intros;refine dz mixed hC hGL false (λ(_:Unit)=>[(2,.str s)]) (λ_=>[cE b p 1 (.slice (some ⟨g,0,none⟩) s.length cap),eE]) .p1 (by kernel_rfl) ?_ ?_
 ·refine xm ?_;repeat' first|exact .n|apply Lc.mk
  all_goals intros
  all_goals (apply aO;assumption;exact hGL;exact Ga rfl hc0;exact rfl;exact rfl)
  all_goals (
   refine oS ?_
   intros
  )
  all_goals (apply GJ (i0:=1) (s:=s) (cap:=cap) (gb:=g);assumption;exact hGL;exact rfl;exact rfl;exact rfl;exact rfl;exact rfl;exact hs;exact hlen;exact underlying196;kernel_rfl)
  all_goals (
   refine oS ?_
   intros
  )
  all_goals (exact⟨(),⟨rfl,trivial⟩,rfl⟩)
 ·intro _;exact ez
theorem pP {G:Glo}{b:Nat}{p:Value}(g cap:Nat)(hc0:cap≠0):ad prog G 96 [.raw (cS b)] [cE b p 1 (.slice (some ⟨g,0,none⟩) 0 cap),eX (.slice (some ⟨g,0,none⟩) 0 cap) []] (λr H=>r= .ret (.str [])/\H=[cE b p 1 (.slice (some ⟨g,0,none⟩) 0 cap)]):=by
 have hGL:ab G []:=aD;refine rN 0 func96 call96 rfl rfl rfl rfl hGL rfl ?_;intro C hC;refine aT ?_;intros;refine dz mixed hC hGL false (λ(_:Unit)=>[(2,.str [])]) (λ_=>[cE b p 1 (.slice (some ⟨g,0,none⟩) 0 cap),eX (.slice (some ⟨g,0,none⟩) 0 cap) []]) .p1 (by kernel_rfl) ?_ ?_
 ·refine xm ?_;repeat' first|exact .n|apply Lc.mk
  all_goals intros
  all_goals (apply aO;assumption;exact hGL;exact Ga rfl hc0;exact rfl;exact rfl)
  all_goals (
   refine oS ?_
   intros
  )
  all_goals (apply aO;assumption;exact hGL;exact vj rfl rfl;exact rfl;exact rfl)
  all_goals (
   refine oS ?_
   intros
  )
  all_goals (exact⟨(),⟨rfl,trivial⟩,rfl⟩)
 ·intro _;exact ez
theorem pO {G:Glo}{b:Nat}{p:Value}:ad prog G 96 [.raw (cS b)] [cE b p 1 (.slice none 0 0),eX (.slice none 0 0) []] (λr H=>r= .ret (.str [])/\H=[cE b p 1 (.slice none 0 0)]):=by
 have hGL:ab G []:=aD;refine rN 0 func96 call96 rfl rfl rfl rfl hGL rfl ?_;intro C hC;refine aT ?_;intros;refine dz mixed hC hGL false (λ(_:Unit)=>[(2,.str [])]) (λ_=>[cE b p 1 (.slice none 0 0),eX (.slice none 0 0) []]) .p1 (by kernel_rfl) ?_ ?_
 ·refine xm ?_;repeat' first|exact .n|apply Lc.mk
  all_goals intros
  all_goals (apply aO;assumption;exact hGL;exact LO rfl;exact rfl;exact rfl)
  all_goals (
   refine oS ?_
   intros
  )
  all_goals (apply aO;assumption;exact hGL;exact vj rfl rfl;exact rfl;exact rfl)
  all_goals (
   refine oS ?_
   intros
  )
  all_goals (exact⟨(),⟨rfl,trivial⟩,rfl⟩)
 ·intro _;exact ez
theorem pN {G:Glo}{b:Nat}{p:Value}(g:Nat):ad prog G 96 [.raw (cS b)] [cE b p 1 (.slice (some ⟨g,0,none⟩) 0 0),eX (.slice (some ⟨g,0,none⟩) 0 0) []] (λr H=>r= .ret (.str [])/\H=[cE b p 1 (.slice (some ⟨g,0,none⟩) 0 0)]):=by
 have hGL:ab G []:=aD;refine rN 0 func96 call96 rfl rfl rfl rfl hGL rfl ?_;intro C hC;refine aT ?_;intros;refine dz mixed hC hGL false (λ(_:Unit)=>[(2,.str [])]) (λ_=>[cE b p 1 (.slice (some ⟨g,0,none⟩) 0 0),eX (.slice (some ⟨g,0,none⟩) 0 0) []]) .p1 (by kernel_rfl) ?_ ?_
 ·refine xm ?_;repeat' first|exact .n|apply Lc.mk
  all_goals intros
  all_goals (apply Jy (i0:=1);assumption;exact hGL;exact rfl;exact rfl;exact rfl;exact rfl;exact underlying196;intro bl)
  all_goals (
   refine oS ?_
   intros
  )
  all_goals (apply aO;assumption;exact hGL;exact vj rfl rfl;exact rfl;exact rfl)
  all_goals (
   refine oS ?_
   intros
  )
  all_goals (exact⟨(),⟨rfl,trivial⟩,rfl⟩)
 ·intro _;exact ez
theorem wD {G:Glo}{b:Nat}{p v:Value}(s:List UInt8)(hlen:s.length<=137438953472):ad prog G 96 [.raw (cS b)] [cE b p 1 v,eX v s] (λr H=>r= .ret (.str s)/\H=[cE b p 1 v]):=by
 refine Mw (i:=1) rfl ?_;rintro(⟨rfl,h0⟩|⟨g,cap,rfl,hc⟩)
 ·obtain rfl:s=[]:=List.eq_nil_of_length_eq_zero h0;exact pO
 ·by_cases hs:s=[]
  ·subst hs;by_cases hc0:cap=0
   ·subst hc0;exact pN g
   ·exact pP g cap hc0
  ·have h1:s.length≠0:=by simpa using hs
   exact pQ g cap s hs hlen (by omega)
theorem sg {G:Glo}{b:Nat}{p v:Value}(s:List UInt8)(hlen:s.length<=137438953472):ad prog G 96 [.raw (cS b)] [cE b p 1 v,eX v s] (λr H=>r= .ret (.str s)/\H=[]):=
 p5 (λ_=>Iff.rfl) (λ_ _ _ h=>h) (wD s hlen) λr H' ⟨e,eH⟩=>⟨[],⟨e,rfl⟩,λ_ _ _ h=>h.drop (List.nil_sublist _)⟩
end
section
attribute [local irreducible] bI ap aa az aW ab ad
attribute [local irreducible] aA fp gt dO ga dQ
def lO (r:Int):Bool:=decide (0<=r/\r<=1114111/\(r<55296\/57343<r))
theorem mC {r:Int}:lO r=true↔(0<=r/\r<=1114111/\(r<55296\/57343<r)):=by simp[lO]
theorem Mb {r:Int}:lO r=false↔¬(0<=r/\r<=1114111/\(r<55296\/57343<r)):=by simp[lO]
attribute [local irreducible] lO
theorem lf {G:Glo}(r:Int):an prog G 253 [.int .i64 r] (.bool (lO r)):=by
 refine aw func253 call253 λC hC hGL=> ?_;refine xw ?_;repeat' first|exact .n|apply Lc.mk
 all_goals intros
 all_goals (apply aj)
 all_goals (refine congrArg AVal.bool ?_)
 all_goals (rw[Bool.eq_iff_iff];simp[mC,mf,jU,Bool.not_eq_true']<;>omega)
theorem DD {k j:IntKind}{a b c e:Int}{H':Heap}(h:c=a/\e=b):Rt (λ(x:cK) (H:Heap)=>x= .ret (.tuple [.int k c,.int j e])/\H=[]) (.tuple [.int k a,.int j b]) H':=by
 obtain⟨rfl,rfl⟩:=h;exact aj rfl
theorem xh {G:Glo}(s:List UInt8):an prog G 232 [.str s] (.tuple [.int .i64 ((aA s).1:Int),.int .i64 ((aA s).2:Int)]):=by
 refine aw func232 call232 λC hC hGL=> ?_;repeat' (first|(conv=>whnf);first|refine .w ?_|refine .v ?_|refine bu ?_ ?_<;>(intro hb;try exact dd hb)|apply au|apply aM|(apply a6<;>intro hb)|(apply ba;intro hbd)|(apply aJ;exact lf _)|(apply ax (i:=0) rfl;exact lf _)|(apply bc;intro bl)|(apply bh;intro va vk vc hva)|(apply bg;intro v)|(apply bj;intro bl cap hcap)|apply bx|(apply bf<;>intro hnx)|apply ct mixed hC hGL (by kernel_rfl)|(apply cq;assumption;exact lf _;exact rfl)|(show Rt _ _ _;exact a7)|fail)
 all_goals try conv=>whnf
 any_goals (refine ja hC hGL 4 ?_)
 repeat' (first|(conv=>whnf);first|refine .w ?_|refine .v ?_|refine bu ?_ ?_<;>(intro hb;try exact dd hb)|apply au|apply aM|(apply a6<;>intro hb)|(apply ba;intro hbd)|(apply aJ;exact lf _)|(apply ax (i:=0) rfl;exact lf _)|(apply bc;intro bl)|(apply bh;intro va vk vc hva)|(apply bg;intro v)|(apply bj;intro bl cap hcap)|apply bx|(apply bf<;>intro hnx)|apply ct mixed hC hGL (by kernel_rfl)|(apply cq;assumption;exact lf _;exact rfl)|(show Rt _ _ _;exact a7)|fail)
 all_goals try conv=>whnf
 all_goals (refine DD ?_)
 all_goals (
  try simp only[show Int.toNat 0=0 from rfl,show Int.toNat 1=1 from rfl,show Int.toNat (1+1)=2 from rfl,show Int.toNat (1+1+1)=3 from rfl,Int.ofNat_toNat,mC,Mb,mf,jU] at*
  generalize hz:aA s=z
  unfold aA bH gp cp2 uD uC at hz
  generalize aa s 0=b0 at*
  generalize aa s 1=b1 at*
  generalize aa s 2=b2 at*
  generalize aa s 3=b3 at*
  generalize s.length=l at*)
 all_goals (
  repeat' (split at hz;try (exfalso;omega))
  all_goals (try subst z)
  all_goals (first
   |exact⟨rfl,rfl⟩
   |(simp only[Bool.and_eq_true,Bool.or_eq_true,decide_eq_true_eq,beq_iff_eq] at*;first|(exfalso;omega)|omega)))
end
section
attribute [local irreducible] bI ap aa az aW ab ad
attribute [local irreducible] aA fp gt dO ga dQ
theorem Ce {G:Glo}(s:List UInt8)(hl:s.length<=9223372036854775807):an prog G 190 [.str s] (.int .i64 (fp s)):=by
 refine aw func190 call190 λC hC hGL=> ?_;have hle:=λk=>nn (s.drop k);have k1:=@xh;refine aZ ?_;intros;refine lp hC hGL (λ(i:Nat)=>[(0,.str s),(3,.int .i64 i)]) (λ_=>[]) (λi=>i<=s.length/\gt s=(gt (s.drop i)).map (· +i)) (λi=>s.length-i) 0 ?_ ai rfl ?_
 ·exact⟨Nat.zero_le _,by simp⟩
 rintro i ⟨hi,hb0⟩;have hn:=hle i;rw[List.length_drop] at hn;have k1:=@xh;refine xw ?_;repeat' first|exact .n|apply Lc.mk
 all_goals intros
 ·apply aj;refine congrArg (AVal.int .i64) ?_;have h1:=lK (s.drop i) (by rw[List.length_drop];omega);rw[if_pos (by omega)] at h1;rw[h1] at hb0;simp only[fp,hb0,Option.map_some,Nat.zero_add]
 ·have h1:=lK (s.drop i) (by rw[List.length_drop];omega);rw[if_neg (by omega)] at h1;refine db (i+(aA (s.drop i)).2) ?_ ?_ ai rfl
  ·refine⟨by omega,?_⟩;rw[hb0,h1,List.drop_drop];cases gt (s.drop (i+(aA (s.drop i)).2))<;>simp<;>omega
  ·omega
 ·apply aj;refine congrArg (AVal.int .i64) ?_;rw[zJ (s.drop i) (by rw[List.length_drop];omega)] at hb0;simp only[fp,hb0,Option.map_none]
end
section
attribute [local irreducible] bI ap aa az aW ab ad
attribute [local irreducible] aA fp gt dO ga dQ lO
theorem z7 {G:Glo}(r:Int):an prog G 242 [.int .i32 r] (.bool (lO r)):=by
 refine aw func242 call242 λC hC hGL=> ?_;refine xw ?_;repeat' first|exact .n|apply Lc.mk
 all_goals intros
 all_goals (apply aj;refine congrArg AVal.bool ?_)
 all_goals (rw[Bool.eq_iff_iff];simp[mC,mf,jU,Bool.not_eq_true']<;>omega)
theorem J7 {r:Int}(hz:0<=r/\r<=1114111/\(r<55296\/57343<r)):(Utf8.encode r).data.toList=
  if r.toNat<128 then[UInt8.ofNat r.toNat] else if r.toNat<2048 then[UInt8.ofNat (192+r.toNat/64),UInt8.ofNat (128+r.toNat%64)]
  else if r.toNat<65536 then[UInt8.ofNat (224+r.toNat/4096),UInt8.ofNat (128+r.toNat/64%64),UInt8.ofNat (128+r.toNat%64)]
  else[UInt8.ofNat (240+r.toNat/262144),UInt8.ofNat (128+r.toNat/4096%64),UInt8.ofNat (128+r.toNat/64%64),UInt8.ofNat (128+r.toNat%64)]:=by
 have hv:Utf8.valid r=true:=by simp[Utf8.valid];omega
 unfold Utf8.encode;simp only[hv,if_true]
 (repeat' split)<;>first|rfl|omega
end
section
theorem JD {x:UInt8}{t:List UInt8}(h:x.toNat<128):aA (x::t)=(x.toNat,1):=by
 unfold aA;simp[aa,h]
theorem AJ {x:UInt8}{t:List UInt8}(h:x.toNat<128):ga (x::t)=x.toNat/\dO (x::t)=1:=by
 unfold ga dO;rw[JD h];simp
theorem Lw {a b:UInt8}:aa [a,b] 1=b.toNat:=rfl
def Ow (Q:aK->Env->Heap->Prop):aK->Env->Heap->Prop
 |.goto _,_,_=>False
 |x,e,h=>Q x e h
theorem kW {P:Program}[Tab P]{C:Ctx}{n:Nat}{env:Env}{H:Heap}{Q:aK->Env->Heap->Prop}{c:Code}{G:Glo}{GL:List (Nat×List AVal)}(hC:C.G=G)(hGL:ab G GL)(h:eQ P C n G GL c env H (Ow Q)):Cd P C n (.scope c) env H Q:=by
 refine⟨λR a w hm hf=>wp_scope_straight (wp_mono (co hC hGL c _ _ _ h R a w hm hf) ?_)⟩;rintro ex a w ⟨x,e,h,R,hq,hr,hm,hf⟩;cases x with
 |goto l=>exact hq.elim
 |normal=>simp only[aG] at hr;subst hr;exact⟨.normal,e,h,R,hq,rfl,hm,hf⟩
 |exit i=>simp only[aG] at hr;subst hr;exact⟨.exit i,e,h,R,hq,rfl,hm,hf⟩
 |ret=>simp only[aG] at hr;subst hr;exact⟨.ret,e,h,R,hq,rfl,hm,hf⟩
 |panic v=>
  obtain⟨x,rfl,hx⟩:=hr;exact⟨.panic v,e,h,R,hq,⟨x,rfl,hx⟩,hm,hf⟩
attribute [local irreducible] bI ap aa az aW ab ad
attribute [local irreducible] aA fp gt dO ga dQ lO
end
section
theorem yH (t:List UInt8)(h:(aA t).2≠0):((aA t).1<128->(aA t).2=1/\aa t 0=(aA t).1)/\(128<=(aA t).1->∀j,j<(aA t).2->128<=aa t j)/\lO (aA t).1=true:=by
 have hb:=bG t 0;rw[mC];revert h
 unfold aA;repeat' split
 all_goals (intro h;try (exact absurd rfl h))
 all_goals (simp only[bH,gp,Bool.and_eq_true,Bool.or_eq_true,decide_eq_true_eq,beq_iff_eq] at*)
 ·refine⟨λ_=>by simp,λh=>by omega,by omega⟩
 ·refine⟨λh=>by omega,λ_ j hj=> ?_,by omega⟩;obtain rfl|rfl:j=0\/j=1:=by omega
  all_goals omega
 ·refine⟨λh=>by omega,λ_ j hj=> ?_,by omega⟩;obtain rfl|rfl|rfl:j=0\/j=1\/j=2:=by omega
  all_goals omega
 ·refine⟨λh=>by omega,λ_ j hj=> ?_,by omega⟩;obtain rfl|rfl|rfl|rfl:j=0\/j=1\/j=2\/j=3:=by omega
  all_goals omega
theorem A2 (t:List UInt8)(h:(aA t).2=0)(h0:t.length≠0):128<=aa t 0:=by
 rcases Nat.lt_or_ge (aa t 0) 128 with h1|h1
 ·exfalso;revert h
  unfold aA;rw[if_neg h0,if_pos h1];simp
 ·exact h1
theorem eq {s:List UInt8}{i:Nat}{x:UInt8}(h:s[i]? =some x):x.toNat=aa s i:=by simp[aa,List.getD,h]
attribute [local irreducible] bI ap aa az aW ab ad
attribute [local irreducible] aA fp gt dO ga dQ lO
theorem Ax {G:Glo}(n:Int):an prog G 206 [.int .i64 n] (.bool (lP 8 n)):=by
 refine aw func206 call206 λC hC hGL=> ?_;exact bK
theorem D3 (t:List UInt8)(h0:t.length≠0):lO (ga t:Int)=true/\0<dO t/\dO t<=t.length/\((ga t:Int)<128->dO t=1/\(aa t 0:Int)=ga t)/\(128<=(ga t:Int)->∀j,j<dO t->128<=aa t j):=by
 have hle:=nn t;by_cases hn:(aA t).2=0
 ·have h1:=A2 t hn h0;unfold ga dO;rw[if_pos hn,if_pos hn];refine⟨by rw[mC];omega,by omega,by omega,λh=>by omega,λ_ j hj=>by rw[show j=0 by omega];exact h1⟩
 ·have h1:=yH t hn;unfold ga dO;rw[if_neg hn,if_neg hn];refine⟨h1.2.2,by omega,hle.1,λh=> ?_,λh=>h1.2.1 (by omega)⟩;have:=h1.1 (by omega);omega
end
end Go.Proofs.YtmdhmodenkjmdaaGreatDoor
