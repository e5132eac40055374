/- Parts of the proof of jcardReads_card. -/
import Derived.Lib.ItoaNum
import Derived.Lib.Join
import Derived.Lib.Split
import Derived.Lib.Builder
import Derived.Lib.UnsafeStr
import Derived.Scope
import Derived.Test.YtpgdnpielhfpgaaGreatDoorBae
set_option linter.unusedVariables false
set_option linter.unusedSimpArgs false
set_option linter.unusedSectionVars false
namespace Go.Proofs.YtpgdnpielhfpgaaGreatDoor
open Go Go.RowKit
open Tryz
set_option maxRecDepth 20000
set_option maxHeartbeats 4000000
section
def dc (n:Int):List UInt8:=bL [48+n/10,48+n%10]
def uS (n:Int):Bool:=decide (-840<=n/\n<=840)
theorem uR {n:Int}:uS n=true↔(-840<=n/\n<=840):=by simp[uS]
theorem R8 {n:Int}:uS n=false↔¬(-840<=n/\n<=840):=by simp[uS]
def jp (n:Int):List UInt8:=if uS n then(if n=0 then[90] else if n<0 then([45]++dc ((0-n)/60))++dc ((0-n)%60) else([43]++dc (n/60))++dc (n%60)) else[]
def lj (n:Int):Err:=if uS n then .none else .errno 2
attribute [local irreducible] bN aw aa aC bg ab ae
attribute [local irreducible] uS
theorem pu {G:Glo}(n:Int):aj prog G 153 [.int .i64 n] (.bool (uS n)):=by
 refine ao func153 call153 λC hC hGL=> ?_;refine xw ?_;repeat' first|exact .n|apply Lc.mk
 all_goals intros
 all_goals (apply ak;refine congrArg AVal.bool ?_;rw[Bool.eq_iff_iff];simp only[uR,reduceCtorEq,false_iff,true_iff,Bool.not_eq_true',mW];omega)
theorem iS {G:Glo}(n:Int):aj prog G 113 [.int .i64 n] (.bool (uS n)):=by
 refine ao func113 call113 λC hC hGL=> ?_;have hw:=eY (G:=G) n (-840) 840;refine a6 ?_;intros;apply ak;refine congrArg AVal.bool ?_;rw[Bool.eq_iff_iff,uR];simp
theorem K2 {G:Glo}(n:Int)(h0:0<=n)(h1:n<100):aj prog G 230 [.int .i64 n] (.str (dc n)):=by
 refine ao func230 call230 λC hC hGL=> ?_;refine a6 ?_;intros;refine aP hC hGL (cW [_,_] rfl (by intro v hv;simp only[List.mem_cons,List.not_mem_nil,or_false] at hv;omega) rfl rfl rfl rfl rfl rfl) rfl rfl ?_;exact ba
theorem iX (n:Int):(dc n).length=2:=rfl
attribute [local irreducible] dc
theorem uT {G:Glo}(n:Int):aj prog G 203 [.int .i64 n] (.tuple [.str (jp n),(lj n).A]):=by
 refine ao func203 call203 λC hC hGL=> ?_;have h1:=pu (G:=G) n;have k2:=λk h0 h1=>K2 (G:=G) k h0 h1;have l1:=iX ((0-n)/60);have l2:=iX ((0-n)%60)
 have l3:=iX (n/60)
 have l4:=iX (n%60)
 cases hz:uS n with
 |false=>
  rw[hz] at h1
  refine a6 ?_
  intros
  apply ak
  rw[jp,lj,hz]
  rfl
 |true=>
  rw[hz] at h1
  have hz2:=uR.1 hz
  refine xw ?_
  repeat' first|exact .n|apply Lc.mk
  all_goals intros
  ·apply ak
   rw[jp,lj,hz,if_pos rfl,if_pos (by omega)]
   rfl
  ·apply ak
   rw[jp,lj,hz,if_pos rfl,if_neg (by omega),if_pos (by omega)]
   rfl
  ·apply ak
   rw[jp,lj,hz,if_pos rfl,if_neg (by omega),if_neg (by omega)]
   rfl
theorem tX {G:Glo}(i:Nat)(hi:i<100):aj prog G 239 [.int .i64 (i:Int),.int .i64 10] (.str (Lib.decDigits i)):=by
 refine bO rfl call239 ?_;intro R args hr w _ _;obtain⟨x,t,e,hx,y,t',e',hy,rfl⟩:=hr;have hx:=aq.1 hx;have hy:=aq.1 hy;subst hx hy;obtain rfl:args=#[.int .i64 (i:Int),.int .i64 10]:=by cases args;simp_all
 refine(strconv_FormatInt_10_small i hi w).mono ?_;rintro e w' ⟨rfl,rfl⟩;exact⟨rfl,Below.refl _ _⟩
theorem lq {i:Nat}(h:i<10):Lib.decDigits i=[UInt8.ofNat (48+i)]:=by
 rw[Lib.decDigits,dif_pos h]
theorem lm {i:Nat}(h:10<=i)(h1:i<100):Lib.decDigits i=[UInt8.ofNat (48+i/10),UInt8.ofNat (48+i%10)]:=by
 rw[Lib.decDigits,dif_neg (by omega),lq (by omega)];rfl
theorem LF (i:Nat):dc (i:Int)=[UInt8.ofNat (48+i/10),UInt8.ofNat (48+i%10)]:=by
 unfold dc bL;simp only[List.map];rw[show(48+(i:Int)/10).toNat=48+i/10 by omega,show(48+(i:Int)%10).toNat=48+i%10 by omega]
theorem nv {G:Glo}(i:Nat)(h1:i<100):aj prog G 214 [.int .i64 (i:Int),.int .i64 10,.int .i64 2] (.str (dc i)):=by
 refine ao func214 call214 λC hC hGL=> ?_;have hf:=tX (G:=G) i h1;rw[LF];by_cases h:i<10
 ·rw[lq h] at hf;refine a6 ?_;intros;refine og hC hGL 2 ?_;refine a6 ?_;intros;apply ak;rw[show i/10=0 by omega,show i%10=i by omega];rfl
 ·rw[lm (by omega) h1] at hf;refine a6 ?_;intros;refine og hC hGL 1 ?_;exact ba
theorem o8 {G:Glo}(n:Int):aj prog G 179 [.int .i64 n] (.tuple [.str (jp n),.int .i64 (lj n).e]):=by
 refine ao func179 call179 λC hC hGL=> ?_;have h1:=iS (G:=G) n;have k2:=λ(k:Int) (h0:0<=k) (h1:k<100)=>(show aj prog G 214 [.int .i64 k,.int .i64 10,.int .i64 2] (.str (dc k)) by obtain⟨i,rfl⟩:=Int.eq_ofNat_of_zero_le h0;exact nv i (by omega));have l1:=iX ((0-n)/60);have l2:=iX ((0-n)%60);have l3:=iX (n/60);have l4:=iX (n%60);cases hz:uS n with
 |false=>
  rw[hz] at h1;refine a6 ?_;intros;apply ak;rw[jp,lj,hz];rfl
 |true=>
  rw[hz] at h1;have hz2:=uR.1 hz;refine xw ?_;repeat' first|exact .n|apply Lc.mk
  all_goals intros
  ·apply ak;rw[jp,lj,hz,if_pos rfl,if_pos (by omega)];rfl
  ·apply ak;rw[jp,lj,hz,if_pos rfl,if_neg (by omega),if_pos (by omega)];rfl
  ·apply ak;rw[jp,lj,hz,if_pos rfl,if_neg (by omega),if_neg (by omega)];rfl
end
section
def aB (n:Int):Bool:=decide (n≠ -1)
theorem mT {n:Int}:aB n=true↔n≠ -1:=by simp[aB]
theorem Hm {n:Int}:aB n=false↔n= -1:=by simp[aB]
def U9 (b:Bool):UInt8:=if b then 57 else 45
def xV (a b c:Bool):List UInt8:=[U9 a,U9 b,U9 c]
def dT:Bool->Bool->Bool->Int
 |false,false,false=>0
 |true,false,false=>1
 |true,true,false=>2
 |true,true,true=>3
 |false,true,false=>4
 |false,true,true=>5
 |false,false,true=>6
 |true,false,true=> -1
def ub (y m:Int):Int:=
 if m<1\/12<m then 0
 else if m=2 then(if y≠ -1/\(y.tmod 4≠0\/y.tmod 100=0/\y.tmod 400≠0) then 28 else 29)
 else if m=4\/m=6\/m=9\/m=11 then 30 else 31
def eX (n lo hi:Int):Bool:=decide (n= -1\/lo<=n/\n<=hi)
theorem uX {n lo hi:Int}:eX n lo hi=true↔(n= -1\/lo<=n/\n<=hi):=by simp[eX]
theorem SQ {n lo hi:Int}:eX n lo hi=false↔¬(n= -1\/lo<=n/\n<=hi):=by simp[eX]
structure Stm where
 y:Int
 m:Int
 d:Int
 h:Int
 i:Int
 s:Int
 z:Bool
 o:Int
def Stm.A (t:Stm):AVal:=.agg [.int .i64 t.y,.int .i64 t.m,.int .i64 t.d,.int .i64 t.h,.int .i64 t.i,.int .i64 t.s,.bool t.z,.int .i64 t.o]
def TM (d t:Int):Bool:=decide (0<=d/\0<=t/\¬(d=0/\t=0)/\(0<d/\0<t->(d=3\/d=5\/d=6)/\t<=3))
def Stm.dn (t:Stm):Int:=dT (aB t.y) (aB t.m) (aB t.d)
def Stm.tn (t:Stm):Int:=dT (aB t.h) (aB t.i) (aB t.s)
def Stm.frm (t:Stm):Bool:=TM t.dn t.tn&&(if t.z then aB t.h else decide (t.o=0))
def Stm.day (t:Stm):Int:=if t.m= -1 then 31 else ub t.y t.m
def Stm.rng (t:Stm):Bool:=eX t.y 0 9999&&(eX t.m 1 12&&(eX t.d 1 t.day&&(eX t.h 0 23&&(eX t.i 0 59&&(eX t.s 0 59&&uS t.o)))))
def Stm.e (t:Stm):Int:=if t.frm then(if t.rng then 0 else 2) else 3
def Stm.E (t:Stm):Err:=if t.frm then(if t.rng then .none else .errno 2) else .errno 3
theorem Stm.E_e (t:Stm):t.E.e=t.e:=by unfold Stm.E Stm.e;(repeat' split)<;>rfl
theorem Stm.E_p (t:Stm):t.E.p= -1:=by unfold Stm.E;(repeat' split)<;>rfl
def jh (n:Int):List UInt8:=bL [48+n/1000,48+n/100%10,48+n/10%10,48+n%10]
def nS (a b c:Bool)(y m d:Int):List UInt8:=match a,b,c with
 |true,false,false=>jh y
 |true,true,false=>(jh y++[45])++dc m
 |true,true,true=>(jh y++dc m)++dc d
 |false,true,false=>[45,45]++dc m
 |false,true,true=>([45,45]++dc m)++dc d
 |false,false,true=>[45,45,45]++dc d
 |_,_,_=>[]
def mU (a b c:Bool)(h m s:Int):List UInt8:=match a,b,c with
 |true,false,false=>[84]++dc h
 |true,true,false=>([84]++dc h)++dc m
 |true,true,true=>(([84]++dc h)++dc m)++dc s
 |false,true,false=>([84]++[45])++dc m
 |false,true,true=>(([84]++[45])++dc m)++dc s
 |false,false,true=>(([84]++[45])++[45])++dc s
 |_,_,_=>[]
def Stm.txt (t:Stm):List UInt8:=nS (aB t.y) (aB t.m) (aB t.d) t.y t.m t.d++mU (aB t.h) (aB t.i) (aB t.s) t.h t.i t.s++(if t.z then jp t.o else[])
def Stm.T (t:Stm):List UInt8:=if t.frm then(if t.rng then t.txt else[]) else[]
def jk:List UInt8->List UInt8->List UInt8
 |[],_=>[]
 |c::r,all=>if c=57 then(match all with|x::t=>x::jk r t|[]=>[]) else c::jk r all
end
section
attribute [local irreducible] bN aw aa aC bg ab ae
def jO (c:Int):List UInt8->Nat->Int
 |[],_=> -1
 |x::t,k=>if(x.toNat:Int)=c then k else jO c t (k+1)
def bj (s:List UInt8)(c:Int):Int:=jO c s 0
theorem zH {c:UInt8}(b:ByteArray):∀(t:List UInt8) (k:Nat),(∀j,j<t.length->b[k+j]! =t.getD j 0)->
  (match (List.range' k t.length).find? λi=>b[i]! ==c with|some i=>(i:Int)|none=> -1)=jO (c.toNat:Int) t k
 |[],_,_=>by simp[jO]
 |x::t,k,h=>by
  have h0:=h 0 (by simp);simp only[Nat.add_zero,List.getD_cons_zero] at h0;rw[List.length_cons,List.range'_succ,List.find?_cons,h0];by_cases e:x=c
  ·subst e;simp[jO]
  ·have e1:(x==c)=false:=by simpa using e
   rw[e1];have e2:¬((x.toNat:Int)=(c.toNat:Int)):=by
    intro h;exact e (UInt8.toNat_inj.1 (by omega))
   simp only[jO,if_neg e2];exact zH b t (k+1) (λj hj=>by
    have:=h (j+1) (by simpa using hj);rw[show k+1+j=k+(j+1) by omega,this];simp)
theorem lW {G:Glo}(s:List UInt8)(c:Int)(h0:0<=c)(h1:c<=255):aj prog G 163 [.str s,.int .u8 c] (.int .i64 (bj s c)):=by
 refine dH func163 (by kernel_rfl) (by kernel_rfl) (by kernel_rfl) (e:=Go.Extern.BytealgIndexByte.indexByte) (by kernel_rfl) ?_;intro R args ha w;obtain⟨x,t,e,hx,y,t',e',hy,rfl⟩:=ha;have hx:=aI.1 hx;have hy:=aq.1 hy;subst hx hy;obtain rfl:args=#[.string ⟨s.toArray⟩,.int .u8 c]:=by cases args;simp_all
 refine⟨.int .i64 (bj s c),?_,aq.2 rfl⟩;have hc:(c.toNat.toUInt8).toNat=c.toNat:=by
  show(UInt8.ofNat c.toNat).toNat=_;rw[UInt8.toNat_ofNat'];omega
 have key:=zH (c:=c.toNat.toUInt8) ⟨s.toArray⟩ s 0 (λj hj=>by
  rw[Nat.zero_add];rw[getElem!_pos (⟨s.toArray⟩:ByteArray) j (by rw[bG];exact hj)];show s.toArray[j]=_;simp[List.getD,hj])
 rw[hc,Int.toNat_of_nonneg h0] at key;have e:Go.Extern.BytealgIndexByte.indexByte #[.string ⟨s.toArray⟩,.int .u8 c]=(match (List.range (⟨s.toArray⟩:ByteArray).size).find? λi=>(⟨s.toArray⟩:ByteArray)[i]! ==c.toNat.toUInt8 with|some i=>pure (goInt i)|none=>pure (goInt (-1))):=rfl;rw[e,bG,List.range_eq_range'];unfold bj;rw[<-key];generalize List.find? _ _=o;cases o<;>rfl
theorem iA {G:Glo}(s:List UInt8)(c:Int)(h0:0<=c)(h1:c<=255):aj prog G 101 [.str s,.int .u8 c] (.int .i64 (bj s c)):=by
 have hb:=lW (G:=G) s c h0 h1;refine ao func101 call101 λC hC hGL=> ?_;exact ba
theorem aX {G:Glo}(s:List UInt8)(c:Int)(h0:0<=c)(h1:c<=255):aj prog G 57 [.str s,.int .u8 c] (.int .i64 (bj s c)):=by
 have hb:=iA (G:=G) s c h0 h1;refine ao func57 call57 λC hC hGL=> ?_;exact ba
end
section
attribute [local irreducible] bN aw aa aC bg ab ae
attribute [local irreducible] bj
theorem tC {G:Glo}(s:List UInt8)(hs:s.length<=140737488355328)(ha:∀j,j<s.length->aa s j<128):aj prog G 58 [.str s] (.str (Lib.toLowerA s)):=by
 refine bO rfl call58 ?_;intro R args hr w _ _;obtain⟨x,t,e,hx,rfl⟩:=hr;have hx:=aI.1 hx;subst hx;obtain rfl:args=#[.string ⟨s.toArray⟩]:=by cases args;simp_all
 have:=strings_ToLower_ascii ⟨s.toArray⟩ w (by rw[bG];exact hs) (λj b hb=>by
  have hb':s[j]? =some b:=by simpa using hb
  have hj:=(List.getElem?_eq_some_iff.1 hb').1;have h2:=ha j hj;unfold aa at h2;simpa[List.getD,hb'] using h2)
 simp only[AVal.conc];simpa using this
def jo:List UInt8:=[65,66,67,68,69,70,71,72,73,74,75,76,77,78,79,80,81,82,83,84,85,86,87,88,89,90]
def abcL:List UInt8:=[97,98,99,100,101,102,103,104,105,106,107,108,109,110,111,112,113,114,115,116,117,118,119,120,121,122]
def Ok:List UInt8:=[48,49,50,51,52,53,54,55,56,57,45]
theorem kT {G:Glo}:aj prog G 58 [.str jo] (.str abcL):=by
 have h:=tC (G:=G) jo (by decide) (by decide+kernel);have e:Lib.toLowerA jo=abcL:=by decide
 rwa [e] at h
theorem mb {p:Int->Bool}(h:∀c:Fin 256,p (c.1:Int)=true){c:Int}(h0:0<=c)(h1:c<=255):p c=true:=by
 have:=h ⟨c.toNat,by omega⟩;simpa only[Int.toNat_of_nonneg h0] using this
theorem wM {c:Int}(h0:0<=c)(h1:c<=255):decide (bj ((jo++abcL)++Ok) c<0)= !cT c:=by
 have:=mb (p:=λc=>decide (bj ((jo++abcL)++Ok) c<0)== !cT c) (by decide+kernel) h0 h1;simpa using this
theorem vQ {G:Glo}(s:List UInt8)(hl:s.length<=9223372036854775807):aj prog G 118 [.str s] (.bool (isS s)):=by
 refine ao func118 call118 λC hC hGL=> ?_;have hT:=kT (G:=G);have hI:=λc h0 h1=>aX (G:=G) ((jo++abcL)++Ok) c h0 h1;have hW:=eY (G:=G) (s.length:Int) 1 40;repeat' (first|(conv=>whnf);first|refine .w ?_|refine .v ?_|refine cj ?_ ?_<;>(intro hb;try exact dd hb)|apply aF|apply bf|(apply bQ<;>intro hb)|(apply bR;intro hbd)|(apply bS;intro bl)|(apply cb;intro va vk vc hva)|(apply ca;intro v)|(apply cd;intro bl cap hcap)|apply cg|(apply bZ<;>intro hnx)|apply cK mixed hC hGL (by kernel_rfl)|(show Rt _ _ _;exact bK)|fail)
 all_goals try conv=>whnf
 refine lp hC hGL (λ(i:Nat)=>[(0,.str s),(6,.own 0 (.slice (some ⟨bl,0,none⟩) s.length cap)),(7,.int .i64 s.length),(8,.int .i64 i)]) (λ_=>[.buf bl s cap]) (λi=>i<=s.length/\∀j,j<i->cT (aa s j)=true) (λi=>s.length-i) 0 ?_ ad rfl ?_
 ·exact⟨Nat.zero_le _,by intro j hj;omega⟩
 rintro i ⟨hi,hb0⟩;repeat' (first|(conv=>whnf);first|refine .w ?_|refine .v ?_|refine cj ?_ ?_<;>(intro hb;try exact dd hb)|apply aF|apply bf|(apply bQ<;>intro hb)|(apply bR;intro hbd)|(apply aZ;first|exact hT|exact hW|(exact hI _ (by omega) (by omega)))|(apply aL (i:=0) rfl;first|exact hT|exact hW|(exact hI _ (by omega) (by omega)))|(apply bS;intro bl)|(apply cb;intro va vk vc hva)|(apply ca;intro v)|(apply cd;intro bl cap hcap)|apply cg|(apply bZ<;>intro hnx)|apply cK mixed hC hGL (by kernel_rfl)|(apply cq;assumption;(first|exact hT|exact hW|(exact hI _ (by omega) (by omega)));exact rfl)|(show Rt _ _ _;exact bK)|fail)
 all_goals try conv=>whnf
 ·apply ak;have hx:=wM (c:=(aa s i:Int)) (by omega) (by omega);rw[decide_eq_true hb] at hx;rw[isS,Pc (j:=i) (by omega) (by simpa using hx.symm)];rfl
 ·have hx:=wM (c:=(aa s i:Int)) (by omega) (by omega);rw[decide_eq_false (by omega)] at hx;refine di (i+1) ?_ ?_ ad rfl
  ·exact⟨by omega,bT hb0 (by simpa using hx.symm)⟩
  ·omega
 ·apply ak;refine congrArg AVal.bool ?_;have ha:Ha cT s=true:=xN.2 λj hj=>hb0 j (by omega);simp only[isS,ha,Bool.true_and];rw[Bool.eq_iff_iff];simp only[Bool.and_eq_true,decide_eq_true_eq];omega
theorem NG {c:Int}(h0:0<=c)(h1:c<=255):(if 0<=bj abcL c then bj abcL c<26/\(aa jo (bj abcL c).toNat:Int)=dK 97 122 (-32) c.toNat else dK 97 122 (-32) c.toNat=c):=by
 have:=mb (p:=λc=>decide (if 0<=bj abcL c then bj abcL c<26/\(aa jo (bj abcL c).toNat:Int)=dK 97 122 (-32) c.toNat else dK 97 122 (-32) c.toNat=c)) (by decide+kernel) h0 h1;simpa using this
theorem Ij {c:Int}(h0:0<=c)(h1:c<=255):(if 0<=bj jo c then bj jo c<26/\(aa abcL (bj jo c).toNat:Int)=dK 65 90 32 c.toNat else dK 65 90 32 c.toNat=c):=by
 have:=mb (p:=λc=>decide (if 0<=bj jo c then bj jo c<26/\(aa abcL (bj jo c).toNat:Int)=dK 65 90 32 c.toNat else dK 65 90 32 c.toNat=c)) (by decide+kernel) h0 h1;simpa using this
theorem sf {G:Glo}(s:List UInt8)(hl:s.length<=9223372036854775807):aj prog G 34 [.str s] (.str (al 97 122 (-32) s)):=by
 refine ao func34 call34 λC hC hGL=> ?_;have hT:=kT (G:=G);have hcT:=call58;have hcI:=call57;have hI:=λc h0 h1=>aX (G:=G) abcL c h0 h1;have eU:jo.length=26:=rfl;repeat' (first|(conv=>whnf);first|refine .w ?_|refine .v ?_|refine cj ?_ ?_<;>(intro hb;try exact dd hb)|apply aF|apply bf|(apply bQ<;>intro hb)|(apply bR;intro hbd)|(apply bS;intro bl)|(apply cb;intro va vk vc hva)|(apply ca;intro v)|(apply cd;intro bl cap hcap)|apply cg|(apply bZ<;>intro hnx)|apply cK mixed hC hGL (by kernel_rfl)|(show Rt _ _ _;exact bK)|fail)
 all_goals try conv=>whnf
 refine lp hC hGL (λ(x:Nat×List UInt8)=>[(3,.own 0 (.slice (some ⟨bl,0,none⟩) s.length cap)),(9,.int .i64 s.length),(10,.int .i64 x.1)]) (λx=>[.buf bl x.2 cap]) (lu 97 122 (-32) s) (λx=>s.length-x.1) (0,s) ?_ ad rfl ?_
 ·exact ve
 rintro⟨i,t⟩ hI0;have hi:=hI0.1;have ht:=hI0.2.1;dsimp only at hi ht ⊢;repeat' (first|(conv=>whnf);first|refine .w ?_|refine .v ?_|refine cj ?_ ?_<;>(intro hb;try exact dd hb)|apply aF|apply bf|(apply bQ<;>intro hb)|(apply bR;intro hbd)|(apply aZ;first|exact hT|(exact hI _ (by omega) (by omega)))|(apply aL (i:=0) rfl;first|exact hT|(exact hI _ (by omega) (by omega)))|(apply bS;intro bl)|(apply cb;intro va vk vc hva)|(apply ca;intro v)|(apply cd;intro bl cap hcap)|apply cg|(apply bZ<;>intro hnx)|apply cK mixed hC hGL (by kernel_rfl)|(apply cq;assumption;(first|exact hT|(exact hI _ (by omega) (by omega)));exact rfl)|(show Rt _ _ _;exact bK)|fail)
 all_goals try conv=>whnf
 ·have e:=jW hI0 (by omega);have hx:=NG (c:=(aa s i:Int)) (by omega) (by omega);rw[if_pos (by rw[<-e];exact hb),<-e] at hx;refine a6 ?_;intros;refine di (i+1,t.set i (UInt8.ofNat ((aa jo (bj abcL (aa t i)).toNat:Nat):Int).toNat)) ?_ ?_ ad rfl
  ·refine px hI0 (by omega) ?_ (by omega) (by have:=bu jo (bj abcL (aa t i)).toNat;omega);rw[hx.2,e];simp only[Int.toNat_natCast]
  ·dsimp only;omega
 ·have e:=jW hI0 (by omega);have hx:=NG (c:=(aa s i:Int)) (by omega) (by omega);rw[if_neg (by rw[<-e];omega)] at hx;refine di (i+1,t) ?_ ?_ ad rfl
  ·exact ng hI0 (by omega) (by simpa using hx)
  ·dsimp only;omega
 ·apply ak;rw[py (by decide) (by decide) hI0 (by omega)]
theorem sg {G:Glo}(s:List UInt8)(hl:s.length<=9223372036854775807):aj prog G 59 [.str s] (.str (al 65 90 32 s)):=by
 refine ao func59 call59 λC hC hGL=> ?_;have hT:=kT (G:=G);have hI:=λc h0 h1=>aX (G:=G) jo c h0 h1;have eL:abcL.length=26:=rfl;repeat' (first|(conv=>whnf);first|refine .w ?_|refine .v ?_|refine cj ?_ ?_<;>(intro hb;try exact dd hb)|apply aF|apply bf|(apply bQ<;>intro hb)|(apply bR;intro hbd)|(apply bS;intro bl)|(apply cb;intro va vk vc hva)|(apply ca;intro v)|(apply cd;intro bl cap hcap)|apply cg|(apply bZ<;>intro hnx)|apply cK mixed hC hGL (by kernel_rfl)|(show Rt _ _ _;exact bK)|fail)
 all_goals try conv=>whnf
 refine lp hC hGL (λ(x:Nat×List UInt8)=>[(3,.own 0 (.slice (some ⟨bl,0,none⟩) s.length cap)),(9,.int .i64 s.length),(10,.int .i64 x.1)]) (λx=>[.buf bl x.2 cap]) (lu 65 90 32 s) (λx=>s.length-x.1) (0,s) ?_ ad rfl ?_
 ·exact ve
 rintro⟨i,t⟩ hI0;have hi:=hI0.1;have ht:=hI0.2.1;dsimp only at hi ht ⊢;repeat' (first|(conv=>whnf);first|refine .w ?_|refine .v ?_|refine cj ?_ ?_<;>(intro hb;try exact dd hb)|apply aF|apply bf|(apply bQ<;>intro hb)|(apply bR;intro hbd)|(apply aZ;first|exact hT|(exact hI _ (by omega) (by omega)))|(apply aL (i:=0) rfl;first|exact hT|(exact hI _ (by omega) (by omega)))|(apply bS;intro bl)|(apply cb;intro va vk vc hva)|(apply ca;intro v)|(apply cd;intro bl cap hcap)|apply cg|(apply bZ<;>intro hnx)|apply cK mixed hC hGL (by kernel_rfl)|(apply cq;assumption;(first|exact hT|(exact hI _ (by omega) (by omega)));exact rfl)|(show Rt _ _ _;exact bK)|fail)
 all_goals try conv=>whnf
 ·have e:=jW hI0 (by omega);have hx:=Ij (c:=(aa s i:Int)) (by omega) (by omega);rw[if_pos (by rw[<-e];exact hb),<-e] at hx;refine a6 ?_;intros;refine di (i+1,t.set i (UInt8.ofNat ((aa abcL (bj jo (aa t i)).toNat:Nat):Int).toNat)) ?_ ?_ ad rfl
  ·refine px hI0 (by omega) ?_ (by omega) (by have:=bu abcL (bj jo (aa t i)).toNat;omega);rw[hx.2,e];simp only[Int.toNat_natCast]
  ·dsimp only;omega
 ·have e:=jW hI0 (by omega);have hx:=Ij (c:=(aa s i:Int)) (by omega) (by omega);rw[if_neg (by rw[<-e];omega)] at hx;refine di (i+1,t) ?_ ?_ ad rfl
  ·exact ng hI0 (by omega) (by simpa using hx)
  ·dsimp only;omega
 ·apply ak;rw[py (by decide) (by decide) hI0 (by omega)]
end
section
theorem ou {c:Int}:∀(t:List UInt8) (k:Nat),(jO c t k= -1/\∀j,j<t.length->(aa t j:Int)≠c)\/∃m,m<t.length/\jO c t k=((k+m:Nat):Int)/\(aa t m:Int)=c/\∀j,j<m->(aa t j:Int)≠c
 |[],_=>.inl ⟨rfl,λj h=>absurd h (Nat.not_lt_zero _)⟩
 |x::t,k=>by
  by_cases e:(x.toNat:Int)=c
  ·refine .inr ⟨0,by simp,by simp[jO,e],by simpa[aa] using e,λj h=>absurd h (Nat.not_lt_zero _)⟩
  ·have e1:jO c (x::t) k=jO c t (k+1):=by simp[jO,e]
   have h0:∀{p:Prop},(∀j,j<t.length->(aa t j:Int)≠c)->∀j,j<(x::t).length->(aa (x::t) j:Int)≠c:=by
    intro _ h j hj;cases j with
    |zero=>simpa[aa] using e
    |succ j=>simpa[aa] using h j (by simpa using hj)
   rcases ou (c:=c) t (k+1) with⟨h1,h2⟩|⟨m,h1,h2,h3,h4⟩
   ·exact .inl ⟨by rw[e1,h1],h0 (p:=True) h2⟩
   ·refine .inr ⟨m+1,by simpa using h1,by rw[e1,h2];omega,by simpa[aa] using h3,λj hj=> ?_⟩;cases j with
    |zero=>simpa[aa] using e
    |succ j=>simpa[aa] using h4 j (by omega)
theorem Be {s:List UInt8}{c:Int}{i:Nat}(hi:i<s.length)(h:(aa s i:Int)=c)(h0:∀j,j<i->(aa s j:Int)≠c):bj s c=i:=by
 rcases ou (c:=c) s 0 with⟨h1,h2⟩|⟨m,h1,h2,h3,h4⟩
 ·exact absurd h (h2 i hi)
 ·unfold bj;rw[h2];have:m=i:=by
   rcases Nat.lt_trichotomy m i with h5|h5|h5
   ·exact absurd h3 (h0 m h5)
   ·exact h5
   ·exact absurd h (h4 i h5)
  omega
theorem zI {s:List UInt8}{c:Int}(h0:∀j,j<s.length->(aa s j:Int)≠c):bj s c= -1:=by
 rcases ou (c:=c) s 0 with⟨h1,h2⟩|⟨m,h1,h2,h3,h4⟩
 ·exact h1
 ·exact absurd h3 (h0 m h1)
theorem ky (s:List UInt8)(c:Int):(bj s c= -1/\∀j,j<s.length->(aa s j:Int)≠c)\/∃m,m<s.length/\bj s c=(m:Int)/\(aa s m:Int)=c/\∀j,j<m->(aa s j:Int)≠c:=by
 rcases ou (c:=c) s 0 with h|⟨m,h1,h2,h3⟩
 ·exact .inl h
 ·exact .inr ⟨m,h1,by unfold bj;rw[h2];omega,h3⟩
def kP (i:Nat)(c:Int):Bool:=decide ((97<=c/\c<=122)\/(65<=c/\c<=90)\/(0<i/\((48<=c/\c<=57)\/c=43\/c=45\/c=46)))
theorem Fr {i:Nat}{c:Int}:kP i c=true↔((97<=c/\c<=122)\/(65<=c/\c<=90)\/(0<i/\((48<=c/\c<=57)\/c=43\/c=45\/c=46))):=by simp[kP]
theorem Tj {i:Nat}{c:Int}:kP i c=false↔¬((97<=c/\c<=122)\/(65<=c/\c<=90)\/(0<i/\((48<=c/\c<=57)\/c=43\/c=45\/c=46))):=by simp[kP]
def fa (s:List UInt8):Nat:=if bj s 58<1 then 0 else if ∀j,j<(bj s 58).toNat->kP j (aa s j)=true then(bj s 58).toNat else 0
theorem RO {s:List UInt8}{i:Nat}(hi:i<s.length)(h:(aa s i:Int)=58)(h0:∀j,j<i->(aa s j:Int)≠58/\kP j (aa s j)=true):fa s=i:=by
 have e:=Be hi h λj hj=>(h0 j hj).1;unfold fa;rw[e];by_cases h1:(i:Int)<1
 ·rw[if_pos h1];omega
 ·rw[if_neg h1,if_pos (λj hj=>(h0 j (by omega)).2)];omega
theorem OW {s:List UInt8}{i:Nat}(hi:i<s.length)(h:(aa s i:Int)≠58)(hb:kP i (aa s i)=false)(h0:∀j,j<i->(aa s j:Int)≠58/\kP j (aa s j)=true):fa s=0:=by
 rcases ky s 58 with⟨h1,_⟩|⟨m,h1,h2,h3,h4⟩
 ·unfold fa;rw[h1];rfl
 ·have:i<m:=by
   rcases Nat.lt_trichotomy m i with h5|h5|h5
   ·exact absurd h3 (h0 m h5).1
   ·subst h5;exact absurd h3 h
   ·exact h5
  unfold fa;rw[h2];split
  ·rfl
  ·rw[if_neg];intro hh;have:=hh i (by omega);rw[hb] at this;cases this
theorem KJ {s:List UInt8}(h0:∀j,j<s.length->(aa s j:Int)≠58):fa s=0:=by
 unfold fa;rw[zI h0];rfl
theorem BG {s:List UInt8}(h:fa s≠0):fa s<s.length/\aa s (fa s)=58/\bj s 58=fa s:=by
 rcases ky s 58 with⟨h1,_⟩|⟨m,h1,h2,h3,h4⟩
 ·unfold fa at h;rw[h1] at h;exact absurd rfl h
 ·have e:fa s=m:=by
   unfold fa at*
   generalize bj s 58=z at*
   subst h2;by_cases e1:(m:Int)<1
   ·rw[if_pos e1] at h;exact absurd rfl h
   ·rw[if_neg e1] at h ⊢;by_cases e2:∀j,j<(m:Int).toNat->kP j (aa s j)=true
    ·rw[if_pos e2];omega
    ·rw[if_neg e2] at h;exact absurd rfl h
  rw[e];exact⟨h1,by omega,h2⟩
attribute [local irreducible] bN aw aa aC bg ab ae
attribute [local irreducible] bj fa kP
theorem E3 {G:Glo}(s:List UInt8)(hl:s.length<=9223372036854775807):aj prog G 194 [.str s] (.int .i64 (fa s)):=by
  refine ao func194 call194 λC hC hGL=> ?_;refine a6 ?_;intros;refine lp hC hGL (λ(i:Nat)=>[(0,.str s),(6,.int .i64 s.length),(7,.int .i64 i)]) (λ_=>[]) (λi=>i<=s.length/\∀j,j<i->(aa s j:Int)≠58/\kP j (aa s j)=true) (λi=>s.length-i) 0 ?_ ad rfl ?_
  · exact⟨Nat.zero_le _,by intro j hj;omega⟩
  rintro i ⟨hi,hb0⟩;refine xw ?_;repeat' first|exact .n|apply Lc.mk
  all_goals intros
  all_goals first
    |(apply ak;refine congrArg (AVal.int .i64) ?_;rw[RO (i:=i) (by omega) (by omega) hb0];first|done|rfl)
    |(apply ak;refine congrArg (AVal.int .i64) ?_;rw[OW (i:=i) (by omega) (by omega) (Tj.2 (by omega)) hb0];first|done|rfl)
    |(apply ak;refine congrArg (AVal.int .i64) ?_;rw[KJ (λj hj=>(hb0 j (by omega)).1)];first|done|rfl)
    | (refine di (i+1) ?_ ?_ ad rfl
       · exact⟨by omega,bT hb0 ⟨by omega,Fr.2 (by omega)⟩⟩
       · omega)
def vE (s:List UInt8):Int:=if fa s=0 then 8 else 0
def pU (c:Int):Bool:=decide (33<=c/\c<=126)
theorem wQ {c:Int}:pU c=true↔(33<=c/\c<=126):=by simp[pU]
theorem NT {c:Int}:pU c=false↔¬(33<=c/\c<=126):=by simp[pU]
def D1 (f:Int->Bool):List UInt8->Nat->Int
 |[],_=> -1
 |x::t,k=>if f (x.toNat:Int) then k else D1 f t (k+1)
def jf (f:Int->Bool)(s:List UInt8):Int:=D1 f s 0
theorem oA {f:Int->Bool}:∀(t:List UInt8) (k:Nat),(D1 f t k= -1/\∀j,j<t.length->f (aa t j:Int)=false)\/∃m,m<t.length/\D1 f t k=((k+m:Nat):Int)/\f (aa t m:Int)=true/\∀j,j<m->f (aa t j:Int)=false
 |[],_=>.inl ⟨rfl,λj h=>absurd h (Nat.not_lt_zero _)⟩
 |x::t,k=>by
  by_cases e:f (x.toNat:Int)=true
  ·refine .inr ⟨0,by simp,by simp[D1,e],by simpa[aa] using e,λj h=>absurd h (Nat.not_lt_zero _)⟩
  ·have e1:D1 f (x::t) k=D1 f t (k+1):=by simp[D1,e]
   rcases oA (f:=f) t (k+1) with⟨h1,h2⟩|⟨m,h1,h2,h3,h4⟩
   ·refine .inl ⟨by rw[e1,h1],λj hj=> ?_⟩;cases j with
    |zero=>simpa[aa] using e
    |succ j=>simpa[aa] using h2 j (by simpa using hj)
   ·refine .inr ⟨m+1,by simpa using h1,by rw[e1,h2];omega,by simpa[aa] using h3,λj hj=> ?_⟩;cases j with
    |zero=>simpa[aa] using e
    |succ j=>simpa[aa] using h4 j (by omega)
theorem mG {f:Int->Bool}{s:List UInt8}{i:Nat}(hi:i<s.length)(h:f (aa s i:Int)=true)(h0:∀j,j<i->f (aa s j:Int)=false):jf f s=i:=by
 rcases oA (f:=f) s 0 with⟨h1,h2⟩|⟨m,h1,h2,h3,h4⟩
 ·rw[h2 i hi] at h;cases h
 ·unfold jf;rw[h2];have:m=i:=by
   rcases Nat.lt_trichotomy m i with h5|h5|h5
   ·rw[h0 m h5] at h3;cases h3
   ·exact h5
   ·rw[h4 i h5] at h;cases h
  omega
theorem iM {f:Int->Bool}{s:List UInt8}(h0:∀j,j<s.length->f (aa s j:Int)=false):jf f s= -1:=by
 rcases oA (f:=f) s 0 with⟨h1,h2⟩|⟨m,h1,h2,h3,h4⟩
 ·exact h1
 ·rw[h0 m h1] at h3;cases h3
theorem mF (f:Int->Bool)(s:List UInt8):(jf f s= -1/\∀j,j<s.length->f (aa s j:Int)=false)\/∃m,m<s.length/\jf f s=(m:Int)/\f (aa s m:Int)=true/\∀j,j<m->f (aa s j:Int)=false:=by
 rcases oA (f:=f) s 0 with h|⟨m,h1,h2,h3⟩
 ·exact .inl h
 ·exact .inr ⟨m,h1,by unfold jf;rw[h2];omega,h3⟩
attribute [local irreducible] pU jf
theorem nu {G:Glo}(s:List UInt8)(f:Nat)(p:Int->Bool)(hl:s.length<=9223372036854775807)(hp:∀c:Nat,c<256->aj prog G f [.int .u8 (c:Int)] (.bool (p c))):aj prog G 105 [.str s,.func (.func f) [] []] (.int .i64 (jf p s)):=by
 refine ao func105 call105 λC hC hGL=> ?_;repeat' (first|(conv=>whnf);first|refine .w ?_|refine .v ?_|refine cj ?_ ?_<;>(intro hb;try exact dd hb)|apply aF|apply bf|(apply bQ<;>intro hb)|(apply bR;intro hbd)|(apply bS;intro bl)|(apply cb;intro va vk vc hva)|(apply ca;intro v)|(apply cd;intro bl cap hcap)|apply cg|(apply bZ<;>intro hnx)|apply cK mixed hC hGL (by kernel_rfl)|(show Rt _ _ _;exact bK)|fail)
 all_goals try conv=>whnf
 refine lp hC hGL (λ(i:Nat)=>[(1,.func (.func f) [] []),(8,.own 0 (.slice (some ⟨bl,0,none⟩) s.length cap)),(9,.int .i64 s.length),(10,.int .i64 i)]) (λ_=>[.buf bl s cap]) (λi=>i<=s.length/\∀j,j<i->p (aa s j:Int)=false) (λi=>s.length-i) 0 ?_ ad rfl ?_
 ·exact⟨Nat.zero_le _,by intro j hj;omega⟩
 rintro i ⟨hi,hb0⟩;repeat' (first|(conv=>whnf);first|refine .w ?_|refine .v ?_|refine cj ?_ ?_<;>(intro hb;try exact dd hb)|apply aF|apply bf|(apply bQ<;>intro hb)|(apply bR;intro hbd)|(apply aZ;first|exact hp _ (by omega))|(apply aL (i:=0) rfl;first|exact hp _ (by omega))|(apply bS;intro bl)|(apply cb;intro va vk vc hva)|(apply ca;intro v)|(apply cd;intro bl cap hcap)|apply cg|(apply bZ<;>intro hnx)|apply cK mixed hC hGL (by kernel_rfl)|(apply cq;assumption;(first|exact hp _ (by omega));exact rfl)|(show Rt _ _ _;exact bK)|fail)
 all_goals try conv=>whnf
 ·apply ak;rw[mG (i:=i) (by omega) hb hb0]
 ·refine di (i+1) ?_ ?_ ad rfl
  ·exact⟨by omega,bT hb0 hb⟩
  ·omega
 ·apply ak;rw[iM (λj hj=>hb0 j (by omega))];rfl
theorem DO {c:Int}(h0:0<=c)(h1:c<=255):decide (bj ((jo++abcL)++[]) c<0)= !kP 0 c:=by
 have:=mb (p:=λc=>decide (bj ((jo++abcL)++[]) c<0)== !kP 0 c) (by decide+kernel) h0 h1;simpa using this
def Ti:List UInt8:=[48,49,50,51,52,53,54,55,56,57,43,45,46]
theorem DN {c:Int}(h0:0<=c)(h1:c<=255):decide (bj ((jo++abcL)++Ti) c<0)= !kP 1 c:=by
 have:=mb (p:=λc=>decide (bj ((jo++abcL)++Ti) c<0)== !kP 1 c) (by decide+kernel) h0 h1;simpa using this
theorem y6 {i:Nat}{c:Int}(h:i=0):kP i c=kP 0 c:=by rw[h]
theorem y7 {i:Nat}{c:Int}(h:0<i):kP i c=kP 1 c:=by
 rw[Bool.eq_iff_iff,Fr,Fr];omega
theorem OX {s:List UInt8}{m:Nat}(hm:bj s 58=m)(h1:0<m)(h:∀j,j<m->kP j (aa s j)=true):fa s=m:=by
 unfold fa;rw[hm,if_neg (by omega),if_pos (λj hj=>h j (by omega))];omega
theorem OV {s:List UInt8}{m:Nat}(hm:bj s 58=m){i:Nat}(hi:i<m)(h:kP i (aa s i)=false):fa s=0:=by
 unfold fa;rw[hm];split
 ·rfl
 ·rw[if_neg];intro hh;have:=hh i (by omega);rw[h] at this;cases this
theorem FJ {G:Glo}(s:List UInt8)(hl:s.length<=9223372036854775807):aj prog G 114 [.str s] (.tuple [.str (s.take (fa s)),.int .i64 (vE s)]):=by
 refine ao func114 call114 λC hC hGL=> ?_;have hI:=aX (G:=G) s 58 (by decide) (by decide);have hT:=kT (G:=G);have hJ0:=λc h0 h1=>aX (G:=G) ((jo++abcL)++[]) c h0 h1;have hJ1:=λc h0 h1=>aX (G:=G) ((jo++abcL)++Ti) c h0 h1;have hle:bj s 58<s.length:=by
  rcases ky s 58 with⟨h1,_⟩|⟨m,h1,h2,_⟩<;>omega
 repeat' (first|(conv=>whnf);first|refine .w ?_|refine .v ?_|refine cj ?_ ?_<;>(intro hb;try exact dd hb)|apply aF|apply bf|(apply bQ<;>intro hb)|(apply bR;intro hbd)|(apply aZ;exact hI)|(apply aL (i:=0) rfl;exact hI)|(apply bS;intro bl)|(apply cb;intro va vk vc hva)|(apply ca;intro v)|(apply cd;intro bl cap hcap)|apply cg|(apply bZ<;>intro hnx)|apply cK mixed hC hGL (by kernel_rfl)|(apply cq;assumption;exact hI;exact rfl)|(show Rt _ _ _;exact bK)|fail)
 all_goals try conv=>whnf
 ·apply ak;have e:fa s=0:=by unfold fa;rw[if_pos (by omega)]
  rw[vE,if_pos e,e];rfl
 have hm0:∃m:Nat,bj s 58=m/\0<m/\m<s.length:=⟨(bj s 58).toNat,by omega,by omega,by omega⟩;obtain⟨m,hm,hm1,hm2⟩:=hm0;have hA:=OX hm hm1;have hN:=λi hi h=>OV (i:=i) hm hi h;have hbt:=λj (hj:j<m)=>eR (s:=s) hj;rw[hm] at*
 rw[show(m:Int).toNat=m from rfl] at*
 have ht:(s.take m).length=m:=by rw[List.length_take];omega
 rw[ht] at*
 refine lp hC hGL (λ(i:Nat)=>[(0,.str s),(4,.int .i64 m),(15,.own 0 (.slice (some ⟨bl,0,none⟩) m cap)),(16,.int .i64 m),(17,.int .i64 i)]) (λ_=>[.buf bl (s.take m) cap]) (λi=>i<=m/\∀j,j<i->kP j (aa s j)=true) (λi=>m-i) 0 ?_ ad rfl ?_
 ·exact⟨Nat.zero_le _,by intro j hj;omega⟩
 rintro i ⟨hi,hb0⟩;repeat' (first|(conv=>whnf);first|refine .w ?_|refine .v ?_|refine cj ?_ ?_<;>(intro hb;try exact dd hb)|apply aF|apply bf|(apply bQ<;>intro hb)|(apply bR;intro hbd)|(apply aZ;first|exact hT|(exact hJ0 _ (by omega) (by omega))|(exact hJ1 _ (by omega) (by omega)))|(apply aL (i:=0) rfl;first|exact hT|(exact hJ0 _ (by omega) (by omega))|(exact hJ1 _ (by omega) (by omega)))|(apply bS;intro bl)|(apply cb;intro va vk vc hva)|(apply ca;intro v)|(apply cd;intro bl cap hcap)|apply cg|(apply bZ<;>intro hnx)|apply cK mixed hC hGL (by kernel_rfl)|(apply cq;assumption;(first|exact hT|(exact hJ0 _ (by omega) (by omega))|(exact hJ1 _ (by omega) (by omega)));exact rfl)|(show Rt _ _ _;exact bK)|fail)
 all_goals try conv=>whnf
 ·apply ak;have hx:=DO (c:=(aa (s.take m) i:Int)) (by omega) (by omega);rw[decide_eq_true hb,hbt i (by omega)] at hx;have e:=hN i (by omega) (by rw[y6 (by omega)];simpa using hx.symm);rw[vE,if_pos e,e];rfl
 ·have hx:=DO (c:=(aa (s.take m) i:Int)) (by omega) (by omega);rw[decide_eq_false (by omega),hbt i (by omega)] at hx;refine di (i+1) ?_ ?_ ad rfl
  ·exact⟨by omega,bT hb0 (by rw[y6 (by omega)];simpa using hx.symm)⟩
  ·omega
 ·apply ak;have hx:=DN (c:=(aa (s.take m) i:Int)) (by omega) (by omega);rw[decide_eq_true hb,hbt i (by omega)] at hx;have e:=hN i (by omega) (by rw[y7 (by omega)];simpa using hx.symm);rw[vE,if_pos e,e];rfl
 ·have hx:=DN (c:=(aa (s.take m) i:Int)) (by omega) (by omega);rw[decide_eq_false (by omega),hbt i (by omega)] at hx;refine di (i+1) ?_ ?_ ad rfl
  ·exact⟨by omega,bT hb0 (by rw[y7 (by omega)];simpa using hx.symm)⟩
  ·omega
 ·apply ak;have e:=hA (λj hj=>hb0 j (by omega));rw[vE,if_neg (by omega),e];rfl
def fe (c:Int):Bool:= !pU c
theorem v8 {c:Int}:fe c=true↔¬(33<=c/\c<=126):=by simp[fe,wQ,NT]
theorem wd {c:Int}:fe c=false↔(33<=c/\c<=126):=by simp[fe,wQ]
def gu (s:List UInt8):Err:=if fa s=0 then .errno 8 else if 0<=jf fe s then .at 3 (jf fe s) else if fa s+1=s.length then .at 7 s.length else .none
attribute [local irreducible] fe
theorem yT {G:Glo}(s:List UInt8)(hl:s.length<=9223372036854775807):aj prog G 139 [.str s] (gu s).A:=by
 refine ao func139 call139 λC hC hGL=> ?_;have hb0:=E3 (G:=G) s hl;have hlt:fa s≠0->fa s<s.length:=λh=>(BG h).1;refine xw ?_;repeat' first|exact .n|apply Lc.mk
 all_goals intros
 ·apply ak;rw[gu,if_pos (by omega)];rfl
 refine lp hC hGL (λ(i:Nat)=>[(0,.str s),(3,.int .i64 (fa s)),(11,.int .i64 s.length),(12,.int .i64 i)]) (λ_=>[]) (λi=>i<=s.length/\∀j,j<i->fe (aa s j)=false) (λi=>s.length-i) 0 ?_ ad rfl ?_
 ·exact⟨Nat.zero_le _,by intro j hj;omega⟩
 rintro i ⟨hi,hg0⟩;refine xw ?_;repeat' first|exact .n|apply Lc.mk
 all_goals intros
 ·apply ak;rw[gu,if_neg (by omega),mG (i:=i) (by omega) (v8.2 (by omega)) hg0,if_pos (by omega)];rfl
 ·apply ak;rw[gu,if_neg (by omega),mG (i:=i) (by omega) (v8.2 (by omega)) hg0,if_pos (by omega)];rfl
 ·refine di (i+1) ?_ ?_ ad rfl
  ·exact⟨by omega,bT hg0 (wd.2 (by omega))⟩
  ·omega
 ·apply ak;rw[gu,if_neg (by omega),iM (λj hj=>hg0 j (by omega)),if_neg (by omega),if_pos (by omega)];rfl
 ·apply ak;rw[gu,if_neg (by omega),iM (λj hj=>hg0 j (by omega)),if_neg (by omega),if_neg (by omega)];rfl
theorem JA {G:Glo}(c:Int)(h0:0<=c)(h1:c<=255):aj prog G 116 [.int .u8 c] (.bool (pU c)):=by
 refine ao func116 call116 λC hC hGL=> ?_;have hw:=eY (G:=G) c 33 126;refine a6 ?_;intros;apply ak;refine congrArg AVal.bool ?_;rw[Bool.eq_iff_iff,wQ];simp
theorem AR {G:Glo}(c:Int)(h0:0<=c)(h1:c<=255):aj prog G 115 [.int .u8 c] (.bool (fe c)):=by
 refine ao func115 call115 λC hC hGL=> ?_;have hw:=JA (G:=G) c h0 h1;refine a6 ?_;intros;apply ak;unfold fe;rfl
theorem qC {G:Glo}(s:List UInt8)(hl:s.length<=9223372036854775807):aj prog G 68 [.str s] (.agg [.int .i64 (gu s).e,.int .i64 (gu s).p]):=by
 refine ao func68 call68 λC hC hGL=> ?_;have h1:=FJ (G:=G) s hl;have h2:=nu (G:=G) s 115 fe hl (λc hc=>AR (G:=G) c (by omega) (by omega));have h3:=ja (G:=G);have h4:=fG (G:=G);have hn:vE s=0->fa s<s.length/\fa s≠0:=λh=>by
  unfold vE at h;split at h
  ·cases h
  ·exact⟨(BG (by assumption)).1,by assumption⟩
 have hln:vE s=0->(s.take (fa s)).length=fa s:=λh=>by
  have:=(hn h).1;rw[List.length_take];omega
 have hs58:vE s=0->(s=s.take (fa s)++[58]↔fa s+1=s.length):=λh=>by
  have h1:=hn h;have h2:=hln h;have h3:=(BG h1.2).2.1;constructor
  ·intro e;have:=congrArg List.length e;rw[List.length_append,h2] at this;simpa using this.symm
  ·intro e;refine List.ext_getElem (by rw[List.length_append,h2];simpa using e.symm) (λj j1 j2=> ?_);by_cases hj:j<fa s
   ·rw[List.getElem_append_left (by omega),List.getElem_take]
   ·rw[List.getElem_append_right (by omega)];have ej:j=fa s:=by omega
    subst ej;rw[bM (by omega)] at h3;have:s[fa s]=58:=UInt8.toNat_inj.1 (by simpa using h3);simp[h2,this]
 repeat' (first|(conv=>whnf);first|refine .w ?_|refine .v ?_|refine cj ?_ ?_<;>(intro hb;try exact dd hb)|apply aF|apply bf|(apply bQ<;>intro hb)|(apply bR;intro hbd)|(apply aZ;first|exact h1|exact h2|exact h3 _|exact h4)|(apply aL (i:=0) rfl;first|exact h1|exact h2|exact h3 _|exact h4)|(apply bS;intro bl)|(apply cb;intro va vk vc hva)|(apply ca;intro v)|(apply cd;intro bl cap hcap)|apply cg|(apply bZ<;>intro hnx)|apply cK mixed hC hGL (by kernel_rfl)|(apply cq;assumption;(first|exact h1|exact h2|exact h3 _|exact h4);exact rfl)|(show Rt _ _ _;exact bK)|fail)
 all_goals try conv=>whnf
 ·apply ak;have e:fa s=0:=by unfold vE at hb;split at hb;assumption;exact absurd rfl hb
  rw[gu,vE,if_pos e,if_pos e];rfl
 ·apply ak;rw[gu,if_neg (hn (by assumption)).2,if_pos (by omega)];rfl
 ·apply ak;rw[gu,if_neg (hn (by assumption)).2,if_neg (by omega),if_pos ((hs58 (by assumption)).1 hb)];rfl
 ·apply ak;rw[gu,if_neg (hn (by assumption)).2,if_neg (by omega),if_neg (λh=>hb ((hs58 (by assumption)).2 h))];rfl
end
section
noncomputable abbrev ct (m:Int):List (Nat×List AVal):=[(3,[.int .i64 m])]
theorem qK {G:Glo}{m:Int}(hU:ab G (ct m)){R:Seal}{w:World}(hG:G.p R)(hs:ei R w):w.cell? ⟨3,0,none⟩=some (.int .i64 m):=by
 obtain⟨v,hc,hr⟩:=dz.cell hs (hU 3 [.int .i64 m] rfl R hG) (i:=0) rfl;have hr:[v]=[Value.int .i64 m]:=hr;rw[(List.cons.inj hr).1] at hc;exact hc
def fW (G:Glo):Prop:=∀R,G.p R->∃e fz,R 10=some (.cells (Lib.pow10Tab.map λz=>Value.int .u64 z).toArray e fz)
end
section
theorem MS.below {C:Ctx}{R:Seal}{H:Heap}{w w':World}(h:MS C R H w)(hb:Below w.heap.size w w'):MS C R H w':=by
 have hlt:∀{b:Nat} {o:Obj},w.heap[b]? =some o->b<w.heap.size:=λ{b o} h1=>by
  rcases Nat.lt_or_ge b w.heap.size with h|h
  ·exact h
  ·rw[Array.getElem?_eq_none h] at h1;cases h1
 refine⟨λb o ho=> ?_,h.ge,h.fresh,⟨λx hx=> ?_,h.heap.nodup,h.heap.apart⟩,h.own,?_⟩
 ·have h1:=h.sealed b o ho;rw[hb.block b (hlt h1),h1]
 ·exact HEnt.holds_mono (h.heap.holds x hx) (Seal.le_refl R) (λb hbk=>hb.block b (HEnt.blk_lt (h.heap.holds x hx) hbk))
 ·exact⟨hb.os.trans h.ext.os,hb.tape.trans h.ext.tape,hb.output.trans h.ext.output,Nat.le_trans h.ext.size hb.size,λb hlt hn=>by
   rw[hb.block b (Nat.lt_of_lt_of_le hlt h.ext.size)];exact h.ext.block b hlt hn⟩
theorem tY {P:Program}{G:Glo}{f:FuncId}{avs:List AVal}{H:Heap}{v:AVal}(u:Value)(hu:∀R,bE R v u)(hc:∀args w,(callFunc f args).run P w= .ok (.enter f args) w)
  (h:∀C R args,dv R avs args.toList->∀w,G.p R->MS C R H w->Calls P f args w λe w'=>e= .returned u/\Below w.heap.size w w'):ae P G f avs H (λr H'=>r= .ret v/\H'=H):=by
 intro R w args hG hm ha;refine .inl ⟨hc args w,(h _ R args ha w hG hm).mono ?_⟩;rintro e w' ⟨rfl,hb⟩;exact⟨.ret v,H,R,⟨rfl,rfl⟩,⟨_,rfl,hu R⟩,hm.below hb⟩
def bc (l:List (List UInt8)):List AVal:=l.map .str
def ay (l:List (List UInt8))(i:Nat):AVal:=.str (l.getD i [])
theorem eq (l:List (List UInt8)):∀i,i<l.length->(ay l i).cells=((bc l).drop (i*1)).take 1/\(ay l i).plain=true:=by
 intro i hi;refine⟨?_,rfl⟩;have:i<(bc l).length:=by simpa[bc] using hi
 rw[Nat.mul_one,List.drop_eq_getElem_cons this];simp[ay,AVal.cells,bc,List.getD,hi]
theorem bJ (l:List (List UInt8))(s:List UInt8):bc l++[.str s]=bc (l++[s]):=by simp[bc]
theorem y3 (l:List (List UInt8)):(bc l).length=l.length:=by simp[bc]
def UQ (l:List (List UInt8)):List ByteArray:=l.map λs=>⟨s.toArray⟩
theorem EB (l:List (List UInt8)):(UQ l).map (·.data.toList)=l:=by
 unfold UQ;rw[List.map_map];refine(List.map_congr_left (g:=id) λx _=> ?_).trans (List.map_id l);simp
theorem uM (l:List (List UInt8)):(UQ l).length=l.length:=by simp[UQ]
theorem o5 {R:Seal}:∀{l:List (List UInt8)} {vs:List Value},ce R (bc l) vs->vs=l.map λs=>Value.string ⟨s.toArray⟩
 |[],_,h=>h
 |s::l,_,h=>by
  obtain⟨v,t,rfl,h1,h2⟩:=h;have h1:[v]=[.string ⟨s.toArray⟩]:=h1;rw[List.cons.injEq] at h1
  rw[o5 h2,h1.1]
  rfl
theorem Jb {R:Seal}{w:World}{bl o:Nat}{Cs:Array Value}{e:TypeId}{fz:Nat×Nat}{l:List (List UInt8)}(hb:w.heap[bl]? =some (.cells Cs e fz))(hl:ce R (bc l) ((Cs.toList.drop o).take l.length)):
  ∀(j:Nat) x,(UQ l)[j]? =some x->w.cell? ⟨bl,o+j,none⟩=some (.string x):=by
 intro j x hx;have hj:j<l.length:=by have:=(List.getElem?_eq_some_iff.1 hx).1;rwa [uM] at this
 have:=o5 hl;simp only[World.cell?,hb];have h2:((Cs.toList.drop o).take l.length)[j]? =(l.map λs=>Value.string ⟨s.toArray⟩)[j]? :=by rw[this]
 rw[List.getElem?_take_of_lt hj,List.getElem?_drop] at h2;have hx:x=⟨(l[j]).toArray⟩:=by
  unfold UQ at hx;rw[List.getElem?_map,List.getElem?_eq_getElem hj] at hx;simpa using hx.symm
 rw[hx];simpa[List.getElem?_eq_getElem hj] using h2
theorem JV {R:Seal}{w:World}(hs:ei R w){l:List (List UInt8)}{v:Value}(h:bE R (.list 1 l.length (ay l)) v):∃a cap,v= .slice a l.length cap/\l.length<=cap/\(l=[]\/∃b o C e fz,a=some ⟨b,o,none⟩/\w.heap[b]? =some (.cells C e fz)/\ce R (bc l) ((C.toList.drop o).take l.length)):=by
 obtain⟨a,cap,e1,hle,h7⟩:=bA h rfl;simp only[List.cons.injEq,and_true] at e1;refine⟨a,cap,e1,hle,?_⟩;rcases h7 with h7|⟨b,o,C,e,fz,ha,hR,hall⟩
 ·exact .inl (List.eq_nil_of_length_eq_zero h7)
 ·refine .inr ⟨b,o,C,e,fz,ha,hs _ _ hR,?_⟩;have key:∀(m:Nat) (l':List (List UInt8)) (o':Nat),l'.length=m->(∀i,i<m->bh R (ay l' i) ((C.toList.drop (o'+i*1)).take 1))->ce R (bc l') ((C.toList.drop o').take m):=by
   intro m;induction m with
   |zero=>intro l' o' hl _;rw[List.eq_nil_of_length_eq_zero hl];simp[bc,ce]
   |succ m ih=>
    intro l' o' hl hi
    match l',hl with
    |s::t,hl=>
     have h0:=hi 0 (by omega);have h0:(C.toList.drop (o'+0*1)).take 1=[.string ⟨s.toArray⟩]:=h0;rw[Nat.zero_mul,Nat.add_zero] at h0;have hlt:o'<C.toList.length:=by
      rcases Nat.lt_or_ge o' C.toList.length with h|h
      ·exact h
      ·rw[List.drop_eq_nil_of_le h] at h0;cases h0
     rw[List.drop_eq_getElem_cons hlt] at h0 ⊢;simp only[List.take_succ_cons,List.take_zero,List.cons.injEq,and_true] at h0;rw[List.take_succ_cons,h0];refine⟨_,_,rfl,rfl,ih t (o'+1) (by simpa using hl) (λi h=> ?_)⟩;have:=hi (i+1) (by omega);rw[show o'+(i+1)*1=o'+1+i*1 by omega] at this;exact this
  exact key _ l o rfl hall
theorem wD {l:List (List UInt8)}{sep:List UInt8}{w:World}{b o cap:Nat}{C:Array Value}{e:TypeId}{fz:Nat×Nat}{R:Seal}(hb:w.heap[b]? =some (.cells C e fz))(hl:ce R (bc l) ((C.toList.drop o).take l.length))(hcap:l.length<=cap)(hN:l.length<=140737488355328)(hlen:(Lib.join l sep).length<=140737488355328):
  Calls prog 32 #[.slice (some ⟨b,o,none⟩) l.length cap,.string ⟨sep.toArray⟩] w λe w'=>e= .returned (.string ⟨(Lib.join l sep).toArray⟩)/\Below w.heap.size w w':=by
 have hlt:b<w.heap.size:=by
  rcases Nat.lt_or_ge b w.heap.size with h|h
  ·exact h
  ·rw[Array.getElem?_eq_none h] at hb;cases hb
 have:=Tryz.strings_Join b o cap (UQ l) ⟨sep.toArray⟩ w (Jb hb hl) hlt (by rw[uM];exact hN) (by rw[uM];exact hcap) (by rw[EB];simpa using hlen);rw[uM,EB] at this;simpa using this
theorem zB {sep:List UInt8}{w:World}{a:Option Addr}{cap:Nat}:Calls prog 32 #[.slice a 0 cap,.string ⟨sep.toArray⟩] w λe w'=>e= .returned (.string ⟨#[]⟩)/\Below w.heap.size w w':=by
 refine(strings_Join_none a cap ⟨sep.toArray⟩ w).mono ?_;rintro e w' ⟨rfl,rfl⟩;exact⟨rfl,Below.refl _ _⟩
theorem eu {G:Glo}{eT:Option TypeId}(l:List (List UInt8))(sep:List UInt8)(v:Value)(hN:l.length<=140737488355328)(hlen:(Lib.join l sep).length<=140737488355328):
  ae prog G 32 [.raw v,.str sep] [.row v eT 1 l.length (bc l)] (λr H=>r= .ret (.str (Lib.join l sep))/\H=[.row v eT 1 l.length (bc l)]):=by
 refine tY (.string ⟨(Lib.join l sep).toArray⟩) (λR=>aI.2 rfl) call32 ?_;rintro C R args ⟨x,t,e,hx,y,t',e',hy,rfl⟩ w hG hm;obtain rfl:=ar.1 hx;obtain rfl:=aI.1 hy;subst e';obtain rfl:=fb e;obtain⟨hlen',hx'⟩:=hm.heap.holds _ (List.mem_singleton.2 rfl);rcases hx' with⟨rfl,h0⟩|⟨bl,cap,Cs,el,fz,rfl,hb,hcs,hnc,hl,hfz⟩
 ·have:l=[]:=List.eq_nil_of_length_eq_zero h0;subst this;exact zB
 ·exact wD (o:=0) hb (by simpa using hl) hnc hN hlen
theorem strings_Join {G:Glo}(l:List (List UInt8))(sep:List UInt8)(hN:l.length<=140737488355328)(hlen:(Lib.join l sep).length<=140737488355328):
  aj prog G 32 [.list 1 l.length (ay l),.str sep] (.str (Lib.join l sep)):=by
 refine bO rfl call32 ?_;rintro R args ⟨x,t,e,hx,y,t',e',hy,rfl⟩ w hG hs;obtain rfl:=aI.1 hy;subst e';obtain⟨a,cap,rfl,hcap,h7⟩:=JV hs hx;obtain rfl:=fb e;rcases h7 with rfl|⟨b,o,C,e,fz,rfl,hb,hl⟩
 ·exact zB
 ·exact wD hb hl hcap hN hlen
end
section
def cf (c:UInt8):List UInt8->List (List UInt8)
 |[]=>[[]]
 |x::t=>if x=c then[]::cf c t else match cf c t with
  |[]=>[[x]]
  |p::ps=>(x::p)::ps
theorem qk (c:UInt8):∀s:List UInt8,cf c s≠[]
 |[]=>by simp[cf]
 |x::t=>by
  unfold cf;split
  ·simp
  ·split<;>simp
theorem Gk (c:UInt8):Lib.index [] [c]= -1:=rfl
theorem Gl {x c:UInt8}{t:List UInt8}(h:x=c):Lib.index (x::t) [c]=0:=by
 subst h;simp[Lib.index,List.isPrefixOf]
theorem DM {x c:UInt8}{t:List UInt8}(h:x≠c):Lib.index (x::t) [c]=if Lib.index t [c]== -1 then-1 else Lib.index t [c]+1:=by
 have:(c==x)=false:=by simpa using Ne.symm h
 simp[Lib.index,List.isPrefixOf,this]
theorem mi {sep s:List UInt8}{k i:Nat}(h:Lib.index s sep=i):Lib.splitK sep 0 (k+1) s=s.take i::Lib.splitK sep 0 k (s.drop (i+sep.length)):=by
 have hm:¬(Lib.index s sep== -1)=true:=λe=>by have:=beq_iff_eq.1 e;omega
 rw[Lib.splitK,if_neg hm,h];simp
theorem mh (c:UInt8):∀s:List UInt8,Lib.splitK [c] 0 (Lib.count s [c]) s=cf c s
 |[]=>by rw[Lib.count_miss (Gk c)];rfl
 |x::t=>by
  have ih:=mh c t;by_cases hx:x=c
  ·have h0:Lib.index (x::t) [c]=(0:Nat):=Gl hx;rw[Lib.count_hit (by simp) h0,Nat.add_comm,mi h0];simp only[List.take_zero,List.length_cons,List.length_nil,Nat.zero_add,List.drop_succ_cons,List.drop_zero];rw[ih,cf,if_pos hx]
  ·have h1:=DM (t:=t) hx;rcases Lib.index_spec t [c] with⟨h2,_⟩|⟨i,h2,_⟩
   ·rw[h2] at h1;have h1:Lib.index (x::t) [c]= -1:=by simpa using h1
    rw[Lib.count_miss h2] at ih;rw[Lib.count_miss h1,cf,if_neg hx,<-ih];rfl
   ·have hne:¬((i:Int)== -1)=true:=λe=>by have:=beq_iff_eq.1 e;omega
    rw[h2,if_neg hne] at h1;have h1:Lib.index (x::t) [c]=((i+1:Nat):Int):=by rw[h1];omega
    rw[Lib.count_hit (by simp) h2,Nat.add_comm,mi h2] at ih;rw[Lib.count_hit (by simp) h1,Nat.add_comm,mi h1,cf,if_neg hx,<-ih];rfl
theorem nK {P:Program}{G:Glo}{f:FuncId}{avs:List AVal}{H:Heap}{sz m:Nat}{cs:List AVal}{T:TypeId}(hc:∀args w,(callFunc f args).run P w= .ok (.enter f args) w)
  (hlen:cs.length=m*sz)
  (h:∀C R args,dv R avs args.toList->∀w,G.p R->MS C R H w->Calls P f args w λe w'=>∃(w1:World) (Cs:Array Value),Below w.heap.size w w1/\e= .returned (.slice (some ⟨w1.heap.size,0,none⟩) m m)/\w'=w1.alloc (.cells Cs T)/\Cs.size=m*sz/\∀R,ce R cs Cs.toList):
  ae P G f avs H (λr H'=>∃b,r= .ret (.own H.length (.slice (some ⟨b,0,none⟩) m m))/\H'=H++[.row (.slice (some ⟨b,0,none⟩) m m) (some T) sz m cs]):=by
 intro R w args hG hm ha;refine .inl ⟨hc args w,(h _ R args ha w hG hm).mono ?_⟩;rintro e w' ⟨w1,Cs,hb,rfl,rfl,hsz,hr⟩;have hm1:=hm.below hb;have hm2:=hm1.alloc (.cells Cs T) (.row (.slice (some ⟨w1.heap.size,0,none⟩) m m) (some T) sz m cs) rfl ?_
 ·exact⟨_,_,R,⟨w1.heap.size,rfl,rfl⟩,⟨_,rfl,a7.2 ⟨rfl,rfl⟩⟩,hm2.perm (List.perm_append_singleton _ _).symm⟩
 ·refine⟨hlen,.inr ⟨w1.heap.size,m,Cs,T,(0,0),rfl,fS _ _,hsz,Nat.le_refl _,?_,.inl (Nat.le_refl _),λt ht=>Option.some.inj ht⟩⟩;have:=hr R;have hl:=aO this;rwa [List.take_of_length_le (by omega)]
theorem sb (R:Seal):∀l:List (List UInt8),ce R (bc l) (l.map λs=>Value.string ⟨s.toArray⟩)
 |[]=>rfl
 |_::l=>⟨_,_,rfl,rfl,sb R l⟩
theorem Jd {G:Glo}{m:Int}(hU:ab G (ct m))(H:Heap)(s:List UInt8)(c:UInt8)(hl:s.length<100000):
  ae prog G 117 [.str s,.str [c]] H (λr H'=>∃b,r= .ret (.own H.length (.slice (some ⟨b,0,none⟩) (cf c s).length (cf c s).length))/\H'=H++[.row (.slice (some ⟨b,0,none⟩) (cf c s).length (cf c s).length) (some 9) 1 (cf c s).length (bc (cf c s))]):=by
 refine nK call117 (by rw[y3,Nat.mul_one]) ?_
 rintro C R args ⟨x,t,e,hx,y,t',e',hy,rfl⟩ w hG hm;obtain rfl:=aI.1 hx;obtain rfl:=aI.1 hy;subst e';obtain rfl:=fb e;refine(strings_Split ⟨s.toArray⟩ ⟨#[c]⟩ m w (by rw[bG];omega) (qK hU hG hm.sealed) (Nat.le_refl 1)).mono ?_;rintro e w' ⟨rfl,rfl⟩;have hd:=Lib.splitB_data ⟨#[c]⟩ 0 (Lib.countB ⟨s.toArray⟩ ⟨#[c]⟩) ⟨s.toArray⟩;have hd:(Lib.splitB ⟨#[c]⟩ 0 (Lib.countB ⟨s.toArray⟩ ⟨#[c]⟩) ⟨s.toArray⟩).map (·.data.toList)=cf c s:=hd.trans (mh c s);have hn:(cf c s).length=Lib.countB ⟨s.toArray⟩ ⟨#[c]⟩+1:=by
  have h1:=Lib.splitB_all ⟨#[c]⟩ (Nat.le_refl 1) 0 _ ⟨s.toArray⟩ rfl
  rw[<-hd,List.length_map,h1]
 rw[hn]
 have hm2:(Lib.splitB ⟨#[c]⟩ 0 (Lib.countB ⟨s.toArray⟩ ⟨#[c]⟩) ⟨s.toArray⟩).map Value.string=(cf c s).map λs=>Value.string ⟨s.toArray⟩:=by
  rw[<-hd,List.map_map]
  refine List.map_congr_left λx _=> ?_
  simp
 refine⟨w,_,Below.refl _ _,rfl,rfl,?_,λR=> ?_⟩
 ·rw[hm2];simp[hn]
 ·rw[hm2]
  exact sb R _
theorem vn {G:Glo}{m:Int}(hU:ab G (ct m))(s:List UInt8)(c:UInt8)(hl:s.length<100000):
  aj prog G 117 [.str s,.str [c]] (.list 1 (cf c s).length (ay (cf c s))):=
 jP (λa=>a) HW (ay (cf c s)) (eq _) ((Jd hU [] s c hl).mono λ_ _ ⟨_,h1,h2⟩=>⟨_,_,h1,h2⟩)
end
section
theorem y4 {c:UInt8}:∀{s:List UInt8},c∉s->cf c s=[s]
 |[],_=>rfl
 |x::t,h=>by
  simp only[List.mem_cons,not_or] at h;rw[cf,if_neg (Ne.symm h.1),y4 h.2]
theorem vp {c:UInt8}:∀{u:List UInt8} {v:List UInt8},c∉u->∃p ps,cf c v=p::ps/\cf c (u++v)=(u++p)::ps
 |[],v,_=>by
  cases h:cf c v with
  |nil=>exact absurd h (qk c v)
  |cons p ps=>exact⟨p,ps,rfl,h⟩
 |x::u,v,h=>by
  simp only[List.mem_cons,not_or] at h;obtain⟨p,ps,h1,h2⟩:=vp (v:=v) h.2;refine⟨p,ps,h1,?_⟩;rw[List.cons_append,cf,if_neg (Ne.symm h.1),h2];rfl
theorem L2 {c:UInt8}{u v:List UInt8}(h:c∉u):cf c (u++c::v)=u::cf c v:=by
 obtain⟨p,ps,h1,h2⟩:=vp (v:=c::v) h;rw[cf,if_pos rfl] at h1;cases h1;rw[h2,List.append_nil]
end
section
theorem n4 {P Q:Prop}(hQ:Q)(h:Lf Q->P:=by
  intro ww;repeat' (first
   |(conv=>whnf);first
    |refine .w ?_|refine Ix.v ?_|refine Sd.v ?_|refine Sl.v ?_|apply gW|apply d9
    |refine cj ?_ ?_<;>(intro wb;try exact dd wb)
    |apply aF|(apply bQ<;>intro wb)|(apply bR;intro wb)|(apply yD;assumption;exact rfl)
    |(apply aZ;first|assumption|(apply k1<;>omega))|(apply bS;intro wl)|(apply ak;exact rfl)|(show Rt _ _ _;exact bK)
    |exact True.intro|(apply iy;intro wC whC)|apply iw|apply io|(apply ip;exact rfl))
  all_goals (try conv=>whnf)
  all_goals (repeat (first|revert wb|revert wl|revert whC|revert wC))
  all_goals (apply Lf.h;apply ww)):P:=h ⟨hQ⟩
theorem xm {P Q:Prop}(hQ:Q)(h:Lf Q->P:=by
  intro ww;repeat' (first
   |(conv=>whnf);first
    |refine .w ?_|refine Ix.v ?_|refine Sd.v ?_|refine Sl.v ?_|apply gW|apply d9
    |refine cj ?_ ?_<;>(intro wb;try exact dd wb)
    |apply aF|(apply bQ<;>intro wb)|(apply bR;intro wb)|(apply yD;assumption;exact rfl)
    |(apply aZ;first|assumption|(apply k1<;>omega))|(apply bS;intro wl)|(apply ak;exact rfl)|(show Rt _ _ _;exact bK)
    |exact True.intro|(apply iy;intro wC whC)|apply iw|apply io|(apply ip;exact rfl))
  all_goals (try conv=>whnf)
  all_goals (repeat (first|revert wb|revert wl|revert whC|revert wC))
  all_goals (apply Lf.l;with_reducible (repeat (first|apply ww|apply Lf.r)))) (e:Lz Q:=by repeat (first|exact Lz.n|apply Lz.c)):P:=h ⟨hQ⟩
end
section
abbrev iO (s:List UInt8):List AVal:=s.map λc=>.int .u8 (c.toNat:Int)
section
variable {P:Program} [Tab P] {C:Ctx} {n:Nat} {env:Env} {H:Heap} {Q:aQ->Env->Heap->Prop} {ops:Array Oper} {rest:List Oper} {G:Glo} {GL:List (Nat×List AVal)}
variable {d:Nat} {t:TypeId} {p:String} {af:Array Edge} {g:Option (Nat×Bool)} {b:Bool}
variable {x y:Operand} {T:TypeId} {xT:TI} {tx ty:TypeId}
theorem MJ {i n0:Nat}{v:Value}{s:List UInt8}{cs z:List AVal}{eT:Option TypeId}{e:TypeId}{xe xx:TI}(hC:C.G=G)(hGL:ab G GL)(hg:a8 ops env g=some (b,b))(hdn:Nat.ble (d+1) n=true)
  (hx:ai env x=some (.own i v)) (hi:H[i]? =some (.row v eT 1 n0 cs)) (hy:ai env y=some (.str s))
  (h1:bC P T=some xT) (h2:xT.desc= .slice e) (h3:bC P e=some xe) (h4:xe.size=1) (h6:Nat.ble xe.bytes 1024=true) (h7:bF xe.zero=some z) (h8:z.length=1) (h9:bC P tx=some xx) (h10:xx.desc= .string)
  (hlen:n0+s.length<=137438953472) (hty:S0 eT e=true)
  (h:∀a k c,mw P C n G GL ops Q rest ((d,.own i (.slice a k c))::env) (H.set i (.row (.slice a k c) eT 1 (n0+s.length) (cs++iO s)))):
  uj P C n ops ({dst:=some d,op:=.call {callee:=.builtin .append,args:=[x,y].toArray,argTypes:=[T,tx].toArray},type:=t,pos:=p,after:=af,guard:=g}::rest) env H Q:=
 ⟨zi hg hdn hx hi hy h1 h2 h3 h4 rfl h6 h7 h8 (λR v hv=>P0 hv h9 h10) hlen (Hi hty) λv'=>li (oz hi) λ⟨a,k,c,e,_⟩=>by subst e;exact eZ hC hGL _ _ _ (h a k c)⟩
end
end
section
attribute [local irreducible] bN aw aa aC bg ab ae
abbrev cP (b:Nat):Value:=.pointer (some ⟨b,0,none⟩)
abbrev co (b:Nat)(p:Value)(j:Nat)(v:Value):HEnt:=.cells b (some 120) [.raw p,.own j v]
abbrev eN (v:Value)(s:List UInt8):HEnt:=.row v (some 5) 1 s.length (iO s)
theorem qY {P:Program}[Tab P]{G:Glo}{GL:List (Nat×List AVal)}{n:Nat}{H:Heap}{v:Value}(i:Nat){f:FuncId}{fn:Func}{c:Code}{avs:List AVal}{Qf:cz->Heap->Prop}{rs:List ResultVar}(hf:P.funcs[f]? =some fn)
  (hc:∀args w,(callFunc f args).run P w= .ok (.enter f args) w) (hb:fn.body=some c) (hn:fn.ntmps=n) (hrs:fn.results=rs.toArray) (hlen:Nat.ble (AVal.raw v::avs).length n=true) (hGL:ab G GL) (hv:cU v=false)
  (h:∀C:Ctx,C.G=G->gh P C n G GL c ((0,.own i v)::ft 0 (.raw v::avs)) H (ui P rs Qf)):ae P G f (.raw v::avs) H Qf:=
 qZ hf hb hc hn hrs hlen λw0 R0 hG=>(Dg (C:=⟨w0,R0,eh H,G,hG,[]⟩) (k:=0) i rfl hGL hv rfl (h ⟨w0,R0,eh H,G,hG,[]⟩ rfl)).mono λ_ _ _ q=>jV q
theorem sk {G:Glo}(b:Nat):aj prog G 161 [.raw (cP b)] (.raw (cP b)):=by
 refine dH func161 (by kernel_rfl) (by kernel_rfl) (by kernel_rfl) (e:=Go.Extern.AbiNoEscape.same) (by kernel_rfl) ?_;rintro R args ⟨x,t,e,h1,h2⟩ w;obtain rfl:t=[]:=h2;obtain⟨l⟩:=args;obtain rfl:l=[x]:=e;exact⟨x,rfl,h1⟩
theorem Ds {C:Ctx}{R:Seal}{H:Heap}{w:World}(hm:MS C R H w){i b:Nat}{e:TypeId}{cs:List AVal}(hi:H[i]? =some (.cells b (some e) cs)):w.shape? b=some (e,cs.length):=by
 obtain⟨Cs,el,fz,hb,hl,_,ht⟩:=jZ hm hi;have:=aO hl;simp only[Array.length_toList] at this;simp[World.shape?,hb,this,ht e rfl]
section
variable {C:Ctx} {H:Heap} {env:Env} {x y:Operand} {i j b:Nat} {c0 c1:AVal}
theorem P8 (hx:ai env x=some (.own i (cP b)))(hi:H[j]? =some (.cells b (some 120) [c0,c1])):bD prog C H env (.convert 118 160 x) (.own i (cP b)):=by
 intro R ρ w hm hf dst t p af g;refine⟨cP b,?_,a7.2 ⟨rfl,rfl⟩⟩;obtain⟨ie,hie,hs1,_⟩:=gR (P:=prog) (t:=120) rfl;have hr:=Lib.run_to_unsafe (P:=prog) w (src:=118) (dst:=160) (t:=120) (j:=ie) ⟨b,0,none⟩ underlying118 underlying160 hie (by rw[hs1];exact Nat.succ_ne_zero _) (Ds hm hi) (Nat.zero_lt_succ _);simp only[execOp,(a7.1 (hf _ _ hx)).1,Sem.run_bind,hr,Result.andThen_ok,Sem.run_pure]
theorem Qa (hx:ai env x=some (.raw (cP b)))(hi:H[j]? =some (.cells b (some 120) [c0,c1])):bD prog C H env (.convert 160 118 x) (.raw (cP b)):=by
 intro R ρ w hm hf dst t p af g;refine⟨cP b,?_,ar.2 rfl⟩;obtain⟨ie,hie,hs1,_⟩:=gR (P:=prog) (t:=120) rfl;have hr:=Lib.run_from_unsafe (P:=prog) w (src:=160) (dst:=118) (u:=120) (j:=ie) ⟨b,0,none⟩ underlying160 underlying118 hie (Ds hm hi) (by kernel_rfl);simp only[execOp,ar.1 (hf _ _ hx),Sem.run_bind,hr,Result.andThen_ok,Sem.run_pure]
theorem Mc (hx:ai env x=some (.raw (cP b)))(hy:ai env y=some (.own i (cP b))):bD prog C H env (.binOp .neq 118 x y 118) (.bool false):=by
 intro R ρ w hm hf dst t p af g;refine⟨.bool false,?_,aW.2 rfl⟩;obtain⟨ie,hie,hs1,_⟩:=gR (P:=prog) (t:=120) rfl;have hr:=Lib.run_neq_ptr_same (P:=prog) w (tp:=118) (te:=120) (j:=ie) ⟨b,0,none⟩ underlying118 hie;have hg:(eqGuard BinOp.neq 118 x y (cP b) (cP b)).run prog w= .ok () w:=rfl;simp only[execOp,ar.1 (hf _ _ hx),(a7.1 (hf _ _ hy)).1,Sem.run_bind,hg,hr,Result.andThen_ok,Sem.run_pure]
end
theorem yH {G:Glo}(b:Nat)(j:Nat)(v:Value):ae prog G 99 [.raw (cP b)] [co b (.pointer none) j v] (λr H=>r= .ret (.tuple [])/\H=[co b (cP b) j v]):=by
 have hGL:ab G []:=aG;refine qY 0 func99 call99 rfl rfl rfl rfl hGL rfl ?_;intro C hC;refine a6 ?_;intros;refine aP hC hGL (P8 (j:=0) rfl rfl) rfl rfl ?_;repeat' (first|(conv=>whnf);first|refine .w ?_|refine .v ?_|refine cj ?_ ?_<;>(intro hb;try exact dd hb)|apply aF|apply bf|(apply bQ<;>intro hb)|(apply bR;intro hbd)|(apply aZ;exact sk _)|(apply aL (i:=0) rfl;exact sk _)|(apply bS;intro bl)|(apply cb;intro va vk vc hva)|(apply ca;intro v)|(apply cd;intro bl cap hcap)|apply cg|(apply bZ<;>intro hnx)|apply cK mixed hC hGL (by kernel_rfl)|(apply cq;assumption;exact sk _;exact rfl)|(show Rt _ _ _;exact bK)|fail)
 all_goals try conv=>whnf
 refine aP hC hGL (Qa (j:=0) rfl rfl) rfl rfl ?_;exact ba
theorem yG {G:Glo}(b:Nat)(j:Nat)(v:Value):ae prog G 99 [.raw (cP b)] [co b (cP b) j v] (λr H=>r= .ret (.tuple [])/\H=[co b (cP b) j v]):=by
 have hGL:ab G []:=aG;refine qY 0 func99 call99 rfl rfl rfl rfl hGL rfl ?_;intro C hC;refine a6 ?_;intros;refine aP hC hGL (Mc rfl rfl) rfl rfl ?_;exact ba
def xP (b:Nat)(p:Value):Prop:=p= .pointer none\/p=cP b
theorem fo {G:Glo}{b:Nat}{p:Value}(hp:xP b p)(j:Nat)(v:Value):ae prog G 99 [.raw (cP b)] [co b p j v] (λr H=>r= .ret (.tuple [])/\H=[co b (cP b) j v]):=by
 rcases hp with rfl|rfl
 ·exact yH b j v
 ·exact yG b j v
theorem Ez (v:Value)(s t:List UInt8):HEnt.row v (some 5) 1 (s.length+t.length) (iO s++iO t)=eN v (s++t):=by
 simp only[eN,iO,List.length_append,List.map_append]
theorem u7 {H:Heap}{i j:Nat}{x0 y0:HEnt}(hne:i≠j)(hi:H[i]? =some x0)(hj:H[j]? =some y0):∃rest:Heap,H.Perm ([x0,y0]++rest)/\∀x y,((H.set i x).set j y).Perm ([x,y]++rest):=by
 have key:∃rest:Heap,∀x y,((H.set i x).set j y).Perm ([x,y]++rest):=by
  rcases Nat.lt_or_gt_of_ne hne with h|h
  ·refine⟨(H.eraseIdx j).eraseIdx i,λx y=> ?_⟩;have h1:=i6 (H:=H.set i x) (i:=j) (x:=y0) y (by rw[List.getElem?_set_ne (by omega)];exact hj);rw[List.eraseIdx_set_gt h] at h1;have h2:=i6 (H:=H.eraseIdx j) (i:=i) (x:=x0) x (by rw[List.getElem?_eraseIdx_of_lt h];exact hi);refine h1.symm.trans ?_
   refine(List.Perm.append_left [y] h2.symm).trans ?_
   exact List.Perm.swap x y _
  ·refine⟨(H.eraseIdx j).eraseIdx (i-1),λx y=> ?_⟩
   have h1:=i6 (H:=H.set i x) (i:=j) (x:=y0) y (by rw[List.getElem?_set_ne (by omega)];exact hj)
   rw[List.eraseIdx_set_lt h] at h1
   have h2:=i6 (H:=H.eraseIdx j) (i:=i-1) (x:=x0) x (by rw[List.getElem?_eraseIdx_of_ge (by omega),show i-1+1=i by omega];exact hi)
   refine h1.symm.trans ?_
   refine(List.Perm.append_left [y] h2.symm).trans ?_
   exact List.Perm.swap x y _
 obtain⟨rest,h⟩:=key
 refine⟨rest,?_,h⟩
 have:=h x0 y0
 have e1:H.set i x0=H:=by
  obtain⟨hl,he⟩:=List.getElem?_eq_some_iff.1 hi
  rw[<-he];exact List.set_getElem_self hl
 have e2:H.set j y0=H:=by
  obtain⟨hl,he⟩:=List.getElem?_eq_some_iff.1 hj
  rw[<-he];exact List.set_getElem_self hl
 rw[e1,e2] at this
 exact this
theorem A2 {C:Ctx}{R:Seal}{H:Heap}{w:World}{b j:Nat}{p v:Value}(k:Nat)(h:MS C R (co b p j v::H) w):MS C R (co b p k v::H) w:=
 h.swap (i:=0) (x:=co b p j v) (y:=co b p k v) rfl rfl (h.heap.holds (co b p j v) List.mem_cons_self)
theorem uG {P:Program}{G:Glo}{f:FuncId}{avs:List AVal}{H H0:Heap}{Qf Qf':cz->Heap->Prop}(hb:∀k,k∈eh H↔k∈eh H0)(hpre:∀C R w,MS C R H0 w->MS C R H w)(h:ae P G f avs H Qf)
  (hq:∀r H',Qf r H'->∃H'',Qf' r H''/\∀C R w,MS C R H' w->MS C R H'' w):ae P G f avs H0 Qf':=by
 unfold ae at h ⊢;intro R w args hG hm ha;rcases h R w args hG ((hpre _ _ _ hm).blks_iff λk=>(hb k).symm) ha with⟨h1,h2⟩|⟨v,w',h1,res,H',R',q,er,hm'⟩
 ·exact .inl ⟨h1,h2.mono λe w' ⟨res,H',R',q,er,hm'⟩=>let ⟨H'',q',hc⟩:=hq _ _ q;⟨res,H'',R',q',er,hc _ _ _ (hm'.blks_iff hb)⟩⟩
 ·obtain⟨H'',q',hc⟩:=hq _ _ q;exact .inr ⟨v,w',h1,res,H'',R',q',er,hc _ _ _ (hm'.blks_iff hb)⟩
theorem Bn {P:Program}{G:Glo}{f:FuncId}{avs:List AVal}{b j k:Nat}{p v:Value}{H:Heap}{Qf Qf':cz->Heap->Prop}(h:ae P G f avs (co b p k v::H) Qf)
  (hq:∀r H',Qf r H'->∃H'',Qf' r H''/\∀C R w,MS C R H' w->MS C R H'' w):ae P G f avs (co b p j v::H) Qf':=
 uG (H:=co b p k v::H) (H0:=co b p j v::H) (λ_=>Iff.rfl) (λ_ _ _ h=>A2 k h) h hq
abbrev gy:HEnt:=.row (.slice none 0 0) none 1 0 []
theorem MS.spoil {C:Ctx}{R:Seal}{H:Heap}{w w':World}{i b:Nat}{x:HEnt}{o:Obj}(h:MS C R H w)(hi:H[i]? =some x)(hb:x.blk=some b)(hw:mR w b o w'):MS C R (H.set i gy) w':=by
 obtain⟨a,c,rfl,hset⟩:=oa (y:=gy) hi;rw[hset];have hx:x∈a++x::c:=by simp
 have hRb:=h.heap.apart x hx b hb;have hnd:=h.heap.nodup;rw[List.filterMap_append,List.filterMap_cons,hb] at hnd;have hd:=List.nodup_append.1 hnd;have hother:∀z,z∈a\/z∈c->∀k,z.blk=some k->k≠b:=by
  rintro z hz k hk rfl;rcases hz with hz|hz
  ·exact hd.2.2 k (List.mem_filterMap.2 ⟨z,hz,hk⟩) k (by simp) rfl
  ·exact(List.nodup_cons.1 hd.2.1).1 (List.mem_filterMap.2 ⟨z,hz,hk⟩)
 have hmem:∀z,z∈a++gy::c->z=gy\/((z∈a\/z∈c)/\z∈a++x::c):=by
  intro z hz;simp only[List.mem_append,List.mem_cons] at hz ⊢;rcases hz with hz|hz|hz
  ·exact .inr ⟨.inl hz,.inl hz⟩
  ·exact .inl hz
  ·exact .inr ⟨.inr hz,.inr (.inr hz)⟩
 refine⟨?_,h.ge,h.fresh,⟨?_,?_,?_⟩,?_,?_⟩
 ·intro k o' hk;rw[hw.other k (by rintro rfl;rw[hRb] at hk;cases hk)];exact h.sealed k o' hk
 ·intro z hz;rcases hmem z hz with rfl|⟨hz',hz''⟩
  ·exact⟨rfl,.inl ⟨rfl,rfl⟩⟩
  ·exact HEnt.holds_mono (h.heap.holds z hz'') (Seal.le_refl R) λk hk=>hw.other k (hother z hz' k hk)
 ·rw[List.filterMap_append,List.filterMap_cons];refine List.nodup_append.2 ⟨hd.1,(List.nodup_cons.1 hd.2.1).2,λk hk l hl=>hd.2.2 k hk l (List.mem_cons_of_mem _ hl)⟩
 ·intro z hz k hk;rcases hmem z hz with rfl|⟨_,hz''⟩
  ·cases hk
  ·exact h.heap.apart z hz'' k hk
 ·intro z hz k hk;rcases hmem z hz with rfl|⟨_,hz''⟩
  ·cases hk
  ·exact h.own z hz'' k hk
 ·have hob:=h.own x hx b hb;refine⟨hw.os.trans h.ext.os,hw.tape.trans h.ext.tape,hw.output.trans h.ext.output,by rw[hw.size];exact h.ext.size,λk hk hB=> ?_⟩;rw[hw.other k (by rintro rfl;rcases hob with h1|h1;omega;exact hB h1)];exact h.ext.block k hk hB
theorem gA {P:Program}[Tab P]{G:Glo}{f:FuncId}{avs:List AVal}{H:Heap}{K Kp:AVal->Heap->Prop}{i j b:Nat}{p v:Value}{s s':List UInt8}{r:AVal}(hi:H[i]? =some (co b p j v))(hj:H[j]? =some (eN v s))(hne:i≠j)
  (hs:ae P G f avs [co b p 1 v,eN v s] (λx H=>∃va vk vc,x= .ret r/\H=[co b (cP b) 1 (.slice va vk vc),eN (.slice va vk vc) s']))
  (k:∀va vk vc,dP ((H.set i (co b (cP b) j (.slice va vk vc))).set j (eN (.slice va vk vc) s')) (K r)):Cx P G f avs H K Kp:=by
 obtain⟨rest,hp,hp2⟩:=u7 hne hi hj;have h1:ae P G f avs [co b p j v,eN v s] (λx H=>∃va vk vc,x= .ret r/\H=[co b (cP b) j (.slice va vk vc),eN (.slice va vk vc) s']):=by
  refine Bn hs ?_;rintro x H' ⟨va,vk,vc,rfl,rfl⟩;exact⟨_,⟨va,vk,vc,rfl,rfl⟩,λC R w h=>A2 j h⟩
 refine⟨λx H'=>∃va vk vc,x= .ret r/\H'=(H.set i (co b (cP b) j (.slice va vk vc))).set j (eN (.slice va vk vc) s'),jR (jQ (H1:=[co b p j v,eN v s]++rest) hp.symm (ig rest h1)) ?_,?_,?_⟩
 ·rintro x H' ⟨H1',⟨va,vk,vc,rfl,rfl⟩,rfl⟩;exact⟨_,(hp2 _ _).symm,va,vk,vc,rfl,rfl⟩
 ·rintro v' H' ⟨va,vk,vc,e,rfl⟩;cases e;have:=k va vk vc;rw[bB] at this;exact this
 ·rintro v' H' ⟨va,vk,vc,e,rfl⟩;cases e
theorem UA {P:Program}[Tab P]{G:Glo}{f:FuncId}{avs:List AVal}{H:Heap}{K Kp:AVal->Heap->Prop}{i j b:Nat}{p v:Value}{s:List UInt8}{r:AVal}(hi:H[i]? =some (co b p j v))(hj:H[j]? =some (eN v s))(hne:i≠j)
  (hs:ae P G f avs [co b p 1 v,eN v s] (λx H=>x= .ret r/\H=[]))
  (k:dP ((H.set i gy).set j gy) (K r)):Cx P G f avs H K Kp:=by
 obtain⟨rest,hp,hp2⟩:=u7 hne hi hj;have h1:ae P G f avs [co b p j v,eN v s] (λx H=>x= .ret r/\H=[gy,gy]):=by
  refine Bn hs ?_;rintro x H' ⟨rfl,rfl⟩;exact⟨_,⟨rfl,rfl⟩,λC R w h=>(h.ghost 1).ghost 1⟩
 refine⟨λx H'=>x= .ret r/\H'=(H.set i gy).set j gy,jR (jQ (H1:=[co b p j v,eN v s]++rest) hp.symm (ig rest h1)) ?_,?_,?_⟩
 ·rintro x H' ⟨H1',⟨rfl,rfl⟩,rfl⟩;exact⟨_,(hp2 _ _).symm,rfl,rfl⟩
 ·rintro v' H' ⟨e,rfl⟩;cases e;rw[bB] at k;exact k
 ·rintro v' H' ⟨e,rfl⟩;cases e
theorem da {G:Glo}{b:Nat}{p:Value}(hp:xP b p)(v:Value)(s t:List UInt8)(hl:s.length+t.length<=137438953472):ae prog G 55 [.raw (cP b),.str t] [co b p 1 v,eN v s]
  (λr H=>∃va vk vc,r= .ret (.tuple [.int .i64 t.length,.raw .nilIface])/\H=[co b (cP b) 1 (.slice va vk vc),eN (.slice va vk vc) (s++t)]):=by
 have hGL:ab G []:=aG;refine qY 0 func55 call55 rfl rfl rfl rfl hGL rfl ?_;intro C hC;repeat' (first|(conv=>whnf);first|refine .w ?_|refine .v ?_|refine cj ?_ ?_<;>(intro hb;try exact dd hb)|apply aF|apply bf|(apply bQ<;>intro hb)|(apply bR;intro hbd)|(apply aZ;exact fo hp _ _)|(apply aL (i:=0) rfl;exact fo hp _ _)|(apply bS;intro bl)|(apply cb;intro va vk vc hva)|(apply ca;intro v)|(apply cd;intro bl cap hcap)|apply cg|(apply bZ<;>intro hnx)|apply cK mixed hC hGL (by kernel_rfl)|(apply cq;assumption;exact fo hp _ _;exact rfl)|(show Rt _ _ _;exact bK)|fail)
 all_goals try conv=>whnf
 refine MJ hC hGL rfl rfl rfl rfl rfl rfl rfl rfl rfl rfl rfl rfl rfl rfl hl rfl ?_;intro va vk vc;refine a6 ?_;intros;exact⟨_,List.Sublist.refl _,va,vk,vc,rfl,by rw[Ez]⟩
theorem gE {G:Glo}{b:Nat}{p:Value}(hp:xP b p)(v:Value)(s:List UInt8)(c:Int)(h0:0<=c)(h1:c<256)(hl:s.length+1<=137438953472):ae prog G 102 [.raw (cP b),.int .u8 c] [co b p 1 v,eN v s]
    (λr H=>∃va vk vc,r= .ret (.raw .nilIface)/\H=[co b (cP b) 1 (.slice va vk vc),eN (.slice va vk vc) (s++[UInt8.ofNat c.toNat])]):=by
  have hGL:ab G []:=aG;refine qY 0 func102 call102 rfl rfl rfl rfl hGL rfl ?_;intro C hC;repeat' (first|(conv=>whnf);first|refine .w ?_|refine .v ?_|refine cj ?_ ?_<;>(intro hb;try exact dd hb)|apply aF|apply bf|(apply bQ<;>intro hb)|(apply bR;intro hbd)|(apply aZ;exact fo hp _ _)|(apply aL (i:=0) rfl;exact fo hp _ _)|(apply bS;intro bl)|(apply cb;intro va vk vc hva)|(apply ca;intro v)|(apply cd;intro bl cap hcap)|apply cg|(apply bZ<;>intro hnx)|apply cK mixed hC hGL (by kernel_rfl)|(apply cq;assumption;exact fo hp _ _;exact rfl)|(show Rt _ _ _;exact bK)|fail)
  all_goals try conv=>whnf
  refine⟨_,List.Sublist.refl _,va,vk,vc,rfl,?_⟩;rw[<-Ez];have e:c=((UInt8.ofNat c.toNat).toNat:Int):=by
    rw [UInt8.toNat_ofNat_of_lt' (by have:c.toNat<256:=by omega
                                     simpa using this)]
    omega
  show[_,HEnt.row _ _ 1 (s.length+1) (iO s++[AVal.int .u8 c])]=[_,HEnt.row _ _ 1 (s.length+1) (iO s++[AVal.int .u8 _])];rw[<-e]
theorem Uh {P:Program}{G:Glo}{f:FuncId}{avs:List AVal}{H:Heap}{Qf:cz->Heap->Prop}{i sz m:Nat}{v:Value}{eT:Option TypeId}{cs:List AVal}(hi:H[i]? =some (.row v eT sz m cs))
  (h:((v= .slice none 0 0/\m=0)\/∃g cap,v= .slice (some ⟨g,0,none⟩) m cap/\m<=cap)->ae P G f avs H Qf):ae P G f avs H Qf:=by
 unfold ae at h ⊢;intro R w args hG hm ha;obtain⟨_,hh⟩:=hm.heap.holds _ (List.mem_of_getElem? hi);refine h ?_ R w args hG hm ha;rcases hh with⟨rfl,rfl⟩|⟨g,cap,_,_,_,rfl,_,_,hle,_⟩
 ·exact .inl ⟨rfl,rfl⟩
 ·exact .inr ⟨g,cap,rfl,hle⟩
section
variable {P:Program} [Tab P] {C:Ctx} {n:Nat} {env:Env} {H:Heap} {Q:aQ->Env->Heap->Prop} {ops:Array Oper} {rest:List Oper} {G:Glo} {GL:List (Nat×List AVal)}
variable {d:Nat} {t:TypeId} {p:String} {af:Array Edge} {g:Option (Nat×Bool)} {b:Bool} {x y:Operand}
omit [Tab P] in
theorem Ma {i k c:Nat}{a:Addr}{ts:Array TypeId}(hx:ai env x=some (.own i (.slice (some a) k c)))(hc:c≠0):bD P C H env (.call {callee:=.builtin .unsafeSliceData,args:=#[x],argTypes:=ts}) (.raw (.pointer (some a))):=by
 intro R ρ w hm hf dst t p af g;refine⟨.pointer (some a),?_,ar.2 rfl⟩;have hr:=Lib.run_unsafeSliceData_row (P:=P) w ts t a k c hc;have e:(#[x].map ρ)=#[.slice (some a) k c]:=by simp[(a7.1 (hf _ _ hx)).1]
 simp only[execOp,resolve,Sem.run_bind,Sem.run_pure,Result.andThen_ok,invoke,builtin,e,hr]
theorem MI {i0 gb cap:Nat}{s:List UInt8}{pt it:TypeId}{e:TypeId}(hC:C.G=G)(hGL:ab G GL)(hg:a8 ops env g=some (b,b))(hdn:Nat.ble (d+1) n=true)
  (hx:ai env x=some (.raw (cP gb))) (hy:ai env y=some (.int .i64 s.length)) (hi:H[i0]? =some (.row (.slice (some ⟨gb,0,none⟩) s.length cap) (some e) 1 s.length (iO s))) (hs:s≠[]) (hlen:s.length<=137438953472)
  (hp:P.underlying pt=some (.pointer e)) (hce:P.cellsOf e=1) (k:mw P C n G GL ops Q rest ((d,.str s)::env) (H.set i0 gy)):
  uj P C n ops ({dst:=some d,op:=.call {callee:=.builtin .unsafeString,args:=#[x,y],argTypes:=#[pt,it]},type:=t,pos:=p,after:=af,guard:=g}::rest) env H Q:=by
 refine⟨gt (X:=Unit) (av:=λ_=>.str s) (H':=λ_=>H.set i0 gy) hg rfl hdn (λR ρ w hm hf=> ?_) λ_=>eZ hC hGL _ _ _ k⟩;obtain⟨_,hh⟩:=hm.heap.holds _ (List.mem_of_getElem? hi);rcases hh with⟨h,_⟩|⟨g',cap',Cs,el,fz,h,hb,hcs,hle,hl,hfz,ht⟩
 ·cases h
 ·cases h;obtain rfl:=ht e rfl;rw[Nat.mul_one] at hcs hl;have hcell:∀j x,s[j]? =some x->w.cell? ((⟨gb,0,none⟩:Addr).add j)=some (.int .u8 x.toNat):=by
   intro j x hj;obtain⟨hj1,hj2⟩:=List.getElem?_eq_some_iff.1 hj;have:=xA (s:=s) (o:=0) hb (by rw[List.drop_zero];exact hl) j hj1;rw[hj2] at this;exact this
  have hsh:w.shape? gb=some (el,Cs.size):=by simp[World.shape?,hb]
  have hr:=Lib.run_unsafeString_row (P:=P) w pt it t el hp hce gb Cs.size hsh s hs (by omega) (by omega) hcell;have e2:(#[x,y].map ρ)=#[cP gb,.int .i64 s.length]:=by simp[ar.1 (hf _ _ hx),aq.1 (hf _ _ hy)]
  have hone:∃o,mR w gb o (w.freeze ⟨gb,0,none⟩ s.length):=by
   have h0:s.length≠0:=by simpa using hs
   unfold World.freeze;rw[if_neg h0];obtain⟨lo,hi⟩:=fz;refine⟨.cells Cs el (if lo==hi then(0,0+s.length) else(min lo 0,max hi (0+s.length))),rfl,rfl,rfl,by simp,?_,?_⟩
   ·simp[Array.getElem?_modify,hb]
   ·intro k hk;simp[Array.getElem?_modify,Ne.symm hk]
  obtain⟨o,hone⟩:=hone;refine⟨(),.string ⟨s.toArray⟩,w.freeze ⟨gb,0,none⟩ s.length,R,?_,Seal.le_refl R,aI.2 rfl,hm.spoil hi rfl hone⟩;simp only[execOp,resolve,Sem.run_bind,Sem.run_pure,Result.andThen_ok,invoke,builtin,e2,hr]
omit [Tab P] in
theorem Tm {i k c:Nat}{ts:Array TypeId}(hx:ai env x=some (.own i (.slice none k c))):bD P C H env (.call {callee:=.builtin .unsafeSliceData,args:=#[x],argTypes:=ts}) (.raw (.pointer none)):=by
 intro R ρ w hm hf dst t p af g
 refine⟨.pointer none,?_,ar.2 rfl⟩
 have hr:=Lib.run_unsafeSliceData_nil (P:=P) w ts t k c;have e:(#[x].map ρ)=#[.slice none k c]:=by simp[(a7.1 (hf _ _ hx)).1]
 simp only[execOp,resolve,Sem.run_bind,Sem.run_pure,Result.andThen_ok,invoke,builtin,e,hr]
omit [Tab P] in
theorem Az {pt it:TypeId}{a:Option Addr}(hx:ai env x=some (.raw (.pointer a)))(hy:ai env y=some (.int .i64 0)):bD P C H env (.call {callee:=.builtin .unsafeString,args:=#[x,y],argTypes:=#[pt,it]}) (.str []):=by
 intro R ρ w hm hf dst t p af g
 refine⟨.string .empty,?_,aI.2 rfl⟩
 have hr:=Lib.run_unsafeString_none (P:=P) w pt it t a;have e:(#[x,y].map ρ)=#[.pointer a,.int .i64 0]:=by simp[ar.1 (hf _ _ hx),aq.1 (hf _ _ hy)]
 simp only[execOp,resolve,Sem.run_bind,Sem.run_pure,Result.andThen_ok,invoke,builtin,e,hr]
theorem Qy {i0 i k gb:Nat}{ts:Array TypeId}{e:TypeId}{eT:Option TypeId}{cs:List AVal}(hC:C.G=G)(hGL:ab G GL)(hg:a8 ops env g=some (b,b))(hdn:Nat.ble (d+1) n=true)
  (hx:ai env x=some (.own i (.slice (some ⟨gb,0,none⟩) k 0))) (hi:H[i0]? =some (.row (.slice (some ⟨gb,0,none⟩) k 0) eT 1 k cs)) (hp:P.underlying t=some (.pointer e))
  (kk:∀bl,mw P C n G GL ops Q rest ((d,.raw (cP bl))::env) H):
  uj P C n ops ({dst:=some d,op:=.call {callee:=.builtin .unsafeSliceData,args:=#[x],argTypes:=ts},type:=t,pos:=p,after:=af,guard:=g}::rest) env H Q:=by
 refine⟨gt (X:=Nat) (av:=λbl=>.raw (cP bl)) (H':=λ_=>H) hg rfl hdn (λR ρ w hm hf=> ?_) λbl=>eZ hC hGL _ _ _ (kk bl)⟩;obtain⟨_,hh⟩:=hm.heap.holds _ (List.mem_of_getElem? hi);rcases hh with⟨h,_⟩|⟨g',cap',Cs,el,fz,h,hb,hcs,hle,hl,hfz,ht⟩
 ·cases h
 ·cases h;have hr:=Lib.run_unsafeSliceData_zero (P:=P) w ts t e hp ⟨gb,0,none⟩ k (el,Cs.size) (by simp[World.shape?,hb]);have e2:(#[x].map ρ)=#[.slice (some ⟨gb,0,none⟩) k 0]:=by simp[(a7.1 (hf _ _ hx)).1]
  refine⟨w.heap.size,cP w.heap.size,_,R.put w.heap.size (.view ⟨gb,0,none⟩ e),?_,Seal.put_le hm.seal_free,ar.2 rfl,hm.alloc_sealed _⟩;simp only[execOp,resolve,Sem.run_bind,Sem.run_pure,Result.andThen_ok,invoke,builtin,e2,hr];rfl
end
theorem uh {G:Glo}{b:Nat}{p:Value}(g cap:Nat)(s:List UInt8)(hs:s≠[])(hlen:s.length<=137438953472)(hc0:cap≠0):ae prog G 56 [.raw (cP b)] [co b p 1 (.slice (some ⟨g,0,none⟩) s.length cap),eN (.slice (some ⟨g,0,none⟩) s.length cap) s] (λr H=>r= .ret (.str s)/\H=[co b p 1 (.slice (some ⟨g,0,none⟩) s.length cap)]):=by
 have hGL:ab G []:=aG;refine qY 0 func56 call56 rfl rfl rfl rfl hGL rfl ?_;intro C hC;refine az ?_;intros;refine cR mixed hC hGL false (λ(_:Unit)=>[(2,.str s)]) (λ_=>[co b p 1 (.slice (some ⟨g,0,none⟩) s.length cap),gy]) .p2 (by kernel_rfl) ?_ ?_
 ·refine xm ?_;repeat' first|exact .n|apply Lc.mk
  all_goals intros
  all_goals (apply aP;assumption;exact hGL;exact Ma rfl hc0;exact rfl;exact rfl)
  all_goals (
   refine n4 ?_
   intros
  )
  all_goals (apply MI (i0:=1) (s:=s) (cap:=cap) (gb:=g);assumption;exact hGL;exact rfl;exact rfl;exact rfl;exact rfl;exact rfl;exact hs;exact hlen;exact underlying186;kernel_rfl)
  all_goals (
   refine n4 ?_
   intros
  )
  all_goals (exact⟨(),⟨rfl,trivial⟩,rfl⟩)
 ·intro _;exact cx
theorem ug {G:Glo}{b:Nat}{p:Value}(g cap:Nat)(hc0:cap≠0):ae prog G 56 [.raw (cP b)] [co b p 1 (.slice (some ⟨g,0,none⟩) 0 cap),eN (.slice (some ⟨g,0,none⟩) 0 cap) []] (λr H=>r= .ret (.str [])/\H=[co b p 1 (.slice (some ⟨g,0,none⟩) 0 cap)]):=by
 have hGL:ab G []:=aG;refine qY 0 func56 call56 rfl rfl rfl rfl hGL rfl ?_;intro C hC;refine az ?_;intros;refine cR mixed hC hGL false (λ(_:Unit)=>[(2,.str [])]) (λ_=>[co b p 1 (.slice (some ⟨g,0,none⟩) 0 cap),eN (.slice (some ⟨g,0,none⟩) 0 cap) []]) .p2 (by kernel_rfl) ?_ ?_
 ·refine xm ?_;repeat' first|exact .n|apply Lc.mk
  all_goals intros
  all_goals (apply aP;assumption;exact hGL;exact Ma rfl hc0;exact rfl;exact rfl)
  all_goals (
   refine n4 ?_
   intros
  )
  all_goals (apply aP;assumption;exact hGL;exact Az rfl rfl;exact rfl;exact rfl)
  all_goals (
   refine n4 ?_
   intros
  )
  all_goals (exact⟨(),⟨rfl,trivial⟩,rfl⟩)
 ·intro _;exact cx
theorem uf {G:Glo}{b:Nat}{p:Value}:ae prog G 56 [.raw (cP b)] [co b p 1 (.slice none 0 0),eN (.slice none 0 0) []] (λr H=>r= .ret (.str [])/\H=[co b p 1 (.slice none 0 0)]):=by
 have hGL:ab G []:=aG;refine qY 0 func56 call56 rfl rfl rfl rfl hGL rfl ?_;intro C hC;refine az ?_;intros;refine cR mixed hC hGL false (λ(_:Unit)=>[(2,.str [])]) (λ_=>[co b p 1 (.slice none 0 0),eN (.slice none 0 0) []]) .p2 (by kernel_rfl) ?_ ?_
 ·refine xm ?_;repeat' first|exact .n|apply Lc.mk
  all_goals intros
  all_goals (apply aP;assumption;exact hGL;exact Tm rfl;exact rfl;exact rfl)
  all_goals (
   refine n4 ?_
   intros
  )
  all_goals (apply aP;assumption;exact hGL;exact Az rfl rfl;exact rfl;exact rfl)
  all_goals (
   refine n4 ?_
   intros
  )
  all_goals (exact⟨(),⟨rfl,trivial⟩,rfl⟩)
 ·intro _;exact cx
theorem ue {G:Glo}{b:Nat}{p:Value}(g:Nat):ae prog G 56 [.raw (cP b)] [co b p 1 (.slice (some ⟨g,0,none⟩) 0 0),eN (.slice (some ⟨g,0,none⟩) 0 0) []] (λr H=>r= .ret (.str [])/\H=[co b p 1 (.slice (some ⟨g,0,none⟩) 0 0)]):=by
 have hGL:ab G []:=aG;refine qY 0 func56 call56 rfl rfl rfl rfl hGL rfl ?_;intro C hC;refine az ?_;intros;refine cR mixed hC hGL false (λ(_:Unit)=>[(2,.str [])]) (λ_=>[co b p 1 (.slice (some ⟨g,0,none⟩) 0 0),eN (.slice (some ⟨g,0,none⟩) 0 0) []]) .p2 (by kernel_rfl) ?_ ?_
 ·refine xm ?_;repeat' first|exact .n|apply Lc.mk
  all_goals intros
  all_goals (apply Qy (i0:=1);assumption;exact hGL;exact rfl;exact rfl;exact rfl;exact rfl;exact underlying186;intro bl)
  all_goals (
   refine n4 ?_
   intros
  )
  all_goals (apply aP;assumption;exact hGL;exact Az rfl rfl;exact rfl;exact rfl)
  all_goals (
   refine n4 ?_
   intros
  )
  all_goals (exact⟨(),⟨rfl,trivial⟩,rfl⟩)
 ·intro _;exact cx
theorem rz {G:Glo}{b:Nat}{p v:Value}(s:List UInt8)(hlen:s.length<=137438953472):ae prog G 56 [.raw (cP b)] [co b p 1 v,eN v s] (λr H=>r= .ret (.str s)/\H=[co b p 1 v]):=by
 refine Uh (i:=1) rfl ?_;rintro(⟨rfl,h0⟩|⟨g,cap,rfl,hc⟩)
 ·obtain rfl:s=[]:=List.eq_nil_of_length_eq_zero h0;exact uf
 ·by_cases hs:s=[]
  ·subst hs;by_cases hc0:cap=0
   ·subst hc0;exact ue g
   ·exact ug g cap hc0
  ·have h1:s.length≠0:=by simpa using hs
   exact uh g cap s hs hlen (by omega)
theorem xD {G:Glo}{b:Nat}{p v:Value}(s:List UInt8)(hlen:s.length<=137438953472):ae prog G 56 [.raw (cP b)] [co b p 1 v,eN v s] (λr H=>r= .ret (.str s)/\H=[]):=
 uG (λ_=>Iff.rfl) (λ_ _ _ h=>h) (rz s hlen) λr H' ⟨e,eH⟩=>⟨[],⟨e,rfl⟩,λ_ _ _ h=>h.drop (List.nil_sublist _)⟩
end
section
attribute [local irreducible] bN aw aa aC bg ab ae
attribute [local irreducible] aD dy gC d8 eC fA
def mB (r:Int):Bool:=decide (0<=r/\r<=1114111/\(r<55296\/57343<r))
theorem mA {r:Int}:mB r=true↔(0<=r/\r<=1114111/\(r<55296\/57343<r)):=by simp[mB]
theorem TT {r:Int}:mB r=false↔¬(0<=r/\r<=1114111/\(r<55296\/57343<r)):=by simp[mB]
attribute [local irreducible] mB
theorem n6 {G:Glo}(r:Int):aj prog G 181 [.int .i64 r] (.bool (mB r)):=by
 refine ao func181 call181 λC hC hGL=> ?_;refine xw ?_;repeat' first|exact .n|apply Lc.mk
 all_goals intros
 all_goals (apply ak)
 all_goals (refine congrArg AVal.bool ?_)
 all_goals (rw[Bool.eq_iff_iff];simp[mA,nE,mW,Bool.not_eq_true']<;>omega)
theorem I6 {k j:IntKind}{a b c e:Int}{H':Heap}(h:c=a/\e=b):Rt (λ(x:cz) (H:Heap)=>x= .ret (.tuple [.int k c,.int j e])/\H=[]) (.tuple [.int k a,.int j b]) H':=by
 obtain⟨rfl,rfl⟩:=h;exact ak rfl
theorem Ca {G:Glo}(s:List UInt8):aj prog G 127 [.str s] (.tuple [.int .i64 ((aD s).1:Int),.int .i64 ((aD s).2:Int)]):=by
 refine ao func127 call127 λC hC hGL=> ?_;repeat' (first|(conv=>whnf);first|refine .w ?_|refine .v ?_|refine cj ?_ ?_<;>(intro hb;try exact dd hb)|apply aF|apply bf|(apply bQ<;>intro hb)|(apply bR;intro hbd)|(apply aZ;exact n6 _)|(apply aL (i:=0) rfl;exact n6 _)|(apply bS;intro bl)|(apply cb;intro va vk vc hva)|(apply ca;intro v)|(apply cd;intro bl cap hcap)|apply cg|(apply bZ<;>intro hnx)|apply cK mixed hC hGL (by kernel_rfl)|(apply cq;assumption;exact n6 _;exact rfl)|(show Rt _ _ _;exact bK)|fail)
 all_goals try conv=>whnf
 any_goals (refine og hC hGL 4 ?_)
 repeat' (first|(conv=>whnf);first|refine .w ?_|refine .v ?_|refine cj ?_ ?_<;>(intro hb;try exact dd hb)|apply aF|apply bf|(apply bQ<;>intro hb)|(apply bR;intro hbd)|(apply aZ;exact n6 _)|(apply aL (i:=0) rfl;exact n6 _)|(apply bS;intro bl)|(apply cb;intro va vk vc hva)|(apply ca;intro v)|(apply cd;intro bl cap hcap)|apply cg|(apply bZ<;>intro hnx)|apply cK mixed hC hGL (by kernel_rfl)|(apply cq;assumption;exact n6 _;exact rfl)|(show Rt _ _ _;exact bK)|fail)
 all_goals try conv=>whnf
 all_goals (refine I6 ?_)
 all_goals (
  try simp only[show Int.toNat 0=0 from rfl,show Int.toNat 1=1 from rfl,show Int.toNat (1+1)=2 from rfl,show Int.toNat (1+1+1)=3 from rfl,Int.ofNat_toNat,mA,TT,nE,mW] at*
  generalize hz:aD s=z
  unfold aD bH jL xq xp xo at hz
  generalize aa s 0=b0 at*
  generalize aa s 1=b1 at*
  generalize aa s 2=b2 at*
  generalize aa s 3=b3 at*
  generalize s.length=l at*)
 all_goals (
  repeat' (split at hz;try (exfalso;omega))
  all_goals (try subst z)
  all_goals (first
   |exact⟨rfl,rfl⟩
   |(simp only[Bool.and_eq_true,Bool.or_eq_true,decide_eq_true_eq,beq_iff_eq] at*;first|(exfalso;omega)|omega)))
end
section
attribute [local irreducible] bN aw aa aC bg ab ae
attribute [local irreducible] aD dy gC d8 eC fA
theorem um {G:Glo}(s:List UInt8)(hl:s.length<=9223372036854775807):aj prog G 76 [.str s] (.int .i64 (dy s)):=by
 refine ao func76 call76 λC hC hGL=> ?_;have hle:=λk=>nB (s.drop k);have k1:=@Ca;refine a6 ?_;intros;refine lp hC hGL (λ(i:Nat)=>[(0,.str s),(3,.int .i64 i)]) (λ_=>[]) (λi=>i<=s.length/\gC s=(gC (s.drop i)).map (· +i)) (λi=>s.length-i) 0 ?_ ad rfl ?_
 ·exact⟨Nat.zero_le _,by simp⟩
 rintro i ⟨hi,hb0⟩;have hn:=hle i;rw[List.length_drop] at hn;have k1:=@Ca;refine xw ?_;repeat' first|exact .n|apply Lc.mk
 all_goals intros
 ·apply ak;refine congrArg (AVal.int .i64) ?_;have h1:=iP (s.drop i) (by rw[List.length_drop];omega);rw[if_pos (by omega)] at h1;rw[h1] at hb0;simp only[dy,hb0,Option.map_some,Nat.zero_add]
 ·have h1:=iP (s.drop i) (by rw[List.length_drop];omega);rw[if_neg (by omega)] at h1;refine di (i+(aD (s.drop i)).2) ?_ ?_ ad rfl
  ·refine⟨by omega,?_⟩;rw[hb0,h1,List.drop_drop];cases gC (s.drop (i+(aD (s.drop i)).2))<;>simp<;>omega
  ·omega
 ·apply ak;refine congrArg (AVal.int .i64) ?_;rw[rA (s.drop i) (by rw[List.length_drop];omega)] at hb0;simp only[dy,hb0,Option.map_none]
end
section
attribute [local irreducible] bN aw aa aC bg ab ae
attribute [local irreducible] aD dy gC d8 eC fA mB
theorem u6 {G:Glo}(r:Int):aj prog G 243 [.int .i32 r] (.bool (mB r)):=by
 refine ao func243 call243 λC hC hGL=> ?_;refine xw ?_;repeat' first|exact .n|apply Lc.mk
 all_goals intros
 all_goals (apply ak;refine congrArg AVal.bool ?_)
 all_goals (rw[Bool.eq_iff_iff];simp[mA,nE,mW,Bool.not_eq_true']<;>omega)
theorem IC {r:Int}(hz:0<=r/\r<=1114111/\(r<55296\/57343<r)):(Utf8.encode r).data.toList=
  if r.toNat<128 then[UInt8.ofNat r.toNat] else if r.toNat<2048 then[UInt8.ofNat (192+r.toNat/64),UInt8.ofNat (128+r.toNat%64)]
  else if r.toNat<65536 then[UInt8.ofNat (224+r.toNat/4096),UInt8.ofNat (128+r.toNat/64%64),UInt8.ofNat (128+r.toNat%64)]
  else[UInt8.ofNat (240+r.toNat/262144),UInt8.ofNat (128+r.toNat/4096%64),UInt8.ofNat (128+r.toNat/64%64),UInt8.ofNat (128+r.toNat%64)]:=by
 have hv:Utf8.valid r=true:=by simp[Utf8.valid];omega
 unfold Utf8.encode;simp only[hv,if_true]
 (repeat' split)<;>first|rfl|omega
end
section
theorem QG {x:UInt8}{t:List UInt8}(h:x.toNat<128):aD (x::t)=(x.toNat,1):=by
 unfold aD;simp[aa,h]
theorem pD {x:UInt8}{t:List UInt8}(h:x.toNat<128):eC (x::t)=x.toNat/\d8 (x::t)=1:=by
 unfold eC d8;rw[QG h];simp
theorem Vt {a b:UInt8}(ha:a.toNat<128)(hb:b.toNat<128):eC [a,b]=a.toNat/\d8 [a,b]=1/\eC [b]=b.toNat/\d8 [b]=1:=⟨(pD ha).1,(pD ha).2,(pD hb).1,(pD hb).2⟩
theorem PH {a b:UInt8}:aa [a,b] 1=b.toNat:=rfl
def WU (Q:aQ->Env->Heap->Prop):aQ->Env->Heap->Prop
 |.goto _,_,_=>False
 |x,e,h=>Q x e h
theorem kH {P:Program}[Tab P]{C:Ctx}{n:Nat}{env:Env}{H:Heap}{Q:aQ->Env->Heap->Prop}{c:Code}{G:Glo}{GL:List (Nat×List AVal)}(hC:C.G=G)(hGL:ab G GL)(h:gh P C n G GL c env H (WU Q)):Cd P C n (.scope c) env H Q:=by
 refine⟨λR a w hm hf=>wp_scope_straight (wp_mono (cX hC hGL c _ _ _ h R a w hm hf) ?_)⟩;rintro ex a w ⟨x,e,h,R,hq,hr,hm,hf⟩;cases x with
 |goto l=>exact hq.elim
 |normal=>simp only[aM] at hr;subst hr;exact⟨.normal,e,h,R,hq,rfl,hm,hf⟩
 |exit i=>simp only[aM] at hr;subst hr;exact⟨.exit i,e,h,R,hq,rfl,hm,hf⟩
 |ret=>simp only[aM] at hr;subst hr;exact⟨.ret,e,h,R,hq,rfl,hm,hf⟩
 |panic v=>
  obtain⟨x,rfl,hx⟩:=hr
  exact⟨.panic v,e,h,R,hq,⟨x,rfl,hx⟩,hm,hf⟩
attribute [local irreducible] bN aw aa aC bg ab ae
attribute [local irreducible] aD dy gC d8 eC fA mB
theorem Us {r:Int}(h1:128<=r)(hv:mB r=true):∃e:List UInt8,(Utf8.encode r).data.toList=e/\2<=e.length/\e.length<=4/\128<=aa e 1/\aa e 1<256:=by
 refine⟨_,rfl,?_⟩;rw[mA] at hv;rw[IC hv];have hb:∀k:Nat,128<=((UInt8.ofNat (128+k%64)).toNat)/\((UInt8.ofNat (128+k%64)).toNat)<256:=by
  intro k;have e:128+k%64<256:=by omega
  rw[UInt8.toNat_ofNat_of_lt' (by simpa using e)];omega
 split
 ·omega
 ·split
  ·refine⟨by simp,by simp,?_⟩;simpa[aa] using hb _
  ·split
   ·refine⟨by simp,by simp,?_⟩;simpa[aa] using hb _
   ·refine⟨by simp,by simp,?_⟩;simpa[aa] using hb _
theorem Bb {G:Glo}{a b:UInt8}(ha:a.toNat<128)(hb':b.toNat<128)(r:Int)(h1:128<=r)(hv:mB r=true)(hne:r≠65533):aj prog G 223 [.str [a,b],.int .i32 r] (.int .i64 (-1)):=by
 refine ao func223 call223 λC hC hGL=> ?_;have hV:=u6 (G:=G) r;rw[hv] at hV;refine a6 ?_;intros;apply kH hC hGL;refine a6 ?_;intros;obtain⟨e,he,e1,e2,e3,e4⟩:=Us h1 hv;refine aP hC hGL (uo rfl rfl rfl rfl) rfl rfl ?_;rw[he];refine a6 ?_;intros;refine og hC hGL 1 ?_;have hix:∀c:Int,0<=c->c<=255->aj prog G 57 [.str [],.int .u8 c] (.int .i64 (-1)):=λc h0 h1=>aX [] c h0 h1;repeat' (first|(conv=>whnf);first|refine .w ?_|refine .v ?_|refine cj ?_ ?_<;>(intro hb;try exact dd hb)|apply aF|apply bf|(apply bQ<;>intro hb)|(apply bR;intro hbd)|(apply aZ;first|exact hV|exact hix _ (by omega) (by omega))|(apply aL (i:=0) rfl;first|exact hV|exact hix _ (by omega) (by omega))|(apply bS;intro bl)|(apply cb;intro va vk vc hva)|(apply ca;intro v)|(apply cd;intro bl cap hcap)|apply cg|(apply bZ<;>intro hnx)|apply cK mixed hC hGL (by kernel_rfl)|(apply cq;assumption;(first|exact hV|exact hix _ (by omega) (by omega));exact rfl)|(show Rt _ _ _;exact bK)|fail)
 all_goals try conv=>whnf
 have hl2:e.length=2:=by simp only[List.length_cons,List.length_nil] at hb;omega
 have ht1:((e.length:Int)-1).toNat=1:=by omega
 have ht2:((e.length:Int)-1+1).toNat=2:=by omega
 have hcall:=call57;have hix2:∀c:Int,0<=c->c<=255->aj prog G 57 [.str (List.drop ((e.length:Int)-1+1).toNat [a,b]),.int .u8 c] (.int .i64 (-1)):=by rw[ht2];exact hix
 have h10:aa [a,b] ((e.length:Int)-1).toNat=b.toNat:=by rw[ht1];exact PH
 have h128:128<=aa e ((e.length:Int)-1).toNat:=by rw[ht1];exact e3
 apply kH hC hGL;repeat' (first|(conv=>whnf);first|refine .w ?_|refine .v ?_|refine cj ?_ ?_<;>(intro hb;try exact dd hb)|apply aF|apply bf|(apply bQ<;>intro hb)|(apply bR;intro hbd)|(apply aZ;first|exact hV|exact hix2 _ (by omega) (by omega))|(apply aL (i:=0) rfl;first|exact hV|exact hix2 _ (by omega) (by omega))|(apply bS;intro bl)|(apply cb;intro va vk vc hva)|(apply ca;intro v)|(apply cd;intro bl cap hcap)|apply cg|(apply bZ<;>intro hnx)|apply cK mixed hC hGL (by kernel_rfl)|(apply cq;assumption;(first|exact hV|exact hix2 _ (by omega) (by omega));exact rfl)|(show Rt _ _ _;exact bK)|fail)
 all_goals try conv=>whnf
theorem yw {G:Glo}{a b:UInt8}(ha:a.toNat<128)(hb':b.toNat<128):aj prog G 223 [.str [a,b],.int .i32 65533] (.int .i64 (-1)):=by
 refine ao func223 call223 λC hC hGL=> ?_;refine a6 ?_;intros;refine og hC hGL 3 ?_;refine xw ?_;repeat' first|exact .n|apply Lc.mk
 all_goals intros
 all_goals (
  exfalso
  obtain⟨f1,f2,f3,f4⟩:=Vt ha hb'
  simp only[List.drop_zero,f1,f2,Nat.zero_add,List.drop_succ_cons,f3,f4,List.length_cons,List.length_nil] at*
  omega)
theorem Ba {G:Glo}{a b:UInt8}(r:Int)(h0:0<=r)(h1:r<128):aj prog G 223 [.str [a,b],.int .i32 r] (.int .i64 (bj [a,b] r)):=by
 refine ao func223 call223 λC hC hGL=> ?_;have hI:=aX (G:=G) [a,b] r h0 (by omega);exact ba
end
end Go.Proofs.YtpgdnpielhfpgaaGreatDoor
