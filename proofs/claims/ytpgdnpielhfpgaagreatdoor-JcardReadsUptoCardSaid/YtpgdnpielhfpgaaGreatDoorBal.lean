/- Parts of the proof of jcardReads_card. -/
import Derived.Test.YtpgdnpielhfpgaaGreatDoorBak
set_option linter.unusedVariables false
set_option linter.unusedSimpArgs false
set_option linter.unusedSectionVars false
namespace Go.Proofs.YtpgdnpielhfpgaaGreatDoor
open Go Go.RowKit
open Tryz
set_option maxRecDepth 20000
set_option maxHeartbeats 4000000
section
def FY (f:Nat->Nat)(s:List UInt8):List UInt8:=s.map λc=>UInt8.ofNat (f c.toNat)
theorem jd (f:Nat->Nat)(s:List UInt8):(FY f s).length=s.length:=by simp[FY]
theorem tq {f:Nat->Nat}(hf:∀c,c<256->f c<256){s:List UInt8}{j:Nat}(h:j<s.length):aa (FY f s) j=f (aa s j):=by
 have e1:aa (FY f s) j=(UInt8.ofNat (f s[j].toNat)).toNat:=by simp[aa,FY,List.getD,h]
 rw[e1,bM h,UInt8.toNat_ofNat'];have:=hf _ (UInt8.toNat_lt s[j]);omega
def EN (f:Nat->Nat)(s:List UInt8)(x:Nat×List UInt8):Prop:=
 x.1<=s.length/\x.2.length=s.length/\∀j,j<s.length->aa x.2 j=if j<x.1 then f (aa s j) else aa s j
theorem TU {f:Nat->Nat}{s:List UInt8}:EN f s (0,s):=⟨Nat.zero_le _,rfl,λj _=>by rw[if_neg (by simp)]⟩
theorem HX {f:Nat->Nat}{s:List UInt8}{i:Nat}{t:List UInt8}(h:EN f s (i,t))(hi:i<s.length):aa t i=aa s i:=by
 have:=h.2.2 i hi;rwa [if_neg (by simp)] at this
theorem M9 {f:Nat->Nat}{s:List UInt8}{i:Nat}{t:List UInt8}(h:EN f s (i,t))(hi:i<s.length){m:Nat}(hm:m=f (aa s i))(h1:m<256):EN f s (i+1,t.set i (UInt8.ofNat m)):=by
 obtain⟨h2,h3,h4⟩:=h;refine⟨hi,by simp only[List.length_set];exact h3,λj hj=> ?_⟩;dsimp only at*
 have hb:aa (t.set i (UInt8.ofNat m)) j=if j=i then m else aa t j:=by
  unfold aa;by_cases e:j=i
  ·subst e;rw[if_pos rfl];simp only[List.getD,List.getElem?_set_self (show j<t.length by omega),Option.getD_some];rw[UInt8.toNat_ofNat'];omega
  ·rw[if_neg e];simp only[List.getD,List.getElem?_set_ne (Ne.symm e)]
 rw[hb];by_cases e:j=i
 ·subst e;rw[if_pos rfl,if_pos (by omega),hm]
 ·rw[if_neg e,h4 j hj];by_cases e2:j<i
  ·rw[if_pos e2,if_pos (by omega)]
  ·rw[if_neg e2,if_neg (by omega)]
theorem JS {f:Nat->Nat}{s:List UInt8}{i:Nat}{t:List UInt8}(h:EN f s (i,t))(hi:i<s.length)(hm:f (aa s i)=aa s i):EN f s (i+1,t):=by
 refine⟨hi,h.2.1,λj hj=> ?_⟩;have:=h.2.2 j hj;dsimp only at*
 rw[this];by_cases e:j=i
 ·subst e;rw[if_neg (by omega),if_pos (by omega),hm]
 ·by_cases e2:j<i
  ·rw[if_pos e2,if_pos (by omega)]
  ·rw[if_neg e2,if_neg (by omega)]
theorem Na {f:Nat->Nat}(hf:∀c,c<256->f c<256){s:List UInt8}{i:Nat}{t:List UInt8}(h:EN f s (i,t))(hi:s.length<=i):t=FY f s:=by
 refine kE (by rw[jd];exact h.2.1) (λj hj=> ?_);rw[jd] at hj;rw[tq hf hj,h.2.2 j hj,if_pos (show j<i by omega)]
def ff (c:Nat):Nat:=if 48<=c/\c<=57 then 57 else c
theorem Dn:∀c,c<256->ff c<256:=by intro c h;unfold ff;split<;>omega
def aY (s:List UInt8):List UInt8:=FY ff s
def pZ (c:Nat):Bool:=decide (48<=c/\c<=57)
theorem dh {c:Nat}:pZ c=true↔(48<=c/\c<=57):=by simp[pZ]
theorem fw {c:Nat}:ff c=57↔(48<=c/\c<=57):=by unfold ff;split<;>omega
theorem mz {c k:Nat}(h:¬(48<=k/\k<=57)):ff c=k↔c=k:=by unfold ff;split<;>omega
theorem iG {s:List UInt8}{j:Nat}(h:j<s.length):aa (aY s) j=ff (aa s j):=tq Dn h
theorem Hu {s:List UInt8}:aY s=[90]↔s=[90]:=by
 constructor
 ·intro h;have hl:s.length=1:=by rw[<-jd ff s];exact congrArg List.length h
  have h0:=iG (s:=s) (j:=0) (by omega);rw[h] at h0;have h1:aa s 0=90:=(mz (by omega)).1 h0.symm;exact kE (by rw[hl];rfl) (λj hj=>by
   have:j=0:=by simp at hj;omega
   subst this;rw[h1];rfl)
 ·rintro rfl;rfl
theorem n9 {s:List UInt8}{k:Nat}(hk:¬(48<=k/\k<=57))(hk2:k<256):aY s=[UInt8.ofNat k,57,57]↔s.length=3/\aa s 0=k/\(48<=aa s 1/\aa s 1<=57)/\(48<=aa s 2/\aa s 2<=57):=by
 have hk3:aa [UInt8.ofNat k,57,57] 0=k:=by unfold aa;simp;omega
 constructor
 ·intro h;have hl:s.length=3:=by rw[<-jd ff s];exact congrArg List.length h
  have h0:=iG (s:=s) (j:=0) (by omega);have h1:=iG (s:=s) (j:=1) (by omega);have h2:=iG (s:=s) (j:=2) (by omega);rw[h] at h0 h1 h2;rw[hk3] at h0;exact⟨hl,(mz hk).1 h0.symm,fw.1 h1.symm,fw.1 h2.symm⟩
 ·rintro⟨hl,h0,h1,h2⟩;refine kE (by rw[show(aY s).length=_ from jd _ _,hl];rfl) (λj hj=> ?_);have hj:j<3:=hj;rw[iG (by omega)]
  match j,hj with
  |0,_=>rw[hk3,h0,mz hk]
  |1,_=>exact fw.2 h1
  |2,_=>exact fw.2 h2
theorem qp {s:List UInt8}{k:Nat}(hk:¬(48<=k/\k<=57))(hk2:k<256):aY s=[UInt8.ofNat k,57,57,57,57]↔s.length=5/\aa s 0=k/\(48<=aa s 1/\aa s 1<=57)/\(48<=aa s 2/\aa s 2<=57)/\(48<=aa s 3/\aa s 3<=57)/\(48<=aa s 4/\aa s 4<=57):=by
 have hk3:aa [UInt8.ofNat k,57,57,57,57] 0=k:=by unfold aa;simp;omega
 constructor
 ·intro h;have hl:s.length=5:=by rw[<-jd ff s];exact congrArg List.length h
  have h0:=iG (s:=s) (j:=0) (by omega);have h1:=iG (s:=s) (j:=1) (by omega);have h2:=iG (s:=s) (j:=2) (by omega);have h3:=iG (s:=s) (j:=3) (by omega);have h4:=iG (s:=s) (j:=4) (by omega);rw[h] at h0 h1 h2 h3 h4;rw[hk3] at h0;exact⟨hl,(mz hk).1 h0.symm,fw.1 h1.symm,fw.1 h2.symm,fw.1 h3.symm,fw.1 h4.symm⟩
 ·rintro⟨hl,h0,h1,h2,h3,h4⟩;refine kE (by rw[show(aY s).length=_ from jd _ _,hl];rfl) (λj hj=> ?_);have hj:j<5:=hj;rw[iG (by omega)]
  match j,hj with
  |0,_=>rw[hk3,h0,mz hk]
  |1,_=>exact fw.2 h1
  |2,_=>exact fw.2 h2
  |3,_=>exact fw.2 h3
  |4,_=>exact fw.2 h4
def J8 (neg:Bool)(h m:Int):Int×Int:=if 5<m/10\/840<60*h+m then(0,2) else(if neg then 0-(60*h+m) else 60*h+m,0)
def bU (s:List UInt8)(j:Nat):Int:=(aa s j:Int)-48
def bI (s:List UInt8):Int×Int:=
 if s=[90] then(0,0)
 else if s.length=3/\(aa s 0=43\/aa s 0=45)/\(pZ (aa s 1)/\pZ (aa s 2)) then J8 (decide (aa s 0=45)) (10*bU s 1+bU s 2) 0
 else if s.length=5/\(aa s 0=43\/aa s 0=45)/\(pZ (aa s 1)/\pZ (aa s 2)/\pZ (aa s 3)/\pZ (aa s 4)) then J8 (decide (aa s 0=45)) (10*bU s 1+bU s 2) (10*bU s 3+bU s 4)
 else(0,3)
def gN (s:List UInt8):Err:=if(bI s).2=0 then .none else .errno (bI s).2
attribute [local irreducible] bN aw aa aC bg ab ae
theorem sd {G:Glo}(s:List UInt8)(hl:s.length<=9223372036854775807):aj prog G 109 [.str s] (.str (aY s)):=by
 refine ao func109 call109 λC hC hGL=> ?_;have hw:=λc=>eY (G:=G) c 48 57;repeat' (first|(conv=>whnf);first|refine .w ?_|refine .v ?_|refine cj ?_ ?_<;>(intro hb;try exact dd hb)|apply aF|apply bf|(apply bQ<;>intro hb)|(apply bR;intro hbd)|(apply bS;intro bl)|(apply cb;intro va vk vc hva)|(apply ca;intro v)|(apply cd;intro bl cap hcap)|apply cg|(apply bZ<;>intro hnx)|apply cK mixed hC hGL (by kernel_rfl)|(show Rt _ _ _;exact bK)|fail)
 all_goals try conv=>whnf
 refine lp hC hGL (λ(x:Nat×List UInt8)=>[(3,.own 0 (.slice (some ⟨bl,0,none⟩) s.length cap)),(8,.int .i64 s.length),(9,.int .i64 x.1)]) (λx=>[.buf bl x.2 cap]) (EN ff s) (λx=>s.length-x.1) (0,s) ?_ ad rfl ?_
 ·exact TU
 rintro⟨i,t⟩ hI;have hi:=hI.1;have ht:=hI.2.1;dsimp only at hi ht ⊢;repeat' (first|(conv=>whnf);first|refine .w ?_|refine .v ?_|refine cj ?_ ?_<;>(intro hb;try exact dd hb)|apply aF|apply bf|(apply bQ<;>intro hb)|(apply bR;intro hbd)|(apply aZ;exact hw _)|(apply aL (i:=0) rfl;exact hw _)|(apply bS;intro bl)|(apply cb;intro va vk vc hva)|(apply ca;intro v)|(apply cd;intro bl cap hcap)|apply cg|(apply bZ<;>intro hnx)|apply cK mixed hC hGL (by kernel_rfl)|(apply cq;assumption;exact hw _;exact rfl)|(show Rt _ _ _;exact bK)|fail)
 all_goals try conv=>whnf
 ·have e:=HX hI (by omega);rw[e,Bool.and_eq_true,decide_eq_true_eq,decide_eq_true_eq] at hb;refine di (i+1,t.set i (UInt8.ofNat 57)) ?_ ?_ ad rfl
  ·exact M9 hI (by omega) (by unfold ff;rw[if_pos (by omega)]) (by omega)
  ·dsimp only;omega
 ·have e:=HX hI (by omega);rw[e,Bool.and_eq_false_iff,decide_eq_false_iff_not,decide_eq_false_iff_not] at hb;refine di (i+1,t) ?_ ?_ ad rfl
  ·exact JS hI (by omega) (by unfold ff;rw[if_neg (by omega)])
  ·dsimp only;omega
 ·apply ak;rw[Na Dn hI (by omega)];rfl
attribute [local irreducible] pZ aY
theorem Vf {s:List UInt8}{v:Int}{H':Heap}(h:bI s=(v,0)):Rt (λ(x:cz) (H:Heap)=>x= .ret (.tuple [.int .i64 (bI s).1,(gN s).A])/\H=[]) (.tuple [.int .i64 v,.raw .nilIface]) H':=by
 apply ak;unfold gN;rw[h,if_pos rfl];rfl
theorem Vg {s:List UInt8}{e:Int}{H':Heap}(h:bI s=(0,e))(he:e≠0):Rt (λ(x:cz) (H:Heap)=>x= .ret (.tuple [.int .i64 (bI s).1,(gN s).A])/\H=[]) (.tuple [.int .i64 0,.iface 30 (.int .i64 e)]) H':=by
 apply ak;unfold gN;rw[h,if_neg he];rfl
theorem uU {G:Glo}(s:List UInt8)(hl:s.length<=9223372036854775807):aj prog G 138 [.str s] (.tuple [.int .i64 (bI s).1,(gN s).A]):=by
  refine ao func138 call138 λC hC hGL=> ?_;repeat' (first|(conv=>whnf);first|refine .w ?_|refine .v ?_|refine cj ?_ ?_<;>(intro hb;try exact dd hb)|apply aF|apply bf|(apply bQ<;>intro hb)|(apply bR;intro hbd)|(apply bS;intro bl)|(apply cb;intro va vk vc hva)|(apply ca;intro v)|(apply cd;intro bl cap hcap)|apply cg|(apply bZ<;>intro hnx)|apply cK mixed hC hGL (by kernel_rfl)|(show Rt _ _ _;exact bK)|fail)
  all_goals try conv=>whnf
  any_goals (refine og hC hGL 5 ?_)
  repeat' (first|(conv=>whnf);first|refine .w ?_|refine .v ?_|refine cj ?_ ?_<;>(intro hb;try exact dd hb)|apply aF|apply bf|(apply bQ<;>intro hb)|(apply bR;intro hbd)|(apply bS;intro bl)|(apply cb;intro va vk vc hva)|(apply ca;intro v)|(apply cd;intro bl cap hcap)|apply cg|(apply bZ<;>intro hnx)|apply cK mixed hC hGL (by kernel_rfl)|(show Rt _ _ _;exact bK)|fail)
  all_goals try conv=>whnf
  all_goals first
    | (refine Vg ?_ (by decide)
       try simp only[Nat.zero_add,Nat.reduceAdd] at*
       unfold bI J8 bU
       rw[if_neg (by assumption)]
       simp only[dh,decide_eq_true_eq]
       (repeat' split)<;>simp only[Prod.mk.injEq,and_true,true_and]<;>omega)
    |(refine Vf ?_;unfold bI;rw[if_pos (by assumption)];done)
    |skip
  all_goals (
    refine Vf ?_
    try simp only[Nat.zero_add,Nat.reduceAdd] at*
    unfold bI J8 bU
    rw[if_neg (by assumption)]
    simp only[dh,decide_eq_true_eq]
    (repeat' split)<;>simp only[Prod.mk.injEq,and_true,true_and]<;>omega)
theorem RA:∀a b:Fin 10,Lib.atoiAll [UInt8.ofNat (48+a.1),UInt8.ofNat (48+b.1)]= .ok ((10*a.1+b.1:Nat):Int):=by decide
theorem xH {G:Glo}(s:List UInt8)(hl:s.length=2)(h0:48<=aa s 0/\aa s 0<=57)(h1:48<=aa s 1/\aa s 1<=57):aj prog G 81 [.str s] (.tuple [.int .i64 (10*bU s 0+bU s 1),.raw .nilIface]):=by
 have e:s=[UInt8.ofNat (48+(aa s 0-48)),UInt8.ofNat (48+(aa s 1-48))]:=by
  refine List.ext_getElem (by rw[hl];rfl) (λj j1 j2=> ?_);have hj:j<2:=by simpa using j2
  match j,hj with
  |0,_=>
   simp only[List.getElem_cons_zero];rw[show 48+(aa s 0-48)=aa s 0 by omega,bM (by omega)];simp
  |1,_=>
   simp only[List.getElem_cons_succ,List.getElem_cons_zero]
   rw[show 48+(aa s 1-48)=aa s 1 by omega,bM (by omega)]
   simp
 have ha:=RA ⟨aa s 0-48,by omega⟩ ⟨aa s 1-48,by omega⟩;simp only at ha;rw[<-e] at ha;have ev:((10*(aa s 0-48)+(aa s 1-48):Nat):Int)=10*bU s 0+bU s 1:=by unfold bU;omega
 rw[ev] at ha
 refine gp (.tuple #[.int .i64 (10*bU s 0+bU s 1),.nilIface]) (λR=>lI (aq.2 rfl) (ar.2 rfl)) call81 ?_
 intro R args hr w _ _
 obtain⟨x,t,e',hx,rfl⟩:=hr
 obtain rfl:=aI.1 hx
 obtain rfl:=fb e'
 refine(strconv_Atoi_ok ⟨s.toArray⟩ (by rw[bG];omega) _ (by simpa using ha) w).mono ?_
 rintro e w' ⟨rfl,hw⟩
 refine⟨rfl,?_⟩
 rcases hw with rfl|⟨t,rfl⟩
 ·exact Below.refl _ _
 ·exact⟨rfl,rfl,rfl,by rw[Lib.bytesWorld_size];omega,λk hk=>Lib.bytesWorld_at_old _ _ _ _ hk⟩
theorem eS {s:List UInt8}{k j:Nat}:aa (s.drop k) j=aa s (k+j):=by
 unfold aa;simp[List.getD,List.getElem?_drop]
theorem St {neg:Bool}{h m a b:Int}{H':Heap}(e:J8 neg h m=(a,b)):Rt (λ(x:cz) (H:Heap)=>x= .ret (.tuple [.int .i64 (J8 neg h m).1,.int .i64 (J8 neg h m).2])/\H=[]) (.tuple [.int .i64 a,.int .i64 b]) H':=by
 apply ak;rw[e]
theorem ki {G:Glo}(s:List UInt8)(hl:s.length=5)(hs:aa s 0=43\/aa s 0=45)(h1:48<=aa s 1/\aa s 1<=57)(h2:48<=aa s 2/\aa s 2<=57)(h3:48<=aa s 3/\aa s 3<=57)(h4:48<=aa s 4/\aa s 4<=57):
  aj prog G 67 [.str s] (.tuple [.int .i64 (J8 (decide (aa s 0=45)) (10*bU s 1+bU s 2) (10*bU s 3+bU s 4)).1,.int .i64 (J8 (decide (aa s 0=45)) (10*bU s 1+bU s 2) (10*bU s 3+bU s 4)).2]):=by
 refine ao func67 call67 λC hC hGL=> ?_;have hsh:=sd (G:=G) s (by omega);have e1:(s.take 3).drop 1=(s.drop 1).take 2:=by rw[List.take_drop]
 have a1:=xH (G:=G) ((s.take 3).drop 1) (by rw[List.length_drop,List.length_take];omega) (by rw[eS,eR (by omega)];exact h1) (by rw[eS,eR (by omega)];exact h2);have a2:=xH (G:=G) (s.drop 3) (by rw[List.length_drop];omega) (by rw[eS];exact h3) (by rw[eS];exact h4);have d1:bU ((s.take 3).drop 1) 0=bU s 1:=by unfold bU;rw[eS,eR (by omega)]
 have d2:bU ((s.take 3).drop 1) 1=bU s 2:=by unfold bU;rw[eS,eR (by omega)]
 have d3:bU (s.drop 3) 0=bU s 3:=by unfold bU;rw[eS]
 have d4:bU (s.drop 3) 1=bU s 4:=by unfold bU;rw[eS]
 rw[d1,d2] at a1;rw[d3,d4] at a2;have g1:0<=bU s 1/\bU s 1<=9:=by unfold bU;omega
 have g2:0<=bU s 2/\bU s 2<=9:=by unfold bU;omega
 have g3:0<=bU s 3/\bU s 3<=9:=by unfold bU;omega
 have g4:0<=bU s 4/\bU s 4<=9:=by unfold bU;omega
 have hz:=λn=>iS (G:=G) n;rcases hs with hs|hs
 ·have hsp:aY s=[43,57,57,57,57]:=(qp (k:=43) (by omega) (by omega)).2 ⟨hl,hs,h1,h2,h3,h4⟩;rw[hsp] at hsh;repeat' (first|(conv=>whnf);first|refine .w ?_|refine .v ?_|refine cj ?_ ?_<;>(intro hb;try exact dd hb)|apply aF|apply bf|(apply bQ<;>intro hb)|(apply bR;intro hbd)|(apply aZ;first|exact hsh|exact a1|exact a2|exact hz _)|(apply aL (i:=0) rfl;first|exact hsh|exact a1|exact a2|exact hz _)|(apply bS;intro bl)|(apply cb;intro va vk vc hva)|(apply ca;intro v)|(apply cd;intro bl cap hcap)|apply cg|(apply bZ<;>intro hnx)|apply cK mixed hC hGL (by kernel_rfl)|(apply cq;assumption;(first|exact hsh|exact a1|exact a2|exact hz _);exact rfl)|(show Rt _ _ _;exact bK)|fail)
  all_goals try conv=>whnf
  all_goals (
   refine St ?_
   try simp only[uR,R8] at*
   unfold J8
   simp only[decide_eq_true_eq]
   (repeat' split)<;>first|(exfalso;omega)|exact rfl)
 ·have hsp:aY s=[45,57,57,57,57]:=(qp (k:=45) (by omega) (by omega)).2 ⟨hl,hs,h1,h2,h3,h4⟩;rw[hsp] at hsh;repeat' (first|(conv=>whnf);first|refine .w ?_|refine .v ?_|refine cj ?_ ?_<;>(intro hb;try exact dd hb)|apply aF|apply bf|(apply bQ<;>intro hb)|(apply bR;intro hbd)|(apply aZ;first|exact hsh|exact a1|exact a2|exact hz _)|(apply aL (i:=0) rfl;first|exact hsh|exact a1|exact a2|exact hz _)|(apply bS;intro bl)|(apply cb;intro va vk vc hva)|(apply ca;intro v)|(apply cd;intro bl cap hcap)|apply cg|(apply bZ<;>intro hnx)|apply cK mixed hC hGL (by kernel_rfl)|(apply cq;assumption;(first|exact hsh|exact a1|exact a2|exact hz _);exact rfl)|(show Rt _ _ _;exact bK)|fail)
  all_goals try conv=>whnf
  all_goals (
   refine St ?_
   try simp only[uR,R8] at*
   unfold J8
   simp only[decide_eq_true_eq]
   (repeat' split)<;>first|(exfalso;omega)|exact rfl)
theorem o9 {G:Glo}(s:List UInt8)(hl:s.length<=9223372036854775000):aj prog G 67 [.str s] (.tuple [.int .i64 (bI s).1,.int .i64 (bI s).2]):=by
 by_cases h5:s.length=5/\(aa s 0=43\/aa s 0=45)/\(pZ (aa s 1)/\pZ (aa s 2)/\pZ (aa s 3)/\pZ (aa s 4))
 ·obtain⟨hl5,hs,h1,h2,h3,h4⟩:=h5;have e:bI s=J8 (decide (aa s 0=45)) (10*bU s 1+bU s 2) (10*bU s 3+bU s 4):=by
   unfold bI;rw[if_neg (by rintro rfl;simp at hl5),if_neg (by omega),if_pos ⟨hl5,hs,h1,h2,h3,h4⟩]
  rw[e];exact ki s hl5 hs (dh.1 h1) (dh.1 h2) (dh.1 h3) (dh.1 h4)
 have n43:aY s≠[43,57,57,57,57]:=λh=>by
  have h:=(qp (k:=43) (by omega) (by omega)).1 h;exact h5 ⟨h.1,.inl h.2.1,dh.2 h.2.2.1,dh.2 h.2.2.2.1,dh.2 h.2.2.2.2.1,dh.2 h.2.2.2.2.2⟩
 have n45:aY s≠[45,57,57,57,57]:=λh=>by
  have h:=(qp (k:=45) (by omega) (by omega)).1 h;exact h5 ⟨h.1,.inr h.2.1,dh.2 h.2.2.1,dh.2 h.2.2.2.1,dh.2 h.2.2.2.2.1,dh.2 h.2.2.2.2.2⟩
 refine ao func67 call67 λC hC hGL=> ?_;have hsh:=sd (G:=G) s (by omega);by_cases h3:s.length=3/\(aa s 0=43\/aa s 0=45)/\(pZ (aa s 1)/\pZ (aa s 2))
 ·obtain⟨hl3,hs,h1,h2⟩:=h3;have g:∀j,j<3->aa (s++[48,48]) j=aa s j:=λj hj=>by unfold aa;simp[List.getD,List.getElem?_append,show j<s.length by omega]
  have g3:aa (s++[48,48]) 3=48:=by unfold aa;simp[List.getD,List.getElem?_append,hl3]
  have g4:aa (s++[48,48]) 4=48:=by unfold aa;simp[List.getD,List.getElem?_append,hl3]
  have hr:=ki (G:=G) (s++[48,48]) (by rw[List.length_append,hl3];rfl) (by rw[g 0 (by omega)];exact hs) (by rw[g 1 (by omega)];exact dh.1 h1) (by rw[g 2 (by omega)];exact dh.1 h2) (by rw[g3];omega) (by rw[g4];omega);have d1:bU (s++[48,48]) 1=bU s 1:=by unfold bU;rw[g 1 (by omega)]
  have d2:bU (s++[48,48]) 2=bU s 2:=by unfold bU;rw[g 2 (by omega)]
  have d3:bU (s++[48,48]) 3=0:=by unfold bU;rw[g3];rfl
  have d4:bU (s++[48,48]) 4=0:=by unfold bU;rw[g4];rfl
  have e:bI s=J8 (decide (aa s 0=45)) (10*bU s 1+bU s 2) 0:=by
   unfold bI;rw[if_neg (by rintro rfl;simp at hl3),if_pos ⟨hl3,hs,h1,h2⟩]
  rw[d1,d2,d3,d4,g 0 (by omega),show(10*0+0:Int)=0 from rfl,<-e] at hr;have hsh':aY s=[43,57,57]\/aY s=[45,57,57]:=by
   rcases hs with hs|hs
   ·exact .inl ((n9 (k:=43) (by omega) (by omega)).2 ⟨hl3,hs,dh.1 h1,dh.1 h2⟩)
   ·exact .inr ((n9 (k:=45) (by omega) (by omega)).2 ⟨hl3,hs,dh.1 h1,dh.1 h2⟩)
  rcases hsh' with hsh'|hsh'
  all_goals (
   rw[hsh'] at hsh
   repeat' (first|(conv=>whnf);first|refine .w ?_|refine .v ?_|refine cj ?_ ?_<;>(intro hb;try exact dd hb)|apply aF|apply bf|(apply bQ<;>intro hb)|(apply bR;intro hbd)|(apply aZ;first|exact hsh|exact hr)|(apply aL (i:=0) rfl;first|exact hsh|exact hr)|(apply bS;intro bl)|(apply cb;intro va vk vc hva)|(apply ca;intro v)|(apply cd;intro bl cap hcap)|apply cg|(apply bZ<;>intro hnx)|apply cK mixed hC hGL (by kernel_rfl)|(apply cq;assumption;(first|exact hsh|exact hr);exact rfl)|(show Rt _ _ _;exact bK)|fail)
   all_goals try conv=>whnf)
 have m43:aY s≠[43,57,57]:=λh=>by
  have h:=(n9 (k:=43) (by omega) (by omega)).1 h;exact h3 ⟨h.1,.inl h.2.1,dh.2 h.2.2.1,dh.2 h.2.2.2⟩
 have m45:aY s≠[45,57,57]:=λh=>by
  have h:=(n9 (k:=45) (by omega) (by omega)).1 h;exact h3 ⟨h.1,.inr h.2.1,dh.2 h.2.2.1,dh.2 h.2.2.2⟩
 have e:bI s=if s=[90] then(0,0) else(0,3):=by
  unfold bI;rw[if_neg h3,if_neg h5]
 rw[e];repeat' (first|(conv=>whnf);first|refine .w ?_|refine .v ?_|refine cj ?_ ?_<;>(intro hb;try exact dd hb)|apply aF|apply bf|(apply bQ<;>intro hb)|(apply bR;intro hbd)|(apply aZ;exact hsh)|(apply aL (i:=0) rfl;exact hsh)|(apply bS;intro bl)|(apply cb;intro va vk vc hva)|(apply ca;intro v)|(apply cd;intro bl cap hcap)|apply cg|(apply bZ<;>intro hnx)|apply cK mixed hC hGL (by kernel_rfl)|(apply cq;assumption;exact hsh;exact rfl)|(show Rt _ _ _;exact bK)|fail)
 all_goals try conv=>whnf
 ·apply ak;rw[if_pos (Hu.1 hb)];rfl
 ·apply ak;rw[if_neg (λh=>absurd (Hu.2 h) (by assumption))];rfl
end
section
theorem qo (s:List UInt8):(aY s).length=s.length:=jd _ _
theorem dO {s u:List UInt8}(h:aY s=u):s.length=u.length/\∀i,i<u.length->ff (aa s i)=aa u i:=by
 subst h;refine⟨(qo s).symm,λi hi=> ?_⟩;rw[qo] at hi;exact(iG hi).symm
theorem gm {s:List UInt8}{n i:Nat}(h:i<n):aa (s.take n) i=aa s i:=by
 unfold aa;simp[List.getD,List.getElem?_take_of_lt h]
theorem cM {s:List UInt8}{n i:Nat}:aa (s.drop n) i=aa s (n+i):=by
 unfold aa;simp[List.getD]
theorem BA {j:Nat}(h1:1<=j)(h6:j<=6):2<=(aT j).length/\(aT j).length<=6:=by
 rcases(show j=1\/j=2\/j=3\/j=4\/j=5\/j=6 by omega) with rfl|rfl|rfl|rfl|rfl|rfl<;>decide
theorem OI {j:Nat}(h1:1<=j)(h6:j<=6):∀i,i<(aT j).length->aa (aT j) i=57\/(aa (aT j) i=45/\i<2):=by
 rcases(show j=1\/j=2\/j=3\/j=4\/j=5\/j=6 by omega) with rfl|rfl|rfl|rfl|rfl|rfl<;>decide
theorem II {j k:Nat}(h1:1<=j)(h6:j<=6)(g1:1<=k)(g6:k<=6)(h:aT j=aT k):j=k:=by
 rcases(show j=1\/j=2\/j=3\/j=4\/j=5\/j=6 by omega) with rfl|rfl|rfl|rfl|rfl|rfl<;>
  rcases(show k=1\/k=2\/k=3\/k=4\/k=5\/k=6 by omega) with rfl|rfl|rfl|rfl|rfl|rfl<;>first|rfl|(revert h;decide)
structure cY (t:List UInt8) (j n:Nat):Prop where
 j1:1<=j
 j6:j<=6
 hn:n<=t.length
 hs:aY (t.take n)=aT j
 hz:n=t.length\/aa t n=90\/aa t n=43\/aa t n=45
theorem cY.len {t:List UInt8}{j n:Nat}(h:cY t j n):n=(aT j).length:=by
 have:=(dO h.hs).1;rw[List.length_take] at this;have:=h.hn;omega
theorem cY.at {t:List UInt8}{j n:Nat}(h:cY t j n):∀i,i<n->(48<=aa t i/\aa t i<=57)\/(aa t i=45/\i<2):=by
 intro i hi;have h1:=(dO h.hs).2 i (by rw[<-h.len];exact hi);rw[gm hi] at h1;rcases OI h.j1 h.j6 i (by rw[<-h.len];exact hi) with k|⟨k,k2⟩
 ·rw[k] at h1;exact .inl (fw.1 h1)
 ·rw[k] at h1;exact .inr ⟨(mz (by omega)).1 h1,k2⟩
theorem cY.uniq {t:List UInt8}{j n j' n':Nat}(h:cY t j n)(g:cY t j' n'):j=j'/\n=n':=by
 have key:∀{j n j' n':Nat},cY t j n->cY t j' n'->¬n<n':=by
  intro j n j' n' h g hlt;have h2:=(BA h.j1 h.j6).1;rw[<-h.len] at h2;have h3:=g.at n hlt;have h4:=g.hn;have h5:=h.hz;omega
 have e:n=n':=by
  have h1:=key h g;have h2:=key g h;omega
 subst e;exact⟨II h.j1 h.j6 g.j1 g.j6 (h.hs.symm.trans g.hs),rfl⟩
def IP (t:List UInt8)(k:Nat):Prop:=
 (k<t.length/\(aa t k=90\/aa t k=43)/\∀j,j<k->aa t j≠90/\aa t j≠43)\/
 ((∀j,j<t.length->aa t j≠90/\aa t j≠43)/\((k<t.length/\2<=k/\aa t k=45/\∀j,k<j->j<t.length->aa t j≠45)\/(k=t.length/\∀j,2<=j->j<t.length->aa t j≠45)))
theorem F9 {t:List UInt8}{k:Nat}(h:IP t k):k<=t.length:=by
 unfold IP at h;omega
theorem BZ {z:List UInt8}{m:Nat}(h0:aa z 0=45)(hm:0<m)(hl:m<z.length)(h:aa z m=90\/aa z m=43\/aa z m=45):bI z=(0,3):=by
 unfold bI;rw[if_neg (by rintro rfl;exact absurd h0 (by decide)),if_neg,if_neg]
 ·rintro⟨h1, -,h2,h3,h4,h5⟩;rw[dh] at h2 h3 h4 h5;rcases(show m=1\/m=2\/m=3\/m=4 by omega) with rfl|rfl|rfl|rfl<;>omega
 ·rintro⟨h1, -,h2,h3⟩;rw[dh] at h2 h3;rcases(show m=1\/m=2 by omega) with rfl|rfl<;>omega
theorem WR {t:List UInt8}{j n k:Nat}(h:cY t j n)(hk:IP t k):k=n\/(n<t.length/\bI (t.drop n)=(0,3)/\∀j',1<=j'->j'<=6->aY (t.take k)≠aT j'):=by
 have hat:=h.at
 have hn:=h.hn;have hz:=h.hz;have h2:=(BA h.j1 h.j6).1;rw[<-h.len] at h2;have hkl:=F9 hk;have nok:n<k->n<t.length->aa t n=45->∀j',1<=j'->j'<=6->aY (t.take k)≠aT j':=by
  intro hlt hnl h45 j' g1 g6 e;have e1:=dO e;rw[List.length_take] at e1;have e2:=e1.2 n (by omega);rw[gm hlt,h45] at e2;have e3:=OI g1 g6 n (by omega);unfold ff at e2;rw[if_neg (by omega)] at e2;omega
 rcases hk with⟨k1,k2,k3⟩|⟨k0,⟨k1,k2,k3,k4⟩|⟨k1,k2⟩⟩
 ·have hnk:n<=k:=by
   rcases Nat.lt_or_ge k n with g|g
   ·have:=hat k g;omega
   ·exact g
  rcases Nat.lt_or_ge n k with g|g
  ·have hb:=k3 n g;have h45:aa t n=45:=by omega
   refine .inr ⟨by omega,BZ (m:=k-n) (by rw[cM,Nat.add_zero];exact h45) (by omega) (by rw[List.length_drop];omega) (by rw[cM,show n+(k-n)=k by omega];omega),nok g (by omega) h45⟩
  ·exact .inl (by omega)
 ·have hnk:n<=k:=by
   rcases Nat.lt_or_ge k n with g|g
   ·have:=hat k g;omega
   ·exact g
  rcases Nat.lt_or_ge n k with g|g
  ·have hb:=k0 n (by omega);have h45:aa t n=45:=by omega
   refine .inr ⟨by omega,BZ (m:=k-n) (by rw[cM,Nat.add_zero];exact h45) (by omega) (by rw[List.length_drop];omega) (by rw[cM,show n+(k-n)=k by omega];omega),nok g (by omega) h45⟩
  ·exact .inl (by omega)
 ·refine .inl ?_;rcases Nat.lt_or_ge n t.length with g|g
  ·have hb:=k0 n g;have hc:=k2 n h2 g;omega
  ·omega
theorem W4 {t:List UInt8}{j k:Nat}(hk:IP t k)(h1:1<=j)(h6:j<=6)(h:aY (t.take k)=aT j):cY t j k:=by
 refine⟨h1,h6,F9 hk,h,?_⟩;unfold IP at hk;omega
instance (t:List UInt8) (j n:Nat):Decidable (cY t j n):=
 if h:1<=j/\j<=6/\n<=t.length/\aY (t.take n)=aT j/\(n=t.length\/aa t n=90\/aa t n=43\/aa t n=45) then isTrue ⟨h.1,h.2.1,h.2.2.1,h.2.2.2.1,h.2.2.2.2⟩ else isFalse λk=>h ⟨k.1,k.2,k.3,k.4,k.5⟩
def nq (t:List UInt8):Nat:=if cY t 1 2 then 1 else if cY t 2 4 then 2 else if cY t 3 6 then 3 else if cY t 4 3 then 4 else if cY t 5 5 then 5 else if cY t 6 4 then 6 else 0
def tE (t:List UInt8):Nat:=(aT (nq t)).length
theorem Ax {t:List UInt8}{j n:Nat}(h:cY t j n):nq t=j/\tE t=n:=by
  have hl:=h.len;have key:nq t=j:=by
    have u:=λ{j' n':Nat} (g:cY t j' n')=>(h.uniq g).1
    unfold nq
    (repeat' split)
    all_goals first
      |exact(u (by assumption)).symm
      | (exfalso
         have g1:=h.j1
         have g6:=h.j6
         rcases(show j=1\/j=2\/j=3\/j=4\/j=5\/j=6 by omega) with rfl|rfl|rfl|rfl|rfl|rfl
         all_goals (simp only[aT,List.getD_cons_zero,List.getD_cons_succ,List.length_cons,List.length_nil] at hl;subst hl;contradiction))
  exact⟨key,by unfold tE;rw[key];exact hl.symm⟩
theorem Aw {t:List UInt8}(h:nq t≠0):cY t (nq t) (tE t):=by
 have key:∀{j n:Nat},cY t j n->cY t (nq t) (tE t):=λg=>by
  obtain⟨e1,e2⟩:=Ax g;rw[e1,e2];exact g
 unfold nq at h
 (repeat' split at h)
 all_goals first|exact key (by assumption)|exact absurd rfl h
theorem L1 {t:List UInt8}{k:Nat}(hk:IP t k)(h:∀j,1<=j->j<=6->aY (t.take k)≠aT j):nq t=0\/(nq t≠0/\tE t<t.length/\bI (t.drop (tE t))=(0,3)):=by
 by_cases h0:nq t=0
 ·exact .inl h0
 ·have g:=Aw h0;rcases WR g hk with e|e
  ·exact absurd (by rw[e];exact g.hs) (h _ g.j1 g.j6)
  ·exact .inr ⟨h0,e.1,e.2.1⟩
theorem Cv {t:List UInt8}{j k:Nat}(hk:IP t k)(h1:1<=j)(h6:j<=6)(h:aY (t.take k)=aT j):nq t=j/\tE t=k:=Ax (W4 hk h1 h6 h)
def dj (s:List UInt8)(j:Nat):Int:=10*bU s j+bU s (j+1)
def ji (s:List UInt8)(j:Nat):Int:=10*(10*(10*bU s j+bU s (j+1))+bU s (j+2))+bU s (j+3)
def lg (d:List UInt8):Nat:=if aY d=aU 0 then 0 else if aY d=aU 1 then 1 else if aY d=aU 2 then 2 else if aY d=aU 3 then 3 else if aY d=aU 4 then 4 else if aY d=aU 5 then 5 else if aY d=aU 6 then 6 else 7
theorem Eh {j k:Nat}(h6:j<=6)(g6:k<=6)(h:aU j=aU k):j=k:=by
 rcases(show j=0\/j=1\/j=2\/j=3\/j=4\/j=5\/j=6 by omega) with rfl|rfl|rfl|rfl|rfl|rfl|rfl<;>
  rcases(show k=0\/k=1\/k=2\/k=3\/k=4\/k=5\/k=6 by omega) with rfl|rfl|rfl|rfl|rfl|rfl|rfl<;>first|rfl|(revert h;decide)
theorem xl {d:List UInt8}{k:Nat}(hk:k<=6)(h:aY d=aU k):lg d=k:=by
  unfold lg
  (repeat' split)
  all_goals first
    |(rename_i e;exact(Eh hk (by decide) (h.symm.trans e)).symm)
    | (exfalso
       rcases(show k=0\/k=1\/k=2\/k=3\/k=4\/k=5\/k=6 by omega) with rfl|rfl|rfl|rfl|rfl|rfl|rfl<;>contradiction)
theorem GM {d:List UInt8}(h:∀k,k<=6->aY d≠aU k):lg d=7:=by
 unfold lg;rw[if_neg (h 0 (by decide)),if_neg (h 1 (by decide)),if_neg (h 2 (by decide)),if_neg (h 3 (by decide)),if_neg (h 4 (by decide)),if_neg (h 5 (by decide)),if_neg (h 6 (by decide))]
def dY (k:Nat)(d:List UInt8):Int:=if k=1\/k=2\/k=3 then ji d 0 else-1
def dM (k:Nat)(d:List UInt8):Int:=if k=2 then dj d 5 else if k=3 then dj d 4 else if k=4\/k=5 then dj d 2 else-1
def dD (k:Nat)(d:List UInt8):Int:=if k=3 then dj d 6 else if k=5 then dj d 4 else if k=6 then dj d 3 else-1
def cH (k:Nat)(c:List UInt8):Int:=if k=1\/k=2\/k=3 then dj c 0 else-1
def cI (k:Nat)(c:List UInt8):Int:=if k=2\/k=3 then dj c 2 else if k=4\/k=5 then dj c 1 else-1
def cS (k:Nat)(c:List UInt8):Int:=if k=3 then dj c 4 else if k=5 then dj c 3 else if k=6 then dj c 2 else-1
def EY (i:Nat)(d:List UInt8)(j:Nat)(c z:List UInt8):Stm:=⟨dY i d,dM i d,dD i d,cH j c,cI j c,cS j c,decide (z≠[]),if z=[] then 0 else(bI z).1⟩
def Stm.no:Stm:=⟨0,0,0,0,0,0,false,0⟩
def oR (t:Stm):Stm×Err:=if t.e=0 then(t,.none) else(Stm.no,.errno t.e)
def lw (d:List UInt8)(timed:Bool)(t:List UInt8):Stm×Err:=
 if lg d=7 then(Stm.no,.errno 3)
 else if timed=false then oR (EY (lg d) d 0 [] [])
 else if nq t=0 then(Stm.no,.errno 3)
 else if t.drop (tE t)≠[]/\(bI (t.drop (tE t))).2≠0 then(Stm.no,.errno (bI (t.drop (tE t))).2)
 else oR (EY (lg d) d (nq t) (t.take (tE t)) (t.drop (tE t)))
def Hf (s:List UInt8):Stm×Err:=lw (eK s 84).1 (eK s 84).2.2 (eK s 84).2.1
end
section
theorem gd {α:Type}{P:List α->Prop}(h0:P [])(h1:∀l a,P l->P (l++[a]))(l:List α):P l:=by
 rw[<-List.reverse_reverse l];induction l.reverse with
 |nil=>exact h0
 |cons a r ih=>rw[List.reverse_cons];exact h1 _ _ ih
inductive Tk where
 |one (c:UInt8)
 |two (d:UInt8)
def Tk.raw:Tk->List UInt8
 |.one c=>[c]
 |.two d=>[92,d]
def pX (d:UInt8):UInt8:=if d=110\/d=78 then 10 else d
def Tk.val:Tk->UInt8
 |.one c=>c
 |.two d=>pX d
def HQ (d:UInt8):Bool:=decide (d=92\/d=44\/d=59\/d=110\/d=78)
def Tk.ok:Tk->Prop
 |.one c=>c≠92
 |.two d=>HQ d=true
def bw:List UInt8->Nat->Err
 |[],_=>.none
 |[c],i=>if c=92 then .at 7 ((i+1:Nat):Int) else .none
 |c::d::r,i=>if c=92 then(if HQ d then bw r (i+2) else .at 3 ((i+1:Nat):Int)) else bw (d::r) (i+1)
def bY:List UInt8->List Tk
 |[]=>[]
 |[c]=>if c=92 then[] else[.one c]
 |c::d::r=>if c=92 then(if HQ d then .two d::bY r else[]) else .one c::bY (d::r)
abbrev rawT (T:List Tk):List UInt8:=T.flatMap Tk.raw
abbrev fX (T:List Tk):List UInt8:=T.map Tk.val
theorem nP {c:UInt8}(h:c≠92)(r:List UInt8)(i:Nat):bw (c::r) i=bw r (i+1):=by
 cases r with
 |nil=>simp[bw,h]
 |cons d r=>simp[bw,h]
theorem ni {c:UInt8}(h:c≠92)(r:List UInt8):bY (c::r)= .one c::bY r:=by
 cases r with
 |nil=>simp[bY,h]
 |cons d r=>simp[bY,h]
theorem nO {d:UInt8}(h:HQ d=true)(r:List UInt8)(i:Nat):bw (92::d::r) i=bw r (i+2):=by simp[bw,h]
theorem nh {d:UInt8}(h:HQ d=true)(r:List UInt8):bY (92::d::r)= .two d::bY r:=by simp[bY,h]
theorem Fa:∀(n:Nat) (s:List UInt8),s.length<=n->∀t∈bY s,t.ok
 |_,[],_,t,ht=>by cases ht
 |0,c::r,hn,_,_=>by simp at hn
 |n+1,c::r,hn,t,ht=>by
  have hn:r.length<=n:=by simpa using hn
  by_cases hc:c=92
  ·subst hc;cases r with
   |nil=>simp[bY] at ht
   |cons d r=>
    by_cases hd:HQ d=true
    ·rw[nh hd] at ht;rcases List.mem_cons.1 ht with rfl|ht
     ·exact hd
     ·exact Fa n r (by simp at hn;omega) t ht
    ·simp[bY,hd] at ht
  ·rw[ni hc] at ht;rcases List.mem_cons.1 ht with rfl|ht
   ·exact hc
   ·exact Fa n r hn t ht
theorem un:∀(n:Nat) (s:List UInt8) (i:Nat),s.length<=n->bw s i= .none->rawT (bY s)=s
 |_,[],_,_,_=>rfl
 |0,c::r,_,hn,_=>by simp at hn
 |n+1,c::r,i,hn,he=>by
  have hn:r.length<=n:=by simpa using hn
  by_cases hc:c=92
  ·subst hc;cases r with
   |nil=>simp[bw] at he
   |cons d r=>
    by_cases hd:HQ d=true
    ·rw[nO hd] at he;rw[nh hd];show 92::d::rawT (bY r)=_;rw[un n r _ (by simp at hn;omega) he]
    ·simp[bw,hd] at he
  ·rw[nP hc] at he;rw[ni hc];show c::rawT (bY r)=_;rw[un n r _ hn he]
theorem HE:∀(T:List Tk) (i:Nat),(∀t∈T,t.ok)->bw (rawT T) i= .none/\bY (rawT T)=T
 |[],_,_=>⟨rfl,rfl⟩
 |t::T,i,h=>by
  have ih:=λi=>HE T i (λt ht=>h t (List.mem_cons_of_mem _ ht));have ht:=h t List.mem_cons_self;cases t with
  |one c=>
   show bw (c::rawT T) i=_/\bY (c::rawT T)=_;rw[nP ht,ni ht,(ih _).1,(ih 0).2];exact⟨rfl,rfl⟩
  |two d=>
   show bw (92::d::rawT T) i=_/\bY (92::d::rawT T)=_;rw[nO ht,nh ht,(ih _).1,(ih 0).2];exact⟨rfl,rfl⟩
def xO (s:List UInt8)(i:Nat)(T:List Tk):Prop:=i<=s.length/\bw s 0=bw (s.drop i) i/\bY s=T++bY (s.drop i)
theorem yY (s:List UInt8):xO s 0 []:=⟨Nat.zero_le _,rfl,rfl⟩
theorem jz {s:List UInt8}{i:Nat}(h:i<s.length){c:UInt8}:s[i]=c↔(aa s i:Int)=c.toNat:=by
 have e:aa s i=s[i].toNat:=by simp[aa,List.getD,List.getElem?_eq_getElem h]
 rw[e,<-UInt8.toNat_inj];omega
theorem vg {s:List UInt8}{i:Nat}{T:List Tk}(h:xO s i T)(hi:i<s.length)(hc:(aa s i:Int)≠92):xO s (i+1) (T++[.one s[i]]):=by
 obtain⟨_,h2,h3⟩:=h;have hc:s[i]≠92:=λk=>hc ((jz hi).1 k);rw[List.drop_eq_getElem_cons hi] at h2 h3;rw[nP hc] at h2;rw[ni hc] at h3;exact⟨hi,h2,by rw[h3,List.append_assoc];rfl⟩
theorem gc {s:List UInt8}{i:Nat}{T:List Tk}(h:xO s i T)(hi:i+1<s.length)(hc:(aa s i:Int)=92)(hd:HQ s[i+1]=true):xO s (i+2) (T++[.two s[i+1]]):=by
 obtain⟨_,h2,h3⟩:=h;have hc:s[i]=92:=(jz (by omega)).2 hc;rw[List.drop_eq_getElem_cons (by omega:i<s.length),List.drop_eq_getElem_cons hi,hc] at h2 h3;rw[nO hd] at h2;rw[nh hd] at h3;exact⟨hi,h2,by rw[h3,List.append_assoc];rfl⟩
theorem yX {s:List UInt8}{i:Nat}{T:List Tk}(h:xO s i T)(hi:i+1=s.length)(hc:(aa s i:Int)=92):bw s 0= .at 7 ((i:Int)+1):=by
 obtain⟨_,h2,_⟩:=h;have hc:s[i]=92:=(jz (by omega)).2 hc;rw[List.drop_eq_getElem_cons (by omega:i<s.length),List.drop_of_length_le (by omega),hc] at h2;rw[h2];rfl
theorem Cj {s:List UInt8}{i:Nat}{T:List Tk}(h:xO s i T)(hi:i+1<s.length)(hc:(aa s i:Int)=92)(hd:HQ s[i+1]=false):bw s 0= .at 3 ((i:Int)+1):=by
 obtain⟨_,h2,_⟩:=h;have hc:s[i]=92:=(jz (by omega)).2 hc;rw[List.drop_eq_getElem_cons (by omega:i<s.length),List.drop_eq_getElem_cons hi,hc] at h2;rw[h2];simp[bw,hd]
theorem Ci {s:List UInt8}{i:Nat}{T:List Tk}(h:xO s i T)(hi:s.length<=i):bw s 0= .none/\bY s=T:=by
 obtain⟨_,h2,h3⟩:=h;rw[List.drop_of_length_le hi] at h2 h3;exact⟨h2,by simpa[bY] using h3⟩
end
section
def kV (at_:List UInt8)(x:List (List UInt8)×List UInt8×List UInt8):Tk->List (List UInt8)×List UInt8×List UInt8
 |.one c=>if c∈at_ then(x.1++[x.2.1],[],x.2.2++[c]) else(x.1,x.2.1++[c],x.2.2)
 |.two d=>(x.1,x.2.1++[pX d],x.2.2)
def iQ (at_:List UInt8)(T:List Tk):List (List UInt8)×List UInt8×List UInt8:=T.foldl (kV at_) ([],[],[])
def iB (c:UInt8)(x:List (List Tk)×List Tk):Tk->List (List Tk)×List Tk
 |.one b=>if b=c then(x.1++[x.2],[]) else(x.1,x.2++[.one b])
 |.two d=>(x.1,x.2++[.two d])
def gU (c:UInt8)(T:List Tk):List (List Tk)×List Tk:=T.foldl (iB c) ([],[])
def np (c:UInt8)(T:List Tk):List (List Tk):=(gU c T).1++[(gU c T).2]
def nl (c:UInt8)(x:List (List UInt8)×List UInt8×Bool)(b:UInt8):List (List UInt8)×List UInt8×Bool:=
 if b=c/\x.2.2=false then(x.1++[x.2.1],[],b==92&& !x.2.2) else(x.1,x.2.1++[b],b==92&& !x.2.2)
def Fi (c:UInt8)(s:List UInt8):List (List UInt8)×List UInt8×Bool:=s.foldl (nl c) ([],[],false)
def dX (c:UInt8)(s:List UInt8):List (List UInt8):=(Fi c s).1++[(Fi c s).2.1]
theorem kc (a:List UInt8)(T:List Tk)(t:Tk):iQ a (T++[t])=kV a (iQ a T) t:=by unfold iQ;rw[List.foldl_append];rfl
theorem gT (c:UInt8)(T:List Tk)(t:Tk):gU c (T++[t])=iB c (gU c T) t:=by unfold gU;rw[List.foldl_append];rfl
theorem nn (c:UInt8)(s:List UInt8)(b:UInt8):Fi c (s++[b])=nl c (Fi c s) b:=by unfold Fi;rw[List.foldl_append];rfl
theorem PY (c:UInt8)(s:List UInt8)(a b:UInt8):Fi c (s++[a,b])=nl c (nl c (Fi c s) a) b:=by unfold Fi;rw[List.foldl_append];rfl
theorem Mw (T:List Tk)(t:Tk):rawT (T++[t])=rawT T++t.raw:=by simp
theorem gO (T:List Tk)(t:Tk):fX (T++[t])=fX T++[t.val]:=by simp
theorem Hs {T:List Tk}{t:Tk}(h:∀x∈T++[t],x.ok):(∀x∈T,x.ok)/\t.ok:=⟨λx hx=>h x (List.mem_append_left _ hx),h t (by simp)⟩
theorem RC {c:UInt8}(hc:c≠92):∀T:List Tk,(∀t∈T,t.ok)->Fi c (rawT T)=((gU c T).1.map rawT,rawT (gU c T).2,false):=by
 refine gd (λ_=>rfl) λT t ih h=> ?_;obtain⟨h1,h2⟩:=Hs h;have ih:=ih h1
 rw[Mw,gT]
 cases t with
 |one b=>
  have h2:b≠92:=h2
  rw[show(Tk.one b).raw=[b] from rfl,nn,ih]
  unfold nl iB
  by_cases hb:b=c
  ·subst hb
   simp[h2]
  ·simp[hb,h2,Tk.raw]
 |two d=>
  rw[show(Tk.two d).raw=[92,d] from rfl,PY,ih]
  unfold iB
  by_cases hd:d=92
  ·simp[nl,hd,Ne.symm hc,Tk.raw]
  ·simp[nl,hd,Ne.symm hc,Tk.raw]
theorem S6 {c:UInt8}:∀T:List Tk,(∀t∈T,t.ok)->(∀T'∈(gU c T).1,∀t∈T',t.ok)/\∀t∈(gU c T).2,t.ok:=by
 refine gd (λ_=>⟨λ_ h=>by simp[gU] at h,λ_ h=>by simp[gU] at h⟩) λT t ih h=> ?_;obtain⟨h1,h2⟩:=Hs h;obtain⟨i1,i2⟩:=ih h1;rw[gT];have key:∀x∈(gU c T).2++[t],x.ok:=λx hx=>by
  rcases List.mem_append.1 hx with hx|hx
  ·exact i2 x hx
  ·rw[List.mem_singleton.1 hx];exact h2
 cases t with
 |one b=>
  unfold iB;by_cases hb:b=c
  ·simp only[hb,if_true];refine⟨λT' hT=> ?_,λx hx=>by cases hx⟩;rcases List.mem_append.1 hT with hT|hT
   ·exact i1 T' hT
   ·rw[List.mem_singleton.1 hT];exact i2
  ·simp only[hb,if_false];exact⟨i1,key⟩
 |two d=>exact⟨i1,key⟩
theorem P1 {c:UInt8}{T:List Tk}(h:∀t∈T,t.ok):∀T'∈np c T,∀t∈T',t.ok:=by
 obtain⟨h1,h2⟩:=S6 (c:=c) T h;intro T' hT;rcases List.mem_append.1 hT with hT|hT
 ·exact h1 T' hT
 ·rw[List.mem_singleton.1 hT];exact h2
theorem OB {c:UInt8}(hc:c≠92){T:List Tk}(h:∀t∈T,t.ok):dX c (rawT T)=(np c T).map rawT:=by
 unfold dX np;rw[RC hc T h,List.map_append];rfl
theorem P6:∀T:List Tk,iQ [] T=([],fX T,[]):=by
 refine gd rfl λT t ih=> ?_;rw[kc,ih,gO];cases t<;>simp[kV,Tk.val]
theorem Hw (c:UInt8):∀T:List Tk,(iQ [c] T).1=(gU c T).1.map fX/\(iQ [c] T).2.1=fX (gU c T).2:=by
 refine gd ⟨rfl,rfl⟩ λT t ih=> ?_;rw[kc,gT];cases t with
 |one b=>
  unfold kV iB;by_cases hb:b=c
  ·simp[hb,ih.1,ih.2]
  ·simp[hb,ih.1,ih.2,Tk.val]
 |two d=>simp[kV,iB,ih.1,ih.2,Tk.val]
def wr (out:List (List (List UInt8)))(x:List UInt8):List (List (List UInt8)):=out.dropLast++[out.getLast?.getD []++[x]]
theorem mC (out:List (List (List UInt8)))(l:List (List UInt8))(x:List UInt8):wr (out++[l]) x=out++[l++[x]]:=by simp[wr]
def oX (out:List (List (List UInt8)))(c:UInt8×List UInt8):List (List (List UInt8)):=wr (if c.1=59 then out++[[]] else out) c.2
def DW (l:List (List UInt8))(cuts:List UInt8):List (List (List UInt8)):=(cuts.zip l.tail).foldl oX [[l.headD []]]
theorem DV (l:List (List UInt8))(hl:l≠[])(cuts:List UInt8)(h:l.length=cuts.length+1)(c:UInt8)(x:List UInt8):DW (l++[x]) (cuts++[c])=oX (DW l cuts) (c,x):=by
 cases l with
 |nil=>exact absurd rfl hl
 |cons a l=>
  have h:cuts.length=l.length:=by simpa using h.symm
  unfold DW;simp only[List.cons_append,List.tail_cons,List.headD_cons];rw[List.zip_append h,List.foldl_append];rfl
def lstT (T:List Tk):List (List UInt8):=(np 44 T).map fX
theorem uy (T:List Tk):lstT T=(gU 44 T).1.map fX++[fX (gU 44 T).2]:=by simp[lstT,np]
theorem Cr (o:List (List (List UInt8)))(x:List UInt8):oX o (44,x)=wr o x:=rfl
theorem Fg (o:List (List (List UInt8)))(x:List UInt8):oX o (59,x)=wr (o++[[]]) x:=rfl
theorem Hv:∀T:List Tk,(iQ [44,59] T).1.length=(iQ [44,59] T).2.2.length/\(iQ [44,59] T).2.1=fX (gU 44 (gU 59 T).2).2/\
  ∀x,DW ((iQ [44,59] T).1++[x]) (iQ [44,59] T).2.2=(gU 59 T).1.map lstT++[(gU 44 (gU 59 T).2).1.map fX++[x]]:=by
 refine gd ⟨rfl,rfl,λx=>rfl⟩ λT t ih=> ?_;obtain⟨h1,h2,h3⟩:=ih;rw[kc,gT];cases t with
 |one b=>
  by_cases hb:b=59
  ·subst hb;rw[show kV [44,59] (iQ [44,59] T) (.one 59)=((iQ [44,59] T).1++[(iQ [44,59] T).2.1],[],(iQ [44,59] T).2.2++[59]) from rfl,show iB 59 (gU 59 T) (.one 59)=((gU 59 T).1++[(gU 59 T).2],[]) from rfl];refine⟨by simp[h1],rfl,λx=> ?_⟩;rw[DV _ (by simp) _ (by simp[h1]),h3,h2];rw[Fg,mC,List.map_append,List.map_cons,uy];simp[gU]
  ·by_cases hb2:b=44
   ·subst hb2;rw[show kV [44,59] (iQ [44,59] T) (.one 44)=((iQ [44,59] T).1++[(iQ [44,59] T).2.1],[],(iQ [44,59] T).2.2++[44]) from rfl,show iB 59 (gU 59 T) (.one 44)=((gU 59 T).1,(gU 59 T).2++[.one 44]) from rfl];dsimp only
    rw[gT,show iB 44 (gU 44 (gU 59 T).2) (.one 44)=((gU 44 (gU 59 T).2).1++[(gU 44 (gU 59 T).2).2],[]) from rfl];refine⟨by simp[h1],rfl,λx=> ?_⟩;rw[DV _ (by simp) _ (by simp[h1]),h3,h2];rw[Cr,mC];simp
   ·have e1:kV [44,59] (iQ [44,59] T) (.one b)=((iQ [44,59] T).1,(iQ [44,59] T).2.1++[b],(iQ [44,59] T).2.2):=by simp[kV,hb,hb2]
    have e2:iB 59 (gU 59 T) (.one b)=((gU 59 T).1,(gU 59 T).2++[.one b]):=by simp[iB,hb]
    have e3:gU 44 ((gU 59 T).2++[.one b])=((gU 44 (gU 59 T).2).1,(gU 44 (gU 59 T).2).2++[.one b]):=by rw[gT];simp[iB,hb2]
    rw[e1,e2];dsimp only
    rw[e3];exact⟨h1,by rw[h2,gO];rfl,h3⟩
 |two d=>
  have e2:iB 59 (gU 59 T) (.two d)=((gU 59 T).1,(gU 59 T).2++[.two d]):=rfl;have e3:gU 44 ((gU 59 T).2++[.two d])=((gU 44 (gU 59 T).2).1,(gU 44 (gU 59 T).2).2++[.two d]):=by rw[gT];rfl
  rw[e2,show kV [44,59] (iQ [44,59] T) (.two d)=((iQ [44,59] T).1,(iQ [44,59] T).2.1++[pX d],(iQ [44,59] T).2.2) from rfl];dsimp only
  rw[e3];exact⟨h1,by rw[h2,gO];rfl,h3⟩
theorem Rd (T:List Tk):DW ((iQ [44,59] T).1++[(iQ [44,59] T).2.1]) (iQ [44,59] T).2.2=(np 59 T).map lstT:=by
 obtain⟨_,h2,h3⟩:=Hv T;rw[h3,h2,np,List.map_append,List.map_cons,uy];rfl
end
section
def po (s:List UInt8):Nat->Nat
 |0=>0
 |i+1=>if(aa s i:Int)=92 then po s i+1 else 0
theorem G1 (s:List UInt8):∀i,po s i<=i
 |0=>Nat.le_refl _
 |i+1=>by
  have:=G1 s i
  unfold po
  split<;>omega
theorem OT (s:List UInt8):∀i n,n<po s i->(aa s (i-n-1):Int)=92
 |0,n,h=>absurd h (Nat.not_lt_zero _)
 |i+1,n,h=>by
  unfold po at h;split at h
  ·rename_i hb;cases n with
   |zero=>exact hb
   |succ n=>
    rw[show i+1-(n+1)-1=i-n-1 by omega];exact OT s i n (by omega)
  ·exact absurd h (Nat.not_lt_zero _)
theorem Ey (s:List UInt8):∀i,po s i=i\/(aa s (i-po s i-1):Int)≠92
 |0=>.inl rfl
 |i+1=>by
  rcases Ey s i with h|h
  ·unfold po;split
   ·left;rw[h]
   ·rename_i hb;exact .inr hb
  ·unfold po;split
   ·right;rw[show i+1-(po s i+1)-1=i-po s i-1 by omega];exact h
   ·rename_i hb;exact .inr hb
def EO (s:List UInt8)(c:UInt8)(i:Nat)(out:List (List UInt8))(fr:Nat):Prop:=i<=s.length/\fr<=i/\out.length<=i/\Fi c (s.take i)=(out,(s.take i).drop fr,decide (po s i%2=1))
theorem Kw (s:List UInt8)(c:UInt8):EO s c 0 [] 0:=⟨Nat.zero_le _,Nat.le_refl _,Nat.le_refl _,rfl⟩
theorem Dl (s:List UInt8){i:Nat}(h:i<s.length):(s[i]==92&& !decide (po s i%2=1))=decide (po s (i+1)%2=1):=by
 have e:(s[i]==92)=decide ((aa s i:Int)=92):=by
  rw[Bool.eq_iff_iff,beq_iff_eq,decide_eq_true_eq,jz h];rfl
 rw[e];rw[show po s (i+1)=if(aa s i:Int)=92 then po s i+1 else 0 from rfl];by_cases hb:(aa s i:Int)=92
 ·simp only[hb,decide_true,Bool.true_and,if_true];rw[Bool.eq_iff_iff];simp only[Bool.not_eq_true',decide_eq_false_iff_not,decide_eq_true_eq];omega
 ·simp[hb]
theorem OA {s:List UInt8}{c:UInt8}{i fr:Nat}{out:List (List UInt8)}(h:EO s c i out fr)(hi:i<s.length)(hb:(aa s i:Int)=c.toNat)(he:po s i%2=0):EO s c (i+1) (out++[(s.take i).drop fr]) (i+1):=by
 obtain⟨_,h1,h0,h2⟩:=h;have hb:=(jz hi).2 hb;refine⟨hi,Nat.le_refl _,by simp;omega,?_⟩;rw[List.take_succ_eq_append_getElem hi,nn,h2];unfold nl;rw[if_pos ⟨hb,by simp[he]⟩];rw[Dl s hi];simp
theorem RD {s:List UInt8}{c:UInt8}{i fr:Nat}{out:List (List UInt8)}(h:EO s c i out fr)(hi:i<s.length)(hb:¬((aa s i:Int)=c.toNat/\po s i%2=0)):EO s c (i+1) out fr:=by
 obtain⟨_,h1,h0,h2⟩:=h;refine⟨hi,by omega,by omega,?_⟩;rw[List.take_succ_eq_append_getElem hi,nn,h2];unfold nl;rw[if_neg ?_]
 ·rw[Dl s hi,List.drop_append_of_le_length (by rw[List.length_take];omega)]
 ·rintro⟨k1,k2⟩;refine hb ⟨(jz hi).1 k1,?_⟩;have:¬po s i%2=1:=by simpa using k2
  omega
theorem Oz {s:List UInt8}{c:UInt8}{i fr:Nat}{out:List (List UInt8)}(h:EO s c i out fr)(hi:s.length<=i):dX c s=out++[s.drop fr]:=by
 obtain⟨_,h1,h0,h2⟩:=h;rw[List.take_of_length_le hi] at h2;unfold dX;rw[h2]
end
section
theorem W5 (b:Int):bj [92,44,59,110,78] b=if b=92 then 0 else if b=44 then 1 else if b=59 then 2 else if b=110 then 3 else if b=78 then 4 else-1:=by
 unfold bj;simp only[jO];by_cases h1:b=92
 ·subst h1;rfl
 by_cases h2:b=44
 ·subst h2;rfl
 by_cases h3:b=59
 ·subst h3;rfl
 by_cases h4:b=110
 ·subst h4;rfl
 by_cases h5:b=78
 ·subst h5;rfl
 rw[if_neg h1,if_neg h2,if_neg h3,if_neg h4,if_neg h5,if_neg (λh=>h1 h.symm),if_neg (λh=>h2 h.symm),if_neg (λh=>h3 h.symm),if_neg (λh=>h4 h.symm),if_neg (λh=>h5 h.symm)]
def xY (s:List UInt8):List UInt8:=match bw s 0 with
 |.none=>fX (bY s)
 |_=>[]
theorem E4 {s:List UInt8}(h:bw s 0= .none):xY s=fX (bY s):=by unfold xY;rw[h]
theorem E5 {s:List UInt8}{e p:Int}(h:bw s 0= .at e p):xY s=[]:=by unfold xY;rw[h]
theorem MP {s:List UInt8}{i:Nat}(h:i<s.length):HQ s[i]=decide ((aa s i:Int)=92\/(aa s i:Int)=44\/(aa s i:Int)=59\/(aa s i:Int)=110\/(aa s i:Int)=78):=by
 unfold HQ;simp only[jz h];rfl
theorem Bq {s:List UInt8}{i:Nat}(h:i<s.length)(hb:(aa s i:Int)=110\/(aa s i:Int)=78):pX s[i]=10:=by
 unfold pX;rw[if_pos (hb.imp (jz (c:=110) h).2 (jz (c:=78) h).2)]
theorem sK {s:List UInt8}{i:Nat}(h:i<s.length)(hb:¬((aa s i:Int)=110\/(aa s i:Int)=78)):pX s[i]=s[i]:=by
 unfold pX;rw[if_neg (λk=>hb (k.imp (jz (c:=110) h).1 (jz (c:=78) h).1))]
theorem LN {s:List UInt8}{i:Nat}(h:i<s.length):(s.take (i+1)).drop i=[s[i]]:=by
 rw[List.take_succ_eq_append_getElem h,List.drop_append_of_le_length (by rw[List.length_take];omega),List.drop_of_length_le (by rw[List.length_take];omega)];rfl
theorem PA (T:List Tk):(fX T).length=T.length:=by simp
set_option maxHeartbeats 8000000
attribute [local irreducible] bN aw aC bg ab ae aa pX bj
theorem jH {G:Glo}(s:List UInt8)(hl:s.length<=2000000):aj prog G 63 [.str s] (.tuple [.str (xY s),.agg [.int .i64 (bw s 0).e,.int .i64 (bw s 0).p]]):=by
 have hgd:=fG (G:=G);have hI:=λ(b:Int) h0 h1=>aX (G:=G) [92,44,59,110,78] b h0 h1
 refine ao func63 call63 λC hC hGL=> ?_
 repeat' (first|(conv=>whnf);first|refine .w ?_|refine Ix.v ?_|refine Sd.v ?_|refine Sl.v ?_|apply d9|refine Tl ?_ ?_<;>(intro hb;try exact dd hb)|apply aF|(apply bQ<;>intro hb)|(apply bR;intro hbd)|(apply bS;intro bl)|exact True.intro|(apply iy;intro C hC)|apply iw|apply io|(apply ip;exact rfl)|(show Rt _ _ _;exact bK)|fail)
 all_goals try conv=>whnf
 refine lp hC hGL (λ(x:Nat×List Tk)=>[(0,.str s),(3,.own 0 (.pointer (some ⟨bl,0,none⟩))),(4,.str (fX x.2)),(5,.int .i64 (x.1:Nat))]) (λ_=>[.cells bl (some 32) [.int .i64 0,.int .i64 0]]) (λx=>xO s x.1 x.2/\x.2.length<=x.1) (λx=>s.length-x.1) (0,[]) ?_ ad rfl ?_
 ·exact⟨yY s,Nat.le_refl _⟩
 rintro⟨i,T⟩ ⟨hT,hlT⟩
 have hT:xO s i T:=hT
 have hlT:T.length<=i:=hlT
 have hi:=hT.1
 have hv:=PA T
 by_cases hA:i+1<s.length/\(aa s i:Int)=92
 ·obtain⟨hA1,hA2⟩:=hA
  have hbl:=bu s (i+1)
  have hJ:=hI (aa s (i+1):Int) (by omega) (by omega)
  rw[W5] at hJ
  have hok:=MP hA1
  by_cases k1:(aa s (i+1):Int)=92
  ·rw[if_pos k1] at hJ
   refine az ?_
   intros
   refine di (i+2,T++[.two s[i+1]]) ?_ ?_ ⟨rfl,rfl,?_,rfl,trivial⟩ rfl
   ·exact⟨gc hT hA1 hA2 (by rw[hok];simp[k1]),by simp;omega⟩
   ·show s.length-(i+2)<s.length-i
    omega
   ·refine congrArg (λl=>some (AVal.str l)) ?_
    rw[gO]
    refine congrArg (fX T++ ·) ?_
    show[92]=[pX s[i+1]]
    rw[sK hA1 (by omega),(jz hA1).2 (show _=((92:UInt8).toNat:Int) from k1)]
  by_cases k2:(aa s (i+1):Int)=44
  ·rw[if_neg k1,if_pos k2] at hJ
   refine az ?_
   intros
   refine di (i+2,T++[.two s[i+1]]) ?_ ?_ ⟨rfl,rfl,?_,rfl,trivial⟩ rfl
   ·exact⟨gc hT hA1 hA2 (by rw[hok];simp[k2]),by simp;omega⟩
   ·show s.length-(i+2)<s.length-i
    omega
   ·refine congrArg (λl=>some (AVal.str l)) ?_
    rw[gO]
    refine congrArg (fX T++ ·) ?_
    show[44]=[pX s[i+1]]
    rw[sK hA1 (by omega),(jz hA1).2 (show _=((44:UInt8).toNat:Int) from k2)]
  by_cases k3:(aa s (i+1):Int)=59
  ·rw[if_neg k1,if_neg k2,if_pos k3] at hJ
   refine az ?_
   intros
   refine di (i+2,T++[.two s[i+1]]) ?_ ?_ ⟨rfl,rfl,?_,rfl,trivial⟩ rfl
   ·exact⟨gc hT hA1 hA2 (by rw[hok];simp[k3]),by simp;omega⟩
   ·show s.length-(i+2)<s.length-i
    omega
   ·refine congrArg (λl=>some (AVal.str l)) ?_
    rw[gO]
    refine congrArg (fX T++ ·) ?_
    show[59]=[pX s[i+1]]
    rw[sK hA1 (by omega),(jz hA1).2 (show _=((59:UInt8).toNat:Int) from k3)]
  by_cases k4:(aa s (i+1):Int)=110
  ·rw[if_neg k1,if_neg k2,if_neg k3,if_pos k4] at hJ
   refine az ?_
   intros
   refine di (i+2,T++[.two s[i+1]]) ?_ ?_ ⟨rfl,rfl,?_,rfl,trivial⟩ rfl
   ·exact⟨gc hT hA1 hA2 (by rw[hok];simp[k4]),by simp;omega⟩
   ·show s.length-(i+2)<s.length-i
    omega
   ·refine congrArg (λl=>some (AVal.str l)) ?_
    rw[gO]
    refine congrArg (fX T++ ·) ?_
    show[10]=[pX s[i+1]]
    rw[Bq hA1 (by omega)]
  by_cases k5:(aa s (i+1):Int)=78
  ·rw[if_neg k1,if_neg k2,if_neg k3,if_neg k4,if_pos k5] at hJ
   refine az ?_
   intros
   refine di (i+2,T++[.two s[i+1]]) ?_ ?_ ⟨rfl,rfl,?_,rfl,trivial⟩ rfl
   ·exact⟨gc hT hA1 hA2 (by rw[hok];simp[k5]),by simp;omega⟩
   ·show s.length-(i+2)<s.length-i
    omega
   ·refine congrArg (λl=>some (AVal.str l)) ?_
    rw[gO]
    refine congrArg (fX T++ ·) ?_
    show[10]=[pX s[i+1]]
    rw[Bq hA1 (by omega)]
  rw[if_neg k1,if_neg k2,if_neg k3,if_neg k4,if_neg k5] at hJ
  have he:=Cj hT hA1 hA2 (by rw[hok];simp[k1,k2,k3,k4,k5])
  refine az ?_
  intros
  apply ak
  rw[E5 he,he]
  rfl
 ·refine xn ?_
  repeat' first|exact .n|apply Lc.mk
  all_goals intros
  ·have hlt:i<s.length:=by dsimp only at*;omega
   have hne:(aa s i:Int)≠92:=by assumption
   refine di (i+1,T++[.one s[i]]) ?_ ?_ ⟨rfl,rfl,?_,rfl,trivial⟩ rfl
   ·exact⟨vg hT hlt hne,by simp;omega⟩
   ·show s.length-(i+1)<s.length-i
    omega
   ·refine congrArg (λl=>some (AVal.str l)) ?_
    rw[gO]
    exact congrArg (fX T++ ·) (LN hlt)
  ·have he:=yX hT (by dsimp only at*;omega) (by assumption)
   apply ak
   rw[E5 he,he]
   rfl
  ·exfalso
   dsimp only at*
   omega
  ·obtain⟨he,ht⟩:=Ci hT (by dsimp only at*;omega)
   apply ak
   rw[E4 he,he,ht]
   rfl
end
section
theorem UM {s:List UInt8}{i n:Nat}(h:n<=po s i)(hb:(aa s (i-n-1):Int)=92)(hi:n<i):n+1<=po s i:=by
 rcases Nat.lt_or_ge n (po s i) with k|k
 ·exact k
 ·have e:n=po s i:=by omega
  rcases Ey s i with h1|h1
  ·omega
  ·rw[<-e] at h1;exact absurd hb h1
theorem UN {s:List UInt8}{i n:Nat}(h:n<=po s i)(hb:(aa s (i-n-1):Int)≠92):n=po s i:=by
 rcases Nat.lt_or_ge n (po s i) with k|k
 ·exact absurd (OT s i n k) hb
 ·omega
theorem OS {s:List UInt8}{i n:Nat}(h:n<=po s i)(hi:i<=n):n=po s i:=by
 have:=G1 s i;omega
set_option maxHeartbeats 8000000
attribute [local irreducible] bN aw aC bg ab ae aa po
theorem HC {G:Glo}(s:List UInt8)(c:UInt8)(hl:s.length<=2000000):aj prog G 108 [.str s,.int .u8 (c.toNat:Int)] (.list 1 (dX c s).length (ay (dX c s))):=by
  refine jP (λa=>a) HW (ay (dX c s)) (eq _) (cs:=bc (dX c s)) (eT:=none) ?_;refine ao func108 call108 λC hC hGL=> ?_;refine az ?_;intros;refine gv 5 1 rfl ?_;refine lp hC hGL (λ(x:Nat×Nat×List (List UInt8)×Value)=>[(0,.str s),(1,.int .u8 (c.toNat:Int)),(5,.own 0 x.2.2.2),(6,.int .i64 (x.2.1:Nat)),(10,.int .i64 (s.length:Nat)),(11,.int .i64 (x.1:Nat))]) (λx=>[.row x.2.2.2 none 1 x.2.2.1.length (bc x.2.2.1)]) (λx=>EO s c x.1 x.2.2.1 x.2.1) (λx=>s.length-x.1) (0,0,[],.slice none 0 0) ?_ ad rfl ?_
  · exact Kw s c
  rintro⟨i,fr,out,v⟩ hT;have hT:EO s c i out fr:=hT;have h1:=hT.1;have h2:=hT.2.1;have h3:=hT.2.2.1;refine xn ?_;repeat' first|exact .n|apply Lc.mk
  all_goals intros
  · have hlt:i<s.length:=by dsimp only at*;omega
    refine lp hC hGL (λ(n:Nat)=>[(0,.str s),(1,.int .u8 (c.toNat:Int)),(5,.own 0 v),(6,.int .i64 (fr:Nat)),(7,.int .i64 (i:Nat)),(8,.int .i64 (n:Nat)),(10,.int .i64 (s.length:Nat)),(11,.int .i64 (i:Nat))]) (λ_=>[.row v none 1 out.length (bc out)]) (λn=>n<=po s i) (λn=>i-n) 0 ?_ ad rfl ?_
    · exact Nat.zero_le _
    intro n hn;have hn:n<=po s i:=hn;have hni:=G1 s i;have e:0<(i:Int)-n->((i:Int)-n-1).toNat=i-n-1:=λ_=>by omega
    repeat' (first|(conv=>whnf);first|refine .w ?_|refine .v ?_|refine cj ?_ ?_<;>(intro hb;try exact dd hb)|apply aF|apply bf|(apply bQ<;>intro hb)|(apply bR;intro hbd)|(apply bS;intro bl)|(apply cb;intro va vk vc hva)|(apply ca;intro v)|(apply cd;intro bl cap hcap)|apply cg|(apply bZ<;>intro hnx)|apply cK mixed hC hGL (by kernel_rfl)|(show Rt _ _ _;exact bK)|fail)
    all_goals try conv=>whnf
    · rw[e (by omega)] at hb;refine di (n+1) (UM hn hb (by omega)) ?_ ⟨rfl,rfl,rfl,rfl,rfl,rfl,rfl,rfl,trivial⟩ rfl;show i-(n+1)<i-n;omega
    all_goals
      have en:n=po s i:=by first|exact OS hn (by omega)|(rw[e (by omega)] at*;exact UN hn (by assumption))
      first
        | (refine di (i+1,i+1,out++[(s.take i).drop fr],.slice va vk vc) ?_ ?_ ⟨rfl,rfl,rfl,rfl,rfl,rfl,trivial⟩ ?_
           · exact OA hT hlt (by assumption) (by rw[<-en];omega)
           · show s.length-(i+1)<s.length-i;omega
           · dsimp only
             rw[<-bJ,List.length_append];rfl)
        | (refine di (i+1,fr,out,v) ?_ ?_ ⟨rfl,rfl,rfl,rfl,rfl,rfl,trivial⟩ rfl
           · exact RD hT hlt (by rw[<-en];omega)
           · show s.length-(i+1)<s.length-i;omega)
  · have h3p:(((i,fr,out,v):Nat×Nat×List (List UInt8)×Value).2.2.1).length<=i:=h3;repeat' (first|(conv=>whnf);first|refine .w ?_|refine .v ?_|refine cj ?_ ?_<;>(intro hb;try exact dd hb)|apply aF|apply bf|(apply bQ<;>intro hb)|(apply bR;intro hbd)|(apply bS;intro bl)|(apply cb;intro va vk vc hva)|(apply ca;intro v)|(apply cd;intro bl cap hcap)|apply cg|(apply bZ<;>intro hnx)|apply cK mixed hC hGL (by kernel_rfl)|(show Rt _ _ _;exact bK)|fail)
    all_goals try conv=>whnf
    have hlt:s.length<=i:=by dsimp only at*;omega
    refine⟨_,List.Sublist.refl _,0,.slice va vk vc,rfl,?_⟩;dsimp only
    rw[Oz hT hlt,<-bJ,List.length_append];rfl
end
section
theorem Hr (c:UInt8):∀s:List UInt8,(∀x∈(Fi c s).1,x.length<=s.length)/\(Fi c s).2.1.length<=s.length:=by
 refine gd ⟨λ_ h=>by simp[Fi] at h,by simp[Fi]⟩ λs b ih=> ?_;rw[nn];unfold nl;split
 ·refine⟨λx hx=> ?_,by simp⟩;rw[List.length_append];rcases List.mem_append.1 hx with hx|hx
  ·have:=ih.1 x hx;omega
  ·rw[List.mem_singleton.1 hx];have:=ih.2;omega
 ·refine⟨λx hx=> ?_,?_⟩
  ·rw[List.length_append];have:=ih.1 x hx;omega
  ·rw[List.length_append,List.length_append];have:=ih.2;simp;omega
theorem Ej (c:UInt8)(s:List UInt8){x:List UInt8}(h:x∈dX c s):x.length<=s.length:=by
 rcases List.mem_append.1 h with h|h
 ·exact(Hr c s).1 x h
 ·rw[List.mem_singleton.1 h];exact(Hr c s).2
theorem PZ (c:UInt8):∀s:List UInt8,(Fi c s).1.length<=s.length:=by
 refine gd (Nat.le_refl _) λs b ih=> ?_;rw[nn,List.length_append];unfold nl;split
 ·simp;exact ih
 ·simp;omega
theorem Ek (c:UInt8)(s:List UInt8):(dX c s).length<=s.length+1:=by
 have:=PZ c s;simp[dX];exact this
theorem oG:∀(n:Nat) (s:List UInt8) (i:Nat),s.length<=n->bw s i= .none\/(∃p,bw s i= .at 7 p)\/∃p,bw s i= .at 3 p
 |_,[],_,_=>.inl rfl
 |0,c::r,_,hn=>by simp at hn
 |n+1,c::r,i,hn=>by
  have hn:r.length<=n:=by simpa using hn
  by_cases hc:c=92
  ·subst hc;cases r with
   |nil=>exact .inr (.inl ⟨_,rfl⟩)
   |cons d r=>
    by_cases hd:HQ d=true
    ·rw[nO hd];exact oG n r _ (by simp at hn;omega)
    ·exact .inr (.inr ⟨_,by simp[bw,hd];rfl⟩)
  ·rw[nP hc];exact oG n r _ hn
theorem IB {s:List UInt8}(h:bw s 0≠ .none):¬(bw s 0).e=0:=by
 rcases oG s.length s 0 (Nat.le_refl _) with k|⟨p,k⟩|⟨p,k⟩
 ·exact absurd k h
 ·rw[k];exact(by decide:¬(7:Int)=0)
 ·rw[k];exact(by decide:¬(3:Int)=0)
def ir (s:List UInt8):List (List UInt8):=match bw s 0 with
 |.none=>lstT (bY s)
 |_=>[]
theorem A6 {s:List UInt8}(h:bw s 0= .none):ir s=lstT (bY s):=by unfold ir;rw[h]
theorem H4 {s:List UInt8}(h:bw s 0≠ .none):ir s=[]:=by
 unfold ir
 split
 ·rename_i h2;exact absurd h2 h
 ·rfl
theorem LB {s:List UInt8}(h:bw s 0≠ .none):xY s=[]:=by
 unfold xY;split
 ·rename_i h2;exact absurd h2 h
 ·rfl
theorem sj {s:List UInt8}{c:UInt8}(hc:c≠92)(h:bw s 0= .none):dX c s=(np c (bY s)).map rawT/\∀T'∈np c (bY s),bw (rawT T') 0= .none/\bY (rawT T')=T':=by
 have hok:=Fa s.length s (Nat.le_refl _);have hraw:=un s.length s 0 (Nat.le_refl _) h;refine⟨?_,λT' hT=>HE T' 0 (P1 hok T' hT)⟩;have:=OB hc hok;rwa [hraw] at this
theorem Da {s:List UInt8}{c:UInt8}(hc:c≠92)(h:bw s 0= .none){k:Nat}(hk:k<(dX c s).length):∃T',(np c (bY s))[k]? =some T'/\(dX c s).getD k []=rawT T'/\bw ((dX c s).getD k []) 0= .none/\bY ((dX c s).getD k [])=T':=by
 obtain⟨h1,h2⟩:=sj hc h;have hk':k<(np c (bY s)).length:=by rw[h1,List.length_map] at hk;exact hk
 refine⟨(np c (bY s))[k],List.getElem?_eq_getElem hk',?_⟩;have e:(dX c s).getD k []=rawT (np c (bY s))[k]:=by
  rw[h1,List.getD_eq_getElem?_getD,List.getElem?_map,List.getElem?_eq_getElem hk'];rfl
 rw[e];exact⟨rfl,h2 _ (List.getElem_mem hk')⟩
theorem oW {α β:Type}{l:List α}{k:Nat}{a:α}(f:α->β)(h:l[k]? =some a):(l.map f).take (k+1)=(l.map f).take k++[f a]:=by
 obtain⟨hlt,e⟩:=List.getElem?_eq_some_iff.1 h;rw[List.take_succ_eq_append_getElem (by simpa using hlt)];simp[e]
theorem uq {sz:Nat}{f:Nat->AVal}{b:AVal}:tu (.ret (.tuple [.raw (.slice none 0 0),b])) [] (.tuple [.list sz 0 f,b]):=by
 rintro C R w e hm ⟨x,rfl,⟨ws,e2,u,t,e1,hu,h3⟩,h2⟩;refine⟨R,hm,x,rfl,⟨ws,e2,u,t,e1,⟨?_,?_⟩,h3⟩,h2⟩
 ·have hr:bE R (.raw (.slice none 0 0)) u:=hu;obtain rfl:=ar.1 hr;exact⟨none,0,rfl,Nat.le_refl _,.inl rfl⟩
 ·have hr:bE R (.raw (.slice none 0 0)) u:=hu;obtain rfl:=ar.1 hr;rfl
set_option maxHeartbeats 8000000
attribute [local irreducible] bN aw aC bg ab ae aa dX xY bw bY lstT ir
theorem ri {G:Glo}(e p:Int):aj prog G 17 [.agg [.int .i64 e,.int .i64 p]] (.bool (cm e 0)):=by
 refine ao func17 call17 λC hC hGL=> ?_;exact ba
theorem C4 {G:Glo}(s:List UInt8)(hl:s.length<=2000000):aj prog G 64 [.str s] (.tuple [.list 1 (ir s).length (ay (ir s)),.agg [.int .i64 (bw s 0).e,.int .i64 (bw s 0).p]]):=by
 have hU:=jH (G:=G) s hl;have hF:=ri (G:=G) (bw s 0).e (bw s 0).p;have hgd:=fG (G:=G);have hcut:=HC (G:=G) s 44 hl;have hcc:=Ek 44 s;by_cases he:bw s 0= .none
 ·rw[he] at hU hF ⊢;rw[A6 he];have hUp:=λk (hk:k<(dX 44 s).length)=>jH (G:=G) ((dX 44 s).getD k []) (Nat.le_trans (Ej 44 s (by rw[List.getD_eq_getElem?_getD,List.getElem?_eq_getElem hk];exact List.getElem_mem hk)) hl);refine jP (λa=>.tuple [a,.agg [.int .i64 (Err.none).e,.int .i64 (Err.none).p]]) (we _) (ay (lstT (bY s))) (eq _) (cs:=bc (lstT (bY s))) (eT:=none) ?_;refine ao func64 call64 λC hC hGL=> ?_;repeat' (first|(conv=>whnf);first|refine .w ?_|refine Ix.v ?_|refine Sd.v ?_|refine Sl.v ?_|apply d9|refine Tl ?_ ?_<;>(intro hb;try exact dd hb)|apply aF|(apply bQ<;>intro hb)|(apply bR;intro hbd)|(apply aZ;first|exact hU|exact hF|exact hcut)|(apply bS;intro bl)|exact True.intro|(apply iy;intro C hC)|apply iw|apply io|(apply ip;exact rfl)|(show Rt _ _ _;exact bK)|fail)
  all_goals try conv=>whnf
  rename_i bl0;refine gv 6 1 rfl ?_;obtain⟨hp1,_⟩:=sj (c:=44) (by decide) he;have hn:(lstT (bY s)).length=(dX 44 s).length:=by rw[hp1];unfold lstT;simp
  refine lp hC hGL (λ(y:List (List UInt8)×Value)=>[(3,.own 0 (.pointer (some ⟨bl0,0,none⟩))),(6,.own 2 y.2),(21,.list 1 (dX 44 s).length (ay (dX 44 s))),(22,.int .i64 ((dX 44 s).length:Nat)),(23,.int .i64 (y.1.length:Nat))]) (λy=>[.cells bl0 (some 32) [.int .i64 0,.int .i64 0],.cells bl (some 32) [.int .i64 (Err.none).e,.int .i64 (Err.none).p],.row y.2 none 1 y.1.length (bc y.1)]) (λy=>y.1.length<=(dX 44 s).length/\y.1=(lstT (bY s)).take y.1.length) (λy=>(dX 44 s).length-y.1.length) ([],.slice none 0 0) ?_ ad rfl ?_
  ·exact⟨Nat.zero_le _,rfl⟩
  rintro⟨ps,v⟩ ⟨h1,h2⟩;have h1:ps.length<=(dX 44 s).length:=h1;have h2:ps=(lstT (bY s)).take ps.length:=h2;by_cases hlt:ps.length<(dX 44 s).length
  ·obtain⟨T',k1,k2,k3,k4⟩:=Da (c:=44) (by decide) he hlt;have hU1:=hUp ps.length hlt;rw[k3,E4 k3,k4] at hU1;have hU1:aj prog G 63 [ay (dX 44 s) ps.length] (.tuple [.str (fX T'),.agg [.int .i64 (Err.none).e,.int .i64 (Err.none).p]]):=hU1;repeat' (first|(conv=>whnf);first|refine .w ?_|refine .v ?_|refine cj ?_ ?_<;>(intro hb;try exact dd hb)|apply aF|apply bf|(apply bQ<;>intro hb)|(apply bR;intro hbd)|(apply aZ;exact hU1)|(apply aL (i:=0) rfl;exact hU1)|(apply bS;intro bl)|(apply cb;intro va vk vc hva)|(apply ca;intro v)|(apply cd;intro bl cap hcap)|apply cg|(apply bZ<;>intro hnx)|apply cK mixed hC hGL (by kernel_rfl)|(apply cq;assumption;exact hU1;exact rfl)|(show Rt _ _ _;exact bK)|fail)
   all_goals try conv=>whnf
   refine cJ (ps++[fX T'],.slice va vk vc) ?_ ?_ ⟨rfl,rfl,rfl,rfl,?_,trivial⟩ ?_
   ·refine⟨?_,?_⟩
    ·show(ps++[fX T']).length<=_;rw[List.length_append,List.length_singleton];exact hlt
    ·show ps++[fX T']=(lstT (bY s)).take (ps++[fX T']).length;have e1:(lstT (bY s)).take (ps.length+1)=(lstT (bY s)).take ps.length++[fX T']:=by
      unfold lstT;exact oW fX k1
     rw[List.length_append,List.length_singleton,e1,<-h2]
   ·show(dX 44 s).length-(ps++[fX T']).length<(dX 44 s).length-ps.length;rw[List.length_append,List.length_singleton];omega
   ·show some (AVal.int .i64 (((ps.length:Nat):Int)+1))=some (AVal.int .i64 ((ps++[fX T']).length:Nat));rw[List.length_append];rfl
   ·dsimp only
    rw[<-bJ,List.length_append];exact .cons_cons _ (.cons_cons _ (.cons_cons _ (List.nil_sublist _)))
  ·refine a6 ?_;intros;have h3:ps=lstT (bY s):=by rw[h2,List.take_of_length_le (by omega)]
   subst h3;exact⟨_,.cons _ (.cons _ (.refl _)),2,v,rfl,rfl⟩
 ·have hne:=IB he;rw[LB he] at hU;rw[H4 he];refine dC (H:=[]) (Qf:=λr H=>r= .ret (.tuple [.raw (.slice none 0 0),.agg [.int .i64 (bw s 0).e,.int .i64 (bw s 0).p]])/\H=[]) ?_ (λr H h=>by obtain⟨rfl,rfl⟩:=h;exact uq);refine ao func64 call64 λC hC hGL=> ?_;repeat' (first|(conv=>whnf);first|refine .w ?_|refine .v ?_|refine cj ?_ ?_<;>(intro hb;try exact dd hb)|apply aF|apply bf|(apply bQ<;>intro hb)|(apply bR;intro hbd)|(apply aZ;first|exact hU|exact hF)|(apply aL (i:=0) rfl;first|exact hU|exact hF)|(apply bS;intro bl)|(apply cb;intro va vk vc hva)|(apply ca;intro v)|(apply cd;intro bl cap hcap)|apply cg|(apply bZ<;>intro hnx)|exact True.intro|(apply iy;intro C hC)|apply iw|apply io|(apply ip;exact rfl)|(show Rt _ _ _;exact bK)|fail)
  all_goals try conv=>whnf
  rename_i bl0;refine cR mixed hC hGL false (λ(_:Unit)=>[(2,.raw (.slice none 0 0)),(3,.own 0 (.pointer (some ⟨bl0,0,none⟩)))]) (λ_=>[.cells bl0 (some 32) [.int .i64 (bw s 0).e,.int .i64 (bw s 0).p],.cells bl (some 32) [.int .i64 (bw s 0).e,.int .i64 (bw s 0).p]]) (.t 1 (.b 0 (.b 2 .done))) (by kernel_rfl) ?_ ?_
  ·refine xn ?_;repeat' first|exact .n|apply Lc.mk
   all_goals intros
   all_goals exact⟨(),⟨rfl,rfl,trivial⟩,rfl⟩
  intro _;exact cx
end
section
def yu (l:List (List UInt8)):AVal:=.list 1 l.length (ay l)
def eb (L:List (List (List UInt8))):List AVal:=L.map yu
def kQ (L:List (List (List UInt8)))(i:Nat):AVal:=yu (L.getD i [])
theorem uu (L:List (List (List UInt8))):∀i,i<L.length->(kQ L i).cells=((eb L).drop (i*1)).take 1/\(kQ L i).plain=true:=by
 intro i hi;refine⟨?_,rfl⟩;rw[Nat.mul_one,List.drop_eq_getElem_cons (by simpa[eb] using hi)];simp[kQ,eb,AVal.cells,List.getD,List.getElem?_eq_getElem hi,yu]
theorem lN (L:List (List (List UInt8)))(l:List (List UInt8)):eb L++[yu l]=eb (L++[l]):=by simp[eb]
def oN (T:List Tk):List (List (List UInt8)):=(np 59 T).map lstT
def jb (s:List UInt8):List (List (List UInt8)):=match bw s 0 with
 |.none=>oN (bY s)
 |_=>[]
theorem HK {s:List UInt8}(h:bw s 0= .none):jb s=oN (bY s):=by unfold jb;rw[h]
theorem HL {s:List UInt8}(h:bw s 0≠ .none):jb s=[]:=by
 unfold jb;split
 ·rename_i h2;exact absurd h2 h
 ·rfl
set_option maxHeartbeats 8000000
attribute [local irreducible] bN aw aC bg ab ae aa dX xY bw bY lstT ir oN jb
theorem JC {G:Glo}(s:List UInt8)(hl:s.length<=2000000):aj prog G 65 [.str s] (.tuple [.list 1 (jb s).length (kQ (jb s)),.agg [.int .i64 (bw s 0).e,.int .i64 (bw s 0).p]]):=by
 have hU:=jH (G:=G) s hl;have hF:=ri (G:=G) (bw s 0).e (bw s 0).p;have hgd:=fG (G:=G);have hcut:=HC (G:=G) s 59 hl;have hcc:=Ek 59 s;by_cases he:bw s 0= .none
 ·rw[he] at hU hF ⊢;rw[HK he];have hUp:=λk (hk:k<(dX 59 s).length)=>C4 (G:=G) ((dX 59 s).getD k []) (Nat.le_trans (Ej 59 s (by rw[List.getD_eq_getElem?_getD,List.getElem?_eq_getElem hk];exact List.getElem_mem hk)) hl);refine jP (λa=>.tuple [a,.agg [.int .i64 (Err.none).e,.int .i64 (Err.none).p]]) (we _) (kQ (oN (bY s))) (uu _) (cs:=eb (oN (bY s))) (eT:=none) ?_;refine ao func65 call65 λC hC hGL=> ?_;repeat' (first|(conv=>whnf);first|refine .w ?_|refine Ix.v ?_|refine Sd.v ?_|refine Sl.v ?_|apply d9|refine Tl ?_ ?_<;>(intro hb;try exact dd hb)|apply aF|(apply bQ<;>intro hb)|(apply bR;intro hbd)|(apply aZ;first|exact hU|exact hF|exact hcut)|(apply bS;intro bl)|exact True.intro|(apply iy;intro C hC)|apply iw|apply io|(apply ip;exact rfl)|(show Rt _ _ _;exact bK)|fail)
  all_goals try conv=>whnf
  rename_i bl0;refine gv 6 1 rfl ?_;obtain⟨hp1,_⟩:=sj (c:=59) (by decide) he;have hn:(oN (bY s)).length=(dX 59 s).length:=by rw[hp1];unfold oN;simp
  refine lp hC hGL (λ(y:List (List (List UInt8))×Value)=>[(3,.own 0 (.pointer (some ⟨bl0,0,none⟩))),(6,.own 2 y.2),(21,.list 1 (dX 59 s).length (ay (dX 59 s))),(22,.int .i64 ((dX 59 s).length:Nat)),(23,.int .i64 (y.1.length:Nat))]) (λy=>[.cells bl0 (some 32) [.int .i64 0,.int .i64 0],.cells bl (some 32) [.int .i64 (Err.none).e,.int .i64 (Err.none).p],.row y.2 none 1 y.1.length (eb y.1)]) (λy=>y.1.length<=(dX 59 s).length/\y.1=(oN (bY s)).take y.1.length) (λy=>(dX 59 s).length-y.1.length) ([],.slice none 0 0) ?_ ad rfl ?_
  ·exact⟨Nat.zero_le _,rfl⟩
  rintro⟨ps,v⟩ ⟨h1,h2⟩;have h1:ps.length<=(dX 59 s).length:=h1;have h2:ps=(oN (bY s)).take ps.length:=h2;by_cases hlt:ps.length<(dX 59 s).length
  ·obtain⟨T',k1,k2,k3,k4⟩:=Da (c:=59) (by decide) he hlt;have hU1:=hUp ps.length hlt;rw[k3,A6 k3,k4] at hU1;have hU1:aj prog G 64 [ay (dX 59 s) ps.length] (.tuple [.list 1 (lstT T').length (ay (lstT T')),.agg [.int .i64 (Err.none).e,.int .i64 (Err.none).p]]):=hU1;repeat' (first|(conv=>whnf);first|refine .w ?_|refine .v ?_|refine cj ?_ ?_<;>(intro hb;try exact dd hb)|apply aF|apply bf|(apply bQ<;>intro hb)|(apply bR;intro hbd)|(apply aZ;exact hU1)|(apply aL (i:=0) rfl;exact hU1)|(apply bS;intro bl)|(apply cb;intro va vk vc hva)|(apply ca;intro v)|(apply cd;intro bl cap hcap)|apply cg|(apply bZ<;>intro hnx)|apply cK mixed hC hGL (by kernel_rfl)|(apply cq;assumption;exact hU1;exact rfl)|(show Rt _ _ _;exact bK)|fail)
   all_goals try conv=>whnf
   refine cJ (ps++[lstT T'],.slice va vk vc) ?_ ?_ ⟨rfl,rfl,rfl,rfl,?_,trivial⟩ ?_
   ·refine⟨?_,?_⟩
    ·show(ps++[lstT T']).length<=_;rw[List.length_append,List.length_singleton];exact hlt
    ·show ps++[lstT T']=(oN (bY s)).take (ps++[lstT T']).length;have e1:(oN (bY s)).take (ps.length+1)=(oN (bY s)).take ps.length++[lstT T']:=by
      unfold oN;exact oW lstT k1
     rw[List.length_append,List.length_singleton,e1,<-h2]
   ·show(dX 59 s).length-(ps++[lstT T']).length<(dX 59 s).length-ps.length;rw[List.length_append,List.length_singleton];omega
   ·show some (AVal.int .i64 (((ps.length:Nat):Int)+1))=some (AVal.int .i64 ((ps++[lstT T']).length:Nat));rw[List.length_append];rfl
   ·dsimp only
    rw[<-lN,List.length_append];exact .cons_cons _ (.cons_cons _ (.cons_cons _ (List.nil_sublist _)))
  ·refine a6 ?_;intros;have h3:ps=oN (bY s):=by rw[h2,List.take_of_length_le (by omega)]
   subst h3;exact⟨_,.cons _ (.cons _ (.refl _)),2,v,rfl,rfl⟩
 ·have hne:=IB he;rw[LB he] at hU;rw[HL he];refine dC (H:=[]) (Qf:=λr H=>r= .ret (.tuple [.raw (.slice none 0 0),.agg [.int .i64 (bw s 0).e,.int .i64 (bw s 0).p]])/\H=[]) ?_ (λr H h=>by obtain⟨rfl,rfl⟩:=h;exact uq);refine ao func65 call65 λC hC hGL=> ?_;repeat' (first|(conv=>whnf);first|refine .w ?_|refine .v ?_|refine cj ?_ ?_<;>(intro hb;try exact dd hb)|apply aF|apply bf|(apply bQ<;>intro hb)|(apply bR;intro hbd)|(apply aZ;first|exact hU|exact hF)|(apply aL (i:=0) rfl;first|exact hU|exact hF)|(apply bS;intro bl)|(apply cb;intro va vk vc hva)|(apply ca;intro v)|(apply cd;intro bl cap hcap)|apply cg|(apply bZ<;>intro hnx)|exact True.intro|(apply iy;intro C hC)|apply iw|apply io|(apply ip;exact rfl)|(show Rt _ _ _;exact bK)|fail)
  all_goals try conv=>whnf
  rename_i bl0;refine cR mixed hC hGL false (λ(_:Unit)=>[(2,.raw (.slice none 0 0)),(3,.own 0 (.pointer (some ⟨bl0,0,none⟩)))]) (λ_=>[.cells bl0 (some 32) [.int .i64 (bw s 0).e,.int .i64 (bw s 0).p],.cells bl (some 32) [.int .i64 (bw s 0).e,.int .i64 (bw s 0).p]]) (.t 1 (.b 0 (.b 2 .done))) (by kernel_rfl) ?_ ?_
  ·refine xn ?_;repeat' first|exact .n|apply Lc.mk
   all_goals intros
   all_goals exact⟨(),⟨rfl,rfl,trivial⟩,rfl⟩
  intro _;exact cx
end
section
def Vl.no:Vl:=⟨0,[],[],Stm.no,0⟩
def ne (s:List UInt8)(k:Int):Vl×Err:=
 if k=1 then(⟨k,xY s,[],Stm.no,0⟩,bw s 0)
 else if k=2 then(⟨k,[],[ir s],Stm.no,0⟩,bw s 0)
 else if k=3 then(⟨k,[],jb s,Stm.no,0⟩,bw s 0)
 else if k=4 then(⟨k,s,[],Stm.no,0⟩,gu s)
 else if k=5 then(⟨k,[],[],(Hf s).1,0⟩,(Hf s).2)
 else if k=6 then(⟨k,[],[],Stm.no,(bI s).1⟩,gN s)
 else if k=7 then(⟨k,s,[],Stm.no,0⟩,dF s)
 else(⟨k,s,[],Stm.no,0⟩,.none)
def lA (s:List UInt8)(k:Int):Vl×Err:=
 if k<1\/9<=k then(Vl.no,.errno 1)
 else if fh false s=false then(Vl.no,.errno 3)
 else match (ne s k).2 with
  |.none=>ne s k
  |e=>(Vl.no,e)
end
section
def iq (L:List (List UInt8×Int)):List (AVal×AVal):=L.map λx=>(.str x.1,.int .i64 x.2)
def dx (s:List UInt8):List (List UInt8×Int)->Nat->Option (Nat×Int)
 |[],_=>none
 |x::L,i=>if aS s x.1 then some (i,x.2) else dx s L (i+1)
def jc (s:List UInt8)(L:List (List UInt8×Int)):Int:=match dx s L 0 with
 |some (_,n)=>n
 |none=>0
theorem je (s:List UInt8):∀(L:List (List UInt8×Int)) (i:Nat),dx s L i=(dx s L 0).map λx=>(x.1+i,x.2)
 |[],_=>rfl
 |x::L,i=>by
  simp only[dx];split
  ·simp
  ·rw[je s L (i+1),je s L (0+1)];cases dx s L 0 with
   |none=>rfl
   |some y=>simp only[Option.map_some];congr 2;omega
theorem iK (s:List UInt8)(x:List UInt8×Int)(L:List (List UInt8×Int)):jc s (x::L)=if aS s x.1 then x.2 else jc s L:=by
 cases h:aS s x.1 with
 |true=>
  unfold jc;simp only[dx,h,if_true]
 |false=>
  unfold jc;simp only[dx,h,Bool.false_eq_true,if_false];rw[je s L (0+1)];cases dx s L 0 with
  |none=>rfl
  |some y=>rfl
theorem zl {s t:List UInt8}{n:Int}:∀{L:List (List UInt8×Int)},dx t L 0=none->jc s (L++[(t,n)])=if aS s t then n else jc s L
 |[],_=>by rw[List.nil_append,iK]
 |x::L,h=>by
  simp only[dx] at h;split at h
  ·cases h
  ·rename_i hx;rw[je t L (0+1)] at h;have h0:dx t L 0=none:=by
    cases h1:dx t L 0 with
    |none=>rfl
    |some y=>rw[h1] at h;cases h
   rw[List.cons_append,iK,zl h0,iK];cases h1:aS s x.1 with
   |false=>rfl
   |true=>
    have e1:=bx.1 h1;cases h2:aS s t with
    |false=>rfl
    |true=>
     have e2:=bx.1 h2;exact absurd (bx.2 (e2.symm.trans e1)) hx
theorem Dm {s t:List UInt8}{n m:Int}:∀{L:List (List UInt8×Int)} {j:Nat},dx t L 0=some (j,m)->jc s (L.set j (t,n))=if aS s t then n else jc s L
 |[],_,h=>by cases h
 |x::L,j,h=>by
  simp only[dx] at h;split at h
  ·rename_i hx;cases h;rw[List.set_cons_zero,iK,iK];dsimp only
   rw[bx.1 hx];split<;>rfl
  ·rename_i hx;rw[je t L (0+1)] at h;cases h1:dx t L 0 with
   |none=>rw[h1] at h;cases h
   |some y=>
    rw[h1] at h;simp only[Option.map_some,Option.some.injEq,Prod.mk.injEq] at h;obtain⟨rfl,rfl⟩:=h;rw[show y.1+(0+1)=y.1+1 by omega,List.set_cons_succ,iK,Dm (m:=y.2) h1,iK];cases h2:aS s x.1 with
    |false=>rfl
    |true=>
     have e1:=bx.1 h2;cases h3:aS s t with
     |false=>rfl
     |true=>exact absurd (bx.2 ((bx.1 h3).symm.trans e1)) hx
theorem so (L:List (List UInt8×Int))(s:List UInt8)(n:Int):iq L++[(AVal.str s,AVal.int .i64 n)]=iq (L++[(s,n)]):=by
 unfold iq;rw[List.map_append];rfl
theorem wj (L:List (List UInt8×Int))(j:Nat)(s:List UInt8)(n:Int):(iq L).set j (AVal.str s,AVal.int .i64 n)=iq (L.set j (s,n)):=by
 unfold iq;rw[List.map_set]
def jB (s:List UInt8)(n:Int)(L:List (List UInt8×Int)):List (List UInt8×Int):=match dx s L 0 with
 |some (j,_)=>L.set j (s,n)
 |none=>L++[(s,n)]
theorem MR (s t:List UInt8)(n:Int)(L:List (List UInt8×Int)):jc s (jB t n L)=if aS s t then n else jc s L:=by
 unfold jB;cases h:dx t L 0 with
 |none=>exact zl h
 |some y=>exact Dm (m:=y.2) h
end
section
def strB (x:Js):Bool:=cm x.k 5
def dl (x:Js):Bool:=strB x||(cm x.k 6&&(decide (1<x.l.length)&&x.l.all strB))
def bp (x:Js):List (List UInt8):=if strB x=true then[x.t] else if x.l.all strB=true then x.l.map Js.t else[]
def ss (x:Js)(i:Nat):Bool:= !dl (aA x.l i)||aS (al 97 122 (-32) (x.ks.getD i [])) valN||(aS (x.ks.getD i []) qS&&(decide (1<(bp (aA x.l i)).length)||aS ((bp (aA x.l i)).getD 0 []) []))
def eM (x:Js):Nat->List UInt8
 |0=>[]
 |k+1=>if aS (x.ks.getD k []) qS=true then(bp (aA x.l k)).getD 0 [] else eM x k
def ek (x:Js):Nat->List Pr
 |0=>[]
 |k+1=>ek x k++if aS (x.ks.getD k []) qS=true then[] else[⟨al 97 122 (-32) (x.ks.getD k []),bp (aA x.l k)⟩]
def nb (x:Js):Bool:=(List.range x.ks.length).any (ss x)
def K5:List (List UInt8×Int):=[([116,101,120,116],1),([117,114,105],4),([100,97,116,101,45,97,110,100,45,111,114,45,116,105,109,101],5),([117,116,99,45,111,102,102,115,101,116],6),([108,97,110,103,117,97,103,101,45,116,97,103],7),([117,110,107,110,111,119,110],8)]
def dk (s:List UInt8):Int:=jc s K5
def kS (s:List UInt8):Nat->Int
 |0=>0
 |j+1=>if aS (iC (8-(j:Int))) s=true then 8-(j:Int) else kS s j
def cE (l:List Js)(k:Int):Vl×Err:=
 if k=2 then if l.all strB=true then(⟨2,[],[l.map Js.t],Stm.no,0⟩,.none) else(Vl.no,.errno 3)
 else if l.length≠1 then(Vl.no,.errno 3)
 else if k=3 then if(aA l 0).k=6/\(aA l 0).l.all dl=true then(⟨3,[],(aA l 0).l.map bp,Stm.no,0⟩,.none) else(Vl.no,.errno 3)
 else if strB (aA l 0)=false then(Vl.no,.errno 3)
 else if k=1 then(⟨1,(aA l 0).t,[],Stm.no,0⟩,.none)
 else lA (aA l 0).t k
def Pq (x:Js):Bool:=cm x.k 6&&(decide (4<=x.l.length)&&(strB (aA x.l 0)&&(cm (aA x.l 1).k 7&&strB (aA x.l 2))))
def itN (x:Js):List UInt8:=al 97 122 (-32) (aA x.l 0).t
def oQ (x:Js):Int:=(ci 4 (itN x)).t
def Ih (x:Js):Int:=if dk (aA x.l 2).t=1/\(oQ x=2\/oQ x=3) then oQ x else dk (aA x.l 2).t
def wH (x:Js):List Pr:=ek (aA x.l 1) (aA x.l 1).ks.length++if Ih x=oQ x then[] else[⟨valN,[(aA x.l 2).t]⟩]
def xU (x:Js):Itm:=(⟨eM (aA x.l 1) (aA x.l 1).ks.length,itN x,wH x,[]⟩,(cE (x.l.drop 3) (Ih x)).1)
def gM (x:Js):Err:=if Pq x=false then .errno 3 else if nb (aA x.l 1)=true then .errno 3 else if dk (aA x.l 2).t=0 then .errno 5 else(cE (x.l.drop 3) (Ih x)).2
def tT (x:Js)(s:List UInt8):Bool:=strB x&&aS x.t s
def Pz:List UInt8:=[118,99,97,114,100]
def mf (x:Js):Bool:=cm x.k 6&&(cm (x.l.length:Nat) 4&&(tT (aA x.l 0) [118,101,114,115,105,111,110]&&(cm (aA x.l 1).k 7&&(cm ((aA x.l 1).ks.length:Nat) 0&&(tT (aA x.l 2) [116,101,120,116]&&tT (aA x.l 3) [52,46,48])))))
def ud (x:Js):Bool:=cm x.k 6&&(cm (x.l.length:Nat) 2&&(tT (aA x.l 0) Pz&&cm (aA x.l 1).k 6))
def jg (l:List Js):Crd:=⟨4,(l.drop 1).map xU⟩
def PE:Err->Err
 |.at e p=>.at e (p+1)
 |e=>e
def NY (l:List Js):Err:=tW (λi=>(gM (aA l (i+1))).e) (l.length-1)
def th (l:List Js):Err:=match NY l with
 |.none=>PE (jg l).E
 |e=>PE e
noncomputable def Js.fE (x:Js):Err:=if kM 12 x≠0 then .errno (kM 12 x) else if ud x=false then .errno 3 else if(aA x.l 1).l.length=0\/mf (aA (aA x.l 1).l 0)=false then .at 3 0 else th (aA x.l 1).l
noncomputable def Js.fC (x:Js):Crd:=match x.fE with
 |.none=>jg (aA x.l 1).l
 |_=>⟨0,[]⟩
theorem lk {x:Js}:strB x=true↔x.k=5:=bP
theorem vl {x:Js}:strB x=false↔x.k≠5:=fV
theorem vr {x:Js}(h:strB x=true):dl x=true/\bp x=[x.t]:=by
 unfold dl bp;rw[h,if_pos rfl];exact⟨rfl,rfl⟩
theorem vw {x:Js}(h:strB x=false)(ha:x.l.all strB=false):dl x=false/\bp x=[]:=by
 unfold dl bp;rw[h,ha];simp
theorem vx {x:Js}(h:strB x=false)(ha:x.l.all strB=true):dl x=(cm x.k 6&&decide (1<x.l.length))/\bp x=x.l.map Js.t:=by
 unfold dl bp;rw[h,ha];simp
theorem mN {l:List Js}{i:Nat}(h:i<l.length):aA l i=l[i]:=by
 rw[aA,List.getD_eq_getElem?_getD,List.getElem?_eq_getElem h];rfl
theorem su {l:List Js}{f:Js->Bool}(h:∀j,j<l.length->f (aA l j)=true):l.all f=true:=by
 rw[List.all_eq_true];intro x hx;obtain⟨i,hi,rfl⟩:=List.getElem_of_mem hx;have:=h i hi;rwa [mN hi] at this
theorem A8 {l:List Js}{f:Js->Bool}{j:Nat}(hj:j<l.length)(h:f (aA l j)=false):l.all f=false:=by
 cases ha:l.all f with
 |false=>rfl
 |true=>
  rw[List.all_eq_true] at ha;have:=ha _ (List.getElem_mem hj);rw[mN hj,this] at h;cases h
theorem k9 {x:Js}{j:Nat}(hj:j<x.ks.length)(h:ss x j=true):nb x=true:=by
 unfold nb;rw[List.any_eq_true];exact⟨j,List.mem_range.2 hj,h⟩
theorem Nq {x:Js}(h:∀j,j<x.ks.length->ss x j=false):nb x=false:=by
 cases hk:nb x with
 |false=>rfl
 |true=>
  unfold nb at hk;rw[List.any_eq_true] at hk;obtain⟨j,h1,h2⟩:=hk;rw[h j (List.mem_range.1 h1)] at h2;cases h2
theorem Ns (x:Js)(k:Nat):eM x (k+1)=if aS (x.ks.getD k []) qS=true then(bp (aA x.l k)).getD 0 [] else eM x k:=rfl
theorem Nr (x:Js)(k:Nat):ek x (k+1)=ek x k++if aS (x.ks.getD k []) qS=true then[] else[⟨al 97 122 (-32) (x.ks.getD k []),bp (aA x.l k)⟩]:=rfl
theorem Nu {x:Js}{k:Nat}(h:aS (x.ks.getD k []) qS=true):eM x (k+1)=(bp (aA x.l k)).getD 0 []/\ek x (k+1)=ek x k:=by
 rw[Ns,Nr,if_pos h,if_pos h,List.append_nil];exact⟨rfl,rfl⟩
theorem Nt {x:Js}{k:Nat}(h:aS (x.ks.getD k []) qS=false):eM x (k+1)=eM x k/\ek x (k+1)=ek x k++[⟨al 97 122 (-32) (x.ks.getD k []),bp (aA x.l k)⟩]:=by
 have h:¬aS (x.ks.getD k []) qS=true:=by rw[h];decide
 rw[Ns,Nr,if_neg h,if_neg h];exact⟨rfl,rfl⟩
theorem lR (x:Js):∀k,(ek x k).length<=k
 |0=>Nat.le_refl _
 |k+1=>by
  have ih:=lR x k;rw[ek,List.length_append];split<;>simp only[List.length_nil,List.length_cons]<;>omega
theorem Pu (s:List UInt8):kS s 8=dk s:=by
 by_cases h1:s=[116,101,120,116]
 ·subst h1;decide+kernel
 by_cases h4:s=[117,114,105]
 ·subst h4;decide+kernel
 by_cases h5:s=[100,97,116,101,45,97,110,100,45,111,114,45,116,105,109,101]
 ·subst h5;decide+kernel
 by_cases h6:s=[117,116,99,45,111,102,102,115,101,116]
 ·subst h6;decide+kernel
 by_cases h7:s=[108,97,110,103,117,97,103,101,45,116,97,103]
 ·subst h7;decide+kernel
 by_cases h8:s=[117,110,107,110,111,119,110]
 ·subst h8;decide+kernel
 have g (t:List UInt8) (h:s≠t):aS t s=false:=du.2 λk=>h k.symm;have g2 (t:List UInt8) (h:s≠t):aS s t=false:=du.2 h;have k1:iC 1=[116,101,120,116]:=by decide+kernel
 have k2:iC 2=[116,101,120,116]:=by decide+kernel
 have k3:iC 3=[116,101,120,116]:=by decide+kernel
 have k4:iC 4=[117,114,105]:=by decide+kernel
 have k5:iC 5=[100,97,116,101,45,97,110,100,45,111,114,45,116,105,109,101]:=by decide+kernel
 have k6:iC 6=[117,116,99,45,111,102,102,115,101,116]:=by decide+kernel
 have k7:iC 7=[108,97,110,103,117,97,103,101,45,116,97,103]:=by decide+kernel
 have k8:iC 8=[117,110,107,110,111,119,110]:=by decide+kernel
 have hd:kS s 8=0:=by
  have d (j:Nat) (t:List UInt8) (hk:iC (8-(j:Int))=t) (ht:s≠t):kS s (j+1)=kS s j:=by
   rw[kS,hk,g t ht];rfl
  rw[d 7 _ k1 h1,d 6 _ k2 h1,d 5 _ k3 h1,d 4 _ k4 h4,d 3 _ k5 h5,d 2 _ k6 h6,d 1 _ k7 h7,d 0 _ k8 h8];rfl
 have hk:dk s=0:=by
  unfold dk jc K5;simp only[dx,g2 _ h1,g2 _ h4,g2 _ h5,g2 _ h6,g2 _ h7,g2 _ h8,Bool.false_eq_true,if_false]
 rw[hd,hk]
end
section
theorem Rm {G:Glo}{f:FuncId}{avs:List AVal}{k:Int}{t:List UInt8}(d:Nat)(h:aj prog G f avs (.agg [.int .i64 k,.str t,jN,jN])):aj prog G f avs (.agg (Js.C d (.mk k t [] []))):=
 dC h (by
  rintro _ _ ⟨rfl,rfl⟩ C R w e hm ⟨y,rfl,hy⟩;exact⟨R,hm,y,rfl,QW (x:=.mk k t [] []) rfl rfl hy⟩)
theorem Rn {G:Glo}{f:FuncId}{avs:List AVal}{k:Int}{l:List Js}{t:List UInt8}(d:Nat)(h:aj prog G f avs (.agg [.int .i64 k,.str t,jN,.list 4 l.length (kR d l)])):aj prog G f avs (.agg (Js.C d (.mk k t [] l))):=
 dC h (by
  rintro _ _ ⟨rfl,rfl⟩ C R w e hm ⟨y,rfl,hy⟩;exact⟨R,hm,y,rfl,jn (p:=2) (a':=.list 1 0 (ay [])) (Seal.le_refl R) hy rfl (λv=>g7)⟩)
section
variable {C:Ctx} {n:Nat} {e:Env} {h:Heap}
theorem Ck {i k j sz m:Nat}{v:Value}{eT:Option TypeId}{cs:List AVal}(f:Nat->AVal)(hi:h[i]? =some (.row v eT sz m cs))(hk:Env.get e k=some (.own j v))(hf:∀j,j<m->(f j).cells=(cs.drop (j*sz)).take sz/\(f j).plain=true):
  To C n e h ((k,.list sz m f)::e) (h.set i fp):=λR a w hm hfs=>by
 obtain⟨R',hle,hm',hr⟩:=MS.seal_row (hm.perm (fI hi)) hf;refine⟨R',hle,(hm'.ghost 1).perm (i6 fp hi),?_⟩;have hf':=hfs.mono hle;refine⟨λt x ht=> ?_,hf'.size,hf'.defers⟩;simp only[Env.get] at ht;split at ht
 ·rename_i hb;have:=Nat.eq_of_beq_eq_true hb;subst this;simp only[Option.some.injEq] at ht;subst ht;obtain⟨y,hy,hr'⟩:=hf'.fr k _ hk;refine⟨y,hy,?_⟩;rw[(a7.1 hr').1];exact hr
 ·exact hf'.fr t x ht
end
attribute [local irreducible] bN aw aa aC bg ab ae
theorem Qm {G:Glo}(d:Nat)(s:List UInt8):aj prog G 13 [.str s] (.agg (Js.C d (sJ s))):=by
 refine Rm d ?_;refine ao func13 call13 λC hC hGL=> ?_;exact ba
theorem Qo {G:Glo}(d:Nat)(l:List Js):aj prog G 14 [.list 4 l.length (kR d l)] (.agg (Js.C d (aJ l))):=by
 refine Rn d ?_;refine ao func14 call14 λC hC hGL=> ?_;exact ba
theorem Mm {G:Glo}(d:Nat)(l:List Js)(g:Nat->AVal)(hg:∀R i,i<l.length->∀vs,bh R (g i) vs->bh R (kR d l i) vs):aj prog G 14 [.list 4 l.length g] (.agg (Js.C d (aJ l))):=Bp (Qo d l) λR _ h=>Jx (k:=0) (hg R) rfl h
theorem I7 {R:Seal}{d:Nat}{k:Int}{t:List UInt8}{vs:List Value}(h:bh R (.agg [.int .i64 k,.str t,jN,jN]) vs):bh R (.agg (Js.C d (.mk k t [] []))) vs:=
 lK (p:=3) (a':=.list 4 0 (kR d [])) (λ_=>g7) (lK (p:=2) (a':=.list 1 0 (ay [])) (λ_=>g7) h rfl) rfl
theorem IV {R:Seal}{d i:Nat}(hi:i<4){vs:List Value}(h:bh R (bq [(0,.agg (Js.C d (sJ [118,101,114,115,105,111,110]))),(1,.agg [.int .i64 7,.str [],jN,jN]),(2,.agg (Js.C d (sJ [116,101,120,116]))),(3,.agg (Js.C d (sJ [52,46,48])))] i) vs):bh R (kR (d+1) [sJ [118,101,114,115,105,111,110],.mk 7 [] [] [],sJ [116,101,120,116],sJ [52,46,48]] i) vs:=by
 rcases(show i=0\/i=1\/i=2\/i=3 by omega) with rfl|rfl|rfl|rfl
 ·exact h
 ·exact I7 h
 ·exact h
 ·exact h
theorem Ql {G:Glo}(d:Nat):aj prog G 14 [.list 4 4 (bq [(0,.agg (Js.C d (sJ [118,101,114,115,105,111,110]))),(1,.agg [.int .i64 7,.str [],jN,jN]),(2,.agg (Js.C d (sJ [116,101,120,116]))),(3,.agg (Js.C d (sJ [52,46,48])))])] (.agg (Js.C (d+1) oL)):=
 Mm (d+1) [sJ [118,101,114,115,105,111,110],.mk 7 [] [] [],sJ [116,101,120,116],sJ [52,46,48]] _ λ_ _ hi _ h=>IV hi h
end
section
theorem rO {l:List Js}{k:Nat}(h:k<l.length):(l.take (k+1)).map Js.t=(l.take k).map Js.t++[(aA l k).t]:=by
 rw[List.take_succ_eq_append_getElem h,List.map_append,aA,List.getD_eq_getElem?_getD,List.getElem?_eq_getElem h];rfl
theorem ML {t:List UInt8}{b:AVal}:tu (.ret (.tuple [.list 1 1 (bq [(0,.str t)]),b])) [] (.tuple [.list 1 1 (ay [t]),b]):=by
 rintro C R w e' hm ⟨x,rfl,hx⟩;refine⟨R,hm,x,rfl,jX (Seal.le_refl R) hx λu hu=> ?_⟩;obtain⟨h1,h2⟩:=hu;refine⟨?_,h2⟩;obtain⟨a,cap,e,_⟩:=id h1;rw[e] at h1 ⊢;exact kq (n:=1) (λi hi=>by
  obtain rfl:i=0:=by omega
  rfl) h1
attribute [local irreducible] bN aw aa aC bg ab ae
attribute [local irreducible] bc
theorem Id {G:Glo}(d:Nat)(x:Js)(s:List UInt8):aj prog G 22 [Js.R d x,.str s] (.bool (tT x s)):=by
 have e:tT x s=(cm x.k 5&&aS x.t s):=rfl;rw[e];unfold Js.R;by_cases h:x.k=5
 ·rw[bP.2 h,Bool.true_and];refine ao func22 call22 λC hC hGL=> ?_;exact ba
 ·rw[fV.2 h,Bool.false_and];refine ao func22 call22 λC hC hGL=> ?_;exact ba
theorem Ic {G:Glo}(d:Nat)(x:Js)(hd:Js.le d x)(hl:x.l.length<=1000000000):aj prog G 44 [Js.R d x] (.tuple [.list 1 (bp x).length (ay (bp x)),.bool (dl x)]):=by
 unfold Js.R;cases hs:strB x with
 |true=>
  obtain⟨e1,e2⟩:=vr hs;have hk:=lk.1 hs;rw[e1,e2];refine dC (H:=[]) (Qf:=λr H=>r= .ret (.tuple [.list 1 1 (bq [(0,.str x.t)]),.bool true])/\H=[]) ?_ (λr H h=>by obtain⟨rfl,rfl⟩:=h;exact ML);refine ao func44 call44 λC hC hGL=> ?_;exact ba
 |false=>
  have hk:=vl.1 hs;cases ha:x.l.all strB with
  |true=>
   obtain⟨e1,e2⟩:=vx hs ha;rw[e1,e2];have hst:∀k,k<x.l.length->(aA x.l k).k=5:=λk h=>lk.1 (by
    rw[List.all_eq_true] at ha;exact ha _ (by rw[mN h];exact List.getElem_mem h))
   have hlm:(x.l.map Js.t).length=x.l.length:=by rw[List.length_map]
   rw[hlm];have hq:decide (1<x.l.length)=lx 1 (x.l.length:Nat):=by
    by_cases h:1<x.l.length
    ·rw[decide_eq_true h,nE.2 (by omega)]
    ·rw[decide_eq_false h,mW.2 (by omega)]
   have hb:(cm x.k 6&&decide (1<x.l.length))=(if x.k=6 then lx 1 (x.l.length:Nat) else false):=by
    rw[hq];by_cases h:x.k=6
    ·rw[if_pos h,bP.2 h,Bool.true_and]
    ·rw[if_neg h,fV.2 h,Bool.false_and]
   rw[hb];refine jP (λa=>.tuple [a,.bool (if x.k=6 then lx 1 (x.l.length:Nat) else false)]) (we _) (ay (x.l.map Js.t)) (λi hi=>eq (x.l.map Js.t) i (by rw[List.length_map];exact hi)) (cs:=bc (x.l.map Js.t)) (eT:=none) ?_;refine ao func44 call44 λC hC hGL=> ?_;refine a6 ?_;intros;refine gv 4 1 rfl ?_;refine lp hC hGL (λz:Nat×Value=>[(1,.rop (Js.C d x) 0),(4,.own 0 z.2),(14,.list 4 x.l.length (kR d x.l)),(15,.int .i64 (x.l.length:Nat)),(16,.int .i64 (z.1:Nat))]) (λz=>[.row z.2 none 1 z.1 (bc ((x.l.take z.1).map Js.t))]) (λz=>z.1<=x.l.length) (λz=>x.l.length-z.1) (0,.slice none 0 0) (Nat.zero_le _) ad (by dsimp only;rw[List.take_zero];unfold bc;rfl) ?_;rintro⟨k,v⟩ k1;have k1:k<=x.l.length:=k1;dsimp only
   by_cases hlt:k<x.l.length
   ·obtain⟨e,rfl,he⟩:=e8 hd hlt;have h5:=hst k hlt;refine a6 ?_;intro _ va vk vc;intros;refine cJ (k+1,Value.slice va vk vc) hlt (by show x.l.length-(k+1)<x.l.length-k;omega) ad ?_;dsimp only
    rw[rO hlt,<-bJ];exact .cons_cons _ (List.nil_sublist _)
   ·obtain rfl:k=x.l.length:=by omega
    rw[List.take_length];by_cases h6:x.k=6
    ·rw[if_pos h6];refine a6 ?_;intros;exact⟨_,.refl _,0,v,rfl,rfl⟩
    ·rw[if_neg h6];refine a6 ?_;intros;exact⟨_,.refl _,0,v,rfl,rfl⟩
  |false=>
   obtain⟨e1,e2⟩:=vw hs ha;rw[e1,e2];refine dC (H:=[]) (Qf:=λr H=>r= .ret (.tuple [.raw (.slice none 0 0),.bool false])/\H=[]) ?_ (λr H h=>by obtain⟨rfl,rfl⟩:=h;exact uq);refine ao func44 call44 λC hC hGL=> ?_;refine a6 ?_;intros;refine gv 4 1 rfl ?_;refine lp hC hGL (λz:Nat×Value=>[(1,.rop (Js.C d x) 0),(4,.own 0 z.2),(14,.list 4 x.l.length (kR d x.l)),(15,.int .i64 (x.l.length:Nat)),(16,.int .i64 (z.1:Nat))]) (λz=>[.row z.2 none 1 z.1 (bc ((x.l.take z.1).map Js.t))]) (λz=>z.1<=x.l.length/\∀j,j<z.1->strB (aA x.l j)=true) (λz=>x.l.length-z.1) (0,.slice none 0 0) ⟨Nat.zero_le _,λj h=>absurd h (Nat.not_lt_zero _)⟩ ad (by dsimp only;rw[List.take_zero];unfold bc;rfl) ?_;rintro⟨k,v⟩ ⟨k1,k2⟩;have k1:k<=x.l.length:=k1;have k2:∀j,j<k->strB (aA x.l j)=true:=k2;dsimp only
   by_cases hlt:k<x.l.length
   ·obtain⟨e,rfl,he⟩:=e8 hd hlt;by_cases h5:(aA x.l k).k=5
    ·refine a6 ?_;intro _ va vk vc;intros;refine cJ (k+1,Value.slice va vk vc) ⟨hlt,aV k2 (lk.2 h5)⟩ (by show x.l.length-(k+1)<x.l.length-k;omega) ad ?_;dsimp only
     rw[rO hlt,<-bJ];exact .cons_cons _ (List.nil_sublist _)
    ·exact ba
   ·obtain rfl:k=x.l.length:=by omega
    rw[su k2] at ha;cases ha
end
end Go.Proofs.YtpgdnpielhfpgaaGreatDoor
