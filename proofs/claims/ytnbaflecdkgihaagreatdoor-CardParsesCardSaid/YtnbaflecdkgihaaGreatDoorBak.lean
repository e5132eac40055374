/- Parts of the proof of cardParses_card. -/
import Derived.Lib.AtoiAll
import Derived.Test.YtnbaflecdkgihaaGreatDoorBaj
set_option linter.unusedVariables false
set_option linter.unusedSimpArgs false
set_option linter.unusedSectionVars false
namespace Go.Proofs.YtnbaflecdkgihaaGreatDoor
open Go Go.RowKit
open Tryz
set_option maxRecDepth 20000
set_option maxHeartbeats 4000000
section
def HB (f:Nat->Nat)(s:List UInt8):List UInt8:=s.map λc=>UInt8.ofNat (f c.toNat)
theorem kc (f:Nat->Nat)(s:List UInt8):(HB f s).length=s.length:=by simp[HB]
theorem uC {f:Nat->Nat}(hf:∀c,c<256->f c<256){s:List UInt8}{j:Nat}(h:j<s.length):aa (HB f s) j=f (aa s j):=by
 have e1:aa (HB f s) j=(UInt8.ofNat (f s[j].toNat)).toNat:=by simp[aa,HB,List.getD,h]
 rw[e1,bn h,UInt8.toNat_ofNat'];have:=hf _ (UInt8.toNat_lt s[j]);omega
def Gl (f:Nat->Nat)(s:List UInt8)(x:Nat×List UInt8):Prop:=
 x.1<=s.length/\x.2.length=s.length/\∀j,j<s.length->aa x.2 j=if j<x.1 then f (aa s j) else aa s j
theorem Vz {f:Nat->Nat}{s:List UInt8}:Gl f s (0,s):=⟨Nat.zero_le _,rfl,λj _=>by rw[if_neg (by simp)]⟩
theorem JO {f:Nat->Nat}{s:List UInt8}{i:Nat}{t:List UInt8}(h:Gl f s (i,t))(hi:i<s.length):aa t i=aa s i:=by
 have:=h.2.2 i hi;rwa [if_neg (by simp)] at this
theorem O5 {f:Nat->Nat}{s:List UInt8}{i:Nat}{t:List UInt8}(h:Gl f s (i,t))(hi:i<s.length){m:Nat}(hm:m=f (aa s i))(h1:m<256):Gl f s (i+1,t.set i (UInt8.ofNat m)):=by
 obtain⟨h2,h3,h4⟩:=h;refine⟨hi,by simp only[F_];exact h3,λj hj=> ?_⟩;dsimp only at*
 have hb:aa (t.set i (UInt8.ofNat m)) j=if j=i then m else aa t j:=by
  unfold aa;by_cases e:j=i
  ·subst e;rw[if_pos rfl];simp only[List.getD,List.getElem?_set_self (show j<t.length by omega),Z_];rw[UInt8.toNat_ofNat'];omega
  ·rw[if_neg e];simp only[List.getD,M_ (Ne.symm e)]
 rw[hb];by_cases e:j=i
 ·subst e;rw[if_pos rfl,if_pos a_,hm]
 ·rw[if_neg e,h4 j hj];by_cases e2:j<i
  ·rw[if_pos e2,if_pos a_]
  ·rw[if_neg e2,if_neg a_]
theorem LS {f:Nat->Nat}{s:List UInt8}{i:Nat}{t:List UInt8}(h:Gl f s (i,t))(hi:i<s.length)(hm:f (aa s i)=aa s i):Gl f s (i+1,t):=by
 refine⟨hi,h.2.1,λj hj=> ?_⟩;have:=h.2.2 j hj;dsimp only at*
 rw[this];by_cases e:j=i
 ·subst e;rw[if_neg a_,if_pos a_,hm]
 ·by_cases e2:j<i
  ·rw[if_pos e2,if_pos a_]
  ·rw[if_neg e2,if_neg a_]
theorem O6 {f:Nat->Nat}(hf:∀c,c<256->f c<256){s:List UInt8}{i:Nat}{t:List UInt8}(h:Gl f s (i,t))(hi:s.length<=i):t=HB f s:=by
 refine lI (by rw[kc];exact h.2.1) (λj hj=> ?_);rw[kc] at hj;rw[uC hf hj,h.2.2 j hj,if_pos (show j<i by omega)]
def fO (c:Nat):Nat:=if 48<=c/\c<=57 then 57 else c
theorem EG:∀c,c<256->fO c<256:=by intro c h;unfold fO;split<;>omega
def aP (s:List UInt8):List UInt8:=HB fO s
def rc (c:Nat):Bool:=decide (48<=c/\c<=57)
theorem dt {c:Nat}:rc c=true↔(48<=c/\c<=57):=by simp[rc]
theorem gd {c:Nat}:fO c=57↔(48<=c/\c<=57):=by unfold fO;split<;>omega
theorem ny {c k:Nat}(h:¬(48<=k/\k<=57)):fO c=k↔c=k:=by unfold fO;split<;>omega
theorem jD {s:List UInt8}{j:Nat}(h:j<s.length):aa (aP s) j=fO (aa s j):=uC EG h
theorem Jh {s:List UInt8}:aP s=[90]↔s=[90]:=by
 constructor
 ·intro h;have hl:s.length=1:=by rw[<-kc fO s];exact congrArg List.length h
  have h0:=jD (s:=s) (j:=0) a_;rw[h] at h0;have h1:aa s 0=90:=(ny a_).1 h0.symm;exact lI (by rw[hl];rfl) (λj hj=>by
   have:j=0:=by simp at hj;omega
   subst this;rw[h1];rfl)
 ·rintro rfl;rfl
theorem pC {s:List UInt8}{k:Nat}(hk:¬(48<=k/\k<=57))(hk2:k<256):aP s=[UInt8.ofNat k,57,57]↔s.length=3/\aa s 0=k/\(48<=aa s 1/\aa s 1<=57)/\(48<=aa s 2/\aa s 2<=57):=by
 have hk3:aa [UInt8.ofNat k,57,57] 0=k:=by unfold aa;simp;omega
 constructor
 ·intro h;have hl:s.length=3:=by rw[<-kc fO s];exact congrArg List.length h
  have h0:=jD (s:=s) (j:=0) a_;have h1:=jD (s:=s) (j:=1) a_;have h2:=jD (s:=s) (j:=2) a_;rw[h] at h0 h1 h2;rw[hk3] at h0;exact⟨hl,(ny hk).1 h0.symm,gd.1 h1.symm,gd.1 h2.symm⟩
 ·rintro⟨hl,h0,h1,h2⟩;refine lI (by rw[show(aP s).length=_ from kc _ _,hl];rfl) (λj hj=> ?_);have hj:j<3:=hj;rw[jD a_]
  match j,hj with
  |0,_=>rw[hk3,h0,ny hk]
  |1,_=>exact gd.2 h1
  |2,_=>exact gd.2 h2
theorem rD {s:List UInt8}{k:Nat}(hk:¬(48<=k/\k<=57))(hk2:k<256):aP s=[UInt8.ofNat k,57,57,57,57]↔s.length=5/\aa s 0=k/\(48<=aa s 1/\aa s 1<=57)/\(48<=aa s 2/\aa s 2<=57)/\(48<=aa s 3/\aa s 3<=57)/\(48<=aa s 4/\aa s 4<=57):=by
 have hk3:aa [UInt8.ofNat k,57,57,57,57] 0=k:=by unfold aa;simp;omega
 constructor
 ·intro h;have hl:s.length=5:=by rw[<-kc fO s];exact congrArg List.length h
  have h0:=jD (s:=s) (j:=0) a_;have h1:=jD (s:=s) (j:=1) a_;have h2:=jD (s:=s) (j:=2) a_;have h3:=jD (s:=s) (j:=3) a_;have h4:=jD (s:=s) (j:=4) a_;rw[h] at h0 h1 h2 h3 h4;rw[hk3] at h0;exact⟨hl,(ny hk).1 h0.symm,gd.1 h1.symm,gd.1 h2.symm,gd.1 h3.symm,gd.1 h4.symm⟩
 ·rintro⟨hl,h0,h1,h2,h3,h4⟩;refine lI (by rw[show(aP s).length=_ from kc _ _,hl];rfl) (λj hj=> ?_);have hj:j<5:=hj;rw[jD a_]
  match j,hj with
  |0,_=>rw[hk3,h0,ny hk]
  |1,_=>exact gd.2 h1
  |2,_=>exact gd.2 h2
  |3,_=>exact gd.2 h3
  |4,_=>exact gd.2 h4
def L2 (neg:Bool)(h m:Int):Int×Int:=if 5<m/10\/840<60*h+m then(0,2) else(if neg then 0-(60*h+m) else 60*h+m,0)
def bR (s:List UInt8)(j:Nat):Int:=(aa s j:Int)-48
def bI (s:List UInt8):Int×Int:=
 if s=[90] then(0,0)
 else if s.length=3/\(aa s 0=43\/aa s 0=45)/\(rc (aa s 1)/\rc (aa s 2)) then L2 (decide (aa s 0=45)) (10*bR s 1+bR s 2) 0
 else if s.length=5/\(aa s 0=43\/aa s 0=45)/\(rc (aa s 1)/\rc (aa s 2)/\rc (aa s 3)/\rc (aa s 4)) then L2 (decide (aa s 0=45)) (10*bR s 1+bR s 2) (10*bR s 3+bR s 4)
 else(0,3)
def gP (s:List UInt8):Err:=if(bI s).2=0 then .none else .errno (bI s).2
attribute [local irreducible] bG au aa az aR ab ad
theorem tf {G:Glo}(s:List UInt8)(hl:s.length<=9223372036854775807):ak prog G 134 [.str s] (.str (aP s)):=by
 refine ax func134 call134 λC hC hGL=> ?_;have hw:=λc=>fF (G:=G) c 48 57;refine aK ?_;intro bl cap;intros;refine lp hC hGL (λ(x:Nat×List UInt8)=>[(3,.own 0 (.slice (some ⟨bl,0,none⟩) s.length cap)),(8,.int .i64 s.length),(9,.int .i64 x.1)]) (λx=>[.buf bl x.2 cap]) (Gl fO s) (λx=>s.length-x.1) (0,s) ?_ ah rfl ?_
 ·exact Vz
 rintro⟨i,t⟩ hI;have hi:=hI.1;have ht:=hI.2.1;dsimp only at hi ht ⊢;have k1:=@hw;refine xw ?_;repeat' first|exact .n|apply Lc.mk
 all_goals intros
 ·rename_i hb;have e:=JO hI a_;rw[e,l_,n_,n_] at hb;refine cQ (i+1,t.set i (UInt8.ofNat 57)) ?_ ?_ ah rfl
  ·exact O5 hI a_ (by unfold fO;rw[if_pos a_]) a_
  ·dsimp only;omega
 ·rename_i hb;have e:=JO hI a_;rw[e,Vr,YU,YU] at hb;refine cQ (i+1,t) ?_ ?_ ah rfl
  ·exact LS hI a_ (by unfold fO;rw[if_neg a_])
  ·dsimp only;omega
 ·apply aj;rw[O6 EG hI a_];rfl
attribute [local irreducible] rc aP
theorem W5 {s:List UInt8}{v:Int}{H':Heap}(h:bI s=(v,0)):Rt (λ(x:ct) (H:Heap)=>x= .ret (.tuple [.int .i64 (bI s).1,(gP s).A])/\H=[]) (.tuple [.int .i64 v,.raw .nilIface]) H':=by
 apply aj;unfold gP;rw[h,if_pos rfl];rfl
theorem W6 {s:List UInt8}{e:Int}{H':Heap}(h:bI s=(0,e))(he:e≠0):Rt (λ(x:ct) (H:Heap)=>x= .ret (.tuple [.int .i64 (bI s).1,(gP s).A])/\H=[]) (.tuple [.int .i64 0,.iface 25 (.int .i64 e)]) H':=by
 apply aj;unfold gP;rw[h,if_neg he];rfl
theorem vM {G:Glo}(s:List UInt8)(hl:s.length<=9223372036854775807):ak prog G 104 [.str s] (.tuple [.int .i64 (bI s).1,(gP s).A]):=by
  refine ax func104 call104 λC hC hGL=> ?_;repeat' (first|(conv=>whnf);first|refine .w ?_|refine .v ?_|refine eh ?_ ?_<;>(intro hb;try exact dd hb)|apply aT|apply bM|(apply cR<;>intro hb)|(apply cX;intro hbd)|(apply cY;intro bl)|(apply dv;intro va vk vc hva)|(apply du;intro v)|(apply dw;intro bl cap hcap)|apply dI|(apply dq<;>intro hnx)|apply d8 mixed hC hGL be|(show Rt _ _ _;exact cP)|fail)
  all_goals try conv=>whnf
  any_goals (refine mQ hC hGL 5 ?_)
  repeat' (first|(conv=>whnf);first|refine .w ?_|refine .v ?_|refine eh ?_ ?_<;>(intro hb;try exact dd hb)|apply aT|apply bM|(apply cR<;>intro hb)|(apply cX;intro hbd)|(apply cY;intro bl)|(apply dv;intro va vk vc hva)|(apply du;intro v)|(apply dw;intro bl cap hcap)|apply dI|(apply dq<;>intro hnx)|apply d8 mixed hC hGL be|(show Rt _ _ _;exact cP)|fail)
  all_goals try conv=>whnf
  all_goals first
    | (refine W6 ?_ b_
       try simp only[Nat.zero_add,Nat.reduceAdd] at*
       unfold bI L2 bR
       rw[if_neg (by assumption)]
       simp only[dt,n_]
       (repeat' split)<;>simp only[YV,and_true,true_and]<;>omega)
    |(refine W5 ?_;unfold bI;rw[if_pos (by assumption)];done)
    |skip
  all_goals (
    refine W5 ?_
    try simp only[Nat.zero_add,Nat.reduceAdd] at*
    unfold bI L2 bR
    rw[if_neg (by assumption)]
    simp only[dt,n_]
    (repeat' split)<;>simp only[YV,and_true,true_and]<;>omega)
theorem Ta:∀a b:Fin 10,Lib.atoiAll [UInt8.ofNat (48+a.1),UInt8.ofNat (48+b.1)]= .ok ((10*a.1+b.1:Nat):Int):=by decide
theorem yH {G:Glo}(s:List UInt8)(hl:s.length=2)(h0:48<=aa s 0/\aa s 0<=57)(h1:48<=aa s 1/\aa s 1<=57):ak prog G 117 [.str s] (.tuple [.int .i64 (10*bR s 0+bR s 1),.raw .nilIface]):=by
 have e:s=[UInt8.ofNat (48+(aa s 0-48)),UInt8.ofNat (48+(aa s 1-48))]:=by
  refine List.ext_getElem (by rw[hl];rfl) (λj j1 j2=> ?_);have hj:j<2:=by simpa using j2
  match j,hj with
  |0,_=>
   simp only[List.getElem_cons_zero];rw[show 48+(aa s 0-48)=aa s 0 by omega,bn a_];simp
  |1,_=>
   simp only[List.getElem_cons_succ,List.getElem_cons_zero]
   rw[show 48+(aa s 1-48)=aa s 1 by omega,bn a_]
   simp
 have ha:=Ta ⟨aa s 0-48,a_⟩ ⟨aa s 1-48,a_⟩;simp only at ha;rw[<-e] at ha;have ev:((10*(aa s 0-48)+(aa s 1-48):Nat):Int)=10*bR s 0+bR s 1:=by unfold bR;omega
 rw[ev] at ha
 refine ik (.tuple #[.int .i64 (10*bR s 0+bR s 1),.nilIface]) (λR=>mO (aq.2 rfl) (ar.2 rfl)) call117 ?_
 intro R args hr w _ _
 obtain⟨x,t,e',hx,rfl⟩:=hr
 obtain rfl:=aD.1 hx
 obtain rfl:=fK e'
 refine(strconv_Atoi_ok ⟨s.toArray⟩ (by rw[bH];omega) _ (by simpa using ha) w).mono ?_
 rintro e w' ⟨rfl,hw⟩
 refine⟨rfl,?_⟩
 rcases hw with rfl|⟨t,rfl⟩
 ·exact Below.refl _ _
 ·exact⟨rfl,rfl,rfl,by rw[Lib.bytesWorld_size];omega,λk hk=>Lib.bytesWorld_at_old _ _ _ _ hk⟩
theorem fB {s:List UInt8}{k j:Nat}:aa (s.drop k) j=aa s (k+j):=by
 unfold aa;simp[List.getD,List.getElem?_drop]
theorem T9 {neg:Bool}{h m a b:Int}{H':Heap}(e:L2 neg h m=(a,b)):Rt (λ(x:ct) (H:Heap)=>x= .ret (.tuple [.int .i64 (L2 neg h m).1,.int .i64 (L2 neg h m).2])/\H=[]) (.tuple [.int .i64 a,.int .i64 b]) H':=by
 apply aj;rw[e]
theorem lu {G:Glo}(s:List UInt8)(hl:s.length=5)(hs:aa s 0=43\/aa s 0=45)(h1:48<=aa s 1/\aa s 1<=57)(h2:48<=aa s 2/\aa s 2<=57)(h3:48<=aa s 3/\aa s 3<=57)(h4:48<=aa s 4/\aa s 4<=57):
  ak prog G 78 [.str s] (.tuple [.int .i64 (L2 (decide (aa s 0=45)) (10*bR s 1+bR s 2) (10*bR s 3+bR s 4)).1,.int .i64 (L2 (decide (aa s 0=45)) (10*bR s 1+bR s 2) (10*bR s 3+bR s 4)).2]):=by
 refine ax func78 call78 λC hC hGL=> ?_;have hsh:=tf (G:=G) s a_;have e1:(s.take 3).drop 1=(s.drop 1).take 2:=by rw[List.take_drop]
 have a1:=yH (G:=G) ((s.take 3).drop 1) (by rw[k_,i_];omega) (by rw[fB,eQ a_];exact h1) (by rw[fB,eQ a_];exact h2);have a2:=yH (G:=G) (s.drop 3) (by rw[k_];omega) (by rw[fB];exact h3) (by rw[fB];exact h4);have d1:bR ((s.take 3).drop 1) 0=bR s 1:=by unfold bR;rw[fB,eQ a_]
 have d2:bR ((s.take 3).drop 1) 1=bR s 2:=by unfold bR;rw[fB,eQ a_]
 have d3:bR (s.drop 3) 0=bR s 3:=by unfold bR;rw[fB]
 have d4:bR (s.drop 3) 1=bR s 4:=by unfold bR;rw[fB]
 rw[d1,d2] at a1;rw[d3,d4] at a2;have g1:0<=bR s 1/\bR s 1<=9:=by unfold bR;omega
 have g2:0<=bR s 2/\bR s 2<=9:=by unfold bR;omega
 have g3:0<=bR s 3/\bR s 3<=9:=by unfold bR;omega
 have g4:0<=bR s 4/\bR s 4<=9:=by unfold bR;omega
 have hz:=λn=>jR (G:=G) n;rcases hs with hs|hs
 ·have hsp:aP s=[43,57,57,57,57]:=(rD (k:=43) a_ a_).2 ⟨hl,hs,h1,h2,h3,h4⟩;rw[hsp] at hsh;have k1:=@hz;refine xw ?_;repeat' first|exact .n|apply Lc.mk
  all_goals intros
  all_goals (
   refine T9 ?_
   try simp only[vJ,TO] at*
   unfold L2
   simp only[n_]
   (repeat' split)<;>first|(exfalso;omega)|exact rfl)
 ·have hsp:aP s=[45,57,57,57,57]:=(rD (k:=45) a_ a_).2 ⟨hl,hs,h1,h2,h3,h4⟩;rw[hsp] at hsh;have k1:=@hz;refine xw ?_;repeat' first|exact .n|apply Lc.mk
  all_goals intros
  all_goals (
   refine T9 ?_
   try simp only[vJ,TO] at*
   unfold L2
   simp only[n_]
   (repeat' split)<;>first|(exfalso;omega)|exact rfl)
theorem qu {G:Glo}(s:List UInt8)(hl:s.length<=9223372036854775000):ak prog G 78 [.str s] (.tuple [.int .i64 (bI s).1,.int .i64 (bI s).2]):=by
 by_cases h5:s.length=5/\(aa s 0=43\/aa s 0=45)/\(rc (aa s 1)/\rc (aa s 2)/\rc (aa s 3)/\rc (aa s 4))
 ·obtain⟨hl5,hs,h1,h2,h3,h4⟩:=h5;have e:bI s=L2 (decide (aa s 0=45)) (10*bR s 1+bR s 2) (10*bR s 3+bR s 4):=by
   unfold bI;rw[if_neg (by rintro rfl;simp at hl5),if_neg a_,if_pos ⟨hl5,hs,h1,h2,h3,h4⟩]
  rw[e];exact lu s hl5 hs (dt.1 h1) (dt.1 h2) (dt.1 h3) (dt.1 h4)
 have n43:aP s≠[43,57,57,57,57]:=λh=>by
  have h:=(rD (k:=43) a_ a_).1 h;exact h5 ⟨h.1,.inl h.2.1,dt.2 h.2.2.1,dt.2 h.2.2.2.1,dt.2 h.2.2.2.2.1,dt.2 h.2.2.2.2.2⟩
 have n45:aP s≠[45,57,57,57,57]:=λh=>by
  have h:=(rD (k:=45) a_ a_).1 h;exact h5 ⟨h.1,.inr h.2.1,dt.2 h.2.2.1,dt.2 h.2.2.2.1,dt.2 h.2.2.2.2.1,dt.2 h.2.2.2.2.2⟩
 refine ax func78 call78 λC hC hGL=> ?_;have hsh:=tf (G:=G) s a_;by_cases h3:s.length=3/\(aa s 0=43\/aa s 0=45)/\(rc (aa s 1)/\rc (aa s 2))
 ·obtain⟨hl3,hs,h1,h2⟩:=h3;have g:∀j,j<3->aa (s++[48,48]) j=aa s j:=λj hj=>by unfold aa;simp[List.getD,List.getElem?_append,show j<s.length by omega]
  have g3:aa (s++[48,48]) 3=48:=by unfold aa;simp[List.getD,List.getElem?_append,hl3]
  have g4:aa (s++[48,48]) 4=48:=by unfold aa;simp[List.getD,List.getElem?_append,hl3]
  have hr:=lu (G:=G) (s++[48,48]) (by rw[d_,hl3];rfl) (by rw[g 0 a_];exact hs) (by rw[g 1 a_];exact dt.1 h1) (by rw[g 2 a_];exact dt.1 h2) (by rw[g3];omega) (by rw[g4];omega);have d1:bR (s++[48,48]) 1=bR s 1:=by unfold bR;rw[g 1 a_]
  have d2:bR (s++[48,48]) 2=bR s 2:=by unfold bR;rw[g 2 a_]
  have d3:bR (s++[48,48]) 3=0:=by unfold bR;rw[g3];rfl
  have d4:bR (s++[48,48]) 4=0:=by unfold bR;rw[g4];rfl
  have e:bI s=L2 (decide (aa s 0=45)) (10*bR s 1+bR s 2) 0:=by
   unfold bI;rw[if_neg (by rintro rfl;simp at hl3),if_pos ⟨hl3,hs,h1,h2⟩]
  rw[d1,d2,d3,d4,g 0 a_,show(10*0+0:Int)=0 from rfl,<-e] at hr;have hsh':aP s=[43,57,57]\/aP s=[45,57,57]:=by
   rcases hs with hs|hs
   ·exact .inl ((pC (k:=43) a_ a_).2 ⟨hl3,hs,dt.1 h1,dt.1 h2⟩)
   ·exact .inr ((pC (k:=45) a_ a_).2 ⟨hl3,hs,dt.1 h1,dt.1 h2⟩)
  rcases hsh' with hsh'|hsh'
  all_goals (
   rw[hsh'] at hsh
   repeat' (first|(conv=>whnf);first|refine .w ?_|refine .v ?_|refine eh ?_ ?_<;>(intro hb;try exact dd hb)|apply aT|apply bM|(apply cR<;>intro hb)|(apply cX;intro hbd)|(apply bD;first|exact hsh|exact hr)|(apply aV (i:=0) rfl;first|exact hsh|exact hr)|(apply cY;intro bl)|(apply dv;intro va vk vc hva)|(apply du;intro v)|(apply dw;intro bl cap hcap)|apply dI|(apply dq<;>intro hnx)|apply d8 mixed hC hGL be|(apply cq;assumption;(first|exact hsh|exact hr);exact rfl)|(show Rt _ _ _;exact cP)|fail)
   all_goals try conv=>whnf)
 have m43:aP s≠[43,57,57]:=λh=>by
  have h:=(pC (k:=43) a_ a_).1 h;exact h3 ⟨h.1,.inl h.2.1,dt.2 h.2.2.1,dt.2 h.2.2.2⟩
 have m45:aP s≠[45,57,57]:=λh=>by
  have h:=(pC (k:=45) a_ a_).1 h;exact h3 ⟨h.1,.inr h.2.1,dt.2 h.2.2.1,dt.2 h.2.2.2⟩
 have e:bI s=if s=[90] then(0,0) else(0,3):=by
  unfold bI;rw[if_neg h3,if_neg h5]
 rw[e];refine xw ?_;repeat' first|exact .n|apply Lc.mk
 all_goals intros
 ·apply aj;rw[if_pos (Jh.1 (by assumption))];rfl
 ·apply aj;rw[if_neg (λh=>absurd (Jh.2 h) (by assumption))];rfl
end
section
theorem rC (s:List UInt8):(aP s).length=s.length:=kc _ _
theorem ec {s u:List UInt8}(h:aP s=u):s.length=u.length/\∀i,i<u.length->fO (aa s i)=aa u i:=by
 subst h;refine⟨(rC s).symm,λi hi=> ?_⟩;rw[rC] at hi;exact(jD hi).symm
theorem gY {s:List UInt8}{n i:Nat}(h:i<n):aa (s.take n) i=aa s i:=by
 unfold aa;simp[List.getD,List.getElem?_take_of_lt h]
theorem cW {s:List UInt8}{n i:Nat}:aa (s.drop n) i=aa s (n+i):=by
 unfold aa;simp[List.getD]
theorem CH {j:Nat}(h1:1<=j)(h6:j<=6):2<=(aX j).length/\(aX j).length<=6:=by
 rcases(show j=1\/j=2\/j=3\/j=4\/j=5\/j=6 by omega) with rfl|rfl|rfl|rfl|rfl|rfl<;>decide
theorem Qw {j:Nat}(h1:1<=j)(h6:j<=6):∀i,i<(aX j).length->aa (aX j) i=57\/(aa (aX j) i=45/\i<2):=by
 rcases(show j=1\/j=2\/j=3\/j=4\/j=5\/j=6 by omega) with rfl|rfl|rfl|rfl|rfl|rfl<;>decide
theorem KF {j k:Nat}(h1:1<=j)(h6:j<=6)(g1:1<=k)(g6:k<=6)(h:aX j=aX k):j=k:=by
 rcases(show j=1\/j=2\/j=3\/j=4\/j=5\/j=6 by omega) with rfl|rfl|rfl|rfl|rfl|rfl<;>
  rcases(show k=1\/k=2\/k=3\/k=4\/k=5\/k=6 by omega) with rfl|rfl|rfl|rfl|rfl|rfl<;>first|rfl|(revert h;decide)
structure dh (t:List UInt8) (j n:Nat):Prop where
 j1:1<=j
 j6:j<=6
 hn:n<=t.length
 hs:aP (t.take n)=aX j
 hz:n=t.length\/aa t n=90\/aa t n=43\/aa t n=45
theorem dh.len {t:List UInt8}{j n:Nat}(h:dh t j n):n=(aX j).length:=by
 have:=(ec h.hs).1;rw[i_] at this;have:=h.hn;omega
theorem dh.at {t:List UInt8}{j n:Nat}(h:dh t j n):∀i,i<n->(48<=aa t i/\aa t i<=57)\/(aa t i=45/\i<2):=by
 intro i hi;have h1:=(ec h.hs).2 i (by rw[<-h.len];exact hi);rw[gY hi] at h1;rcases Qw h.j1 h.j6 i (by rw[<-h.len];exact hi) with k|⟨k,k2⟩
 ·rw[k] at h1;exact .inl (gd.1 h1)
 ·rw[k] at h1;exact .inr ⟨(ny a_).1 h1,k2⟩
theorem dh.uniq {t:List UInt8}{j n j' n':Nat}(h:dh t j n)(g:dh t j' n'):j=j'/\n=n':=by
 have key:∀{j n j' n':Nat},dh t j n->dh t j' n'->¬n<n':=by
  intro j n j' n' h g hlt;have h2:=(CH h.j1 h.j6).1;rw[<-h.len] at h2;have h3:=g.at n hlt;have h4:=g.hn;have h5:=h.hz;omega
 have e:n=n':=by
  have h1:=key h g;have h2:=key g h;omega
 subst e;exact⟨KF h.j1 h.j6 g.j1 g.j6 (h.hs.symm.trans g.hs),rfl⟩
def KO (t:List UInt8)(k:Nat):Prop:=
 (k<t.length/\(aa t k=90\/aa t k=43)/\∀j,j<k->aa t j≠90/\aa t j≠43)\/
 ((∀j,j<t.length->aa t j≠90/\aa t j≠43)/\((k<t.length/\2<=k/\aa t k=45/\∀j,k<j->j<t.length->aa t j≠45)\/(k=t.length/\∀j,2<=j->j<t.length->aa t j≠45)))
theorem HQ {t:List UInt8}{k:Nat}(h:KO t k):k<=t.length:=by
 unfold KO at h;omega
theorem Da {z:List UInt8}{m:Nat}(h0:aa z 0=45)(hm:0<m)(hl:m<z.length)(h:aa z m=90\/aa z m=43\/aa z m=45):bI z=(0,3):=by
 unfold bI;rw[if_neg (by rintro rfl;exact absurd h0 b_),if_neg,if_neg]
 ·rintro⟨h1, -,h2,h3,h4,h5⟩;rw[dt] at h2 h3 h4 h5;rcases(show m=1\/m=2\/m=3\/m=4 by omega) with rfl|rfl|rfl|rfl<;>omega
 ·rintro⟨h1, -,h2,h3⟩;rw[dt] at h2 h3;rcases(show m=1\/m=2 by omega) with rfl|rfl<;>omega
theorem Yu {t:List UInt8}{j n k:Nat}(h:dh t j n)(hk:KO t k):k=n\/(n<t.length/\bI (t.drop n)=(0,3)/\∀j',1<=j'->j'<=6->aP (t.take k)≠aX j'):=by
 have hat:=h.at
 have hn:=h.hn;have hz:=h.hz;have h2:=(CH h.j1 h.j6).1;rw[<-h.len] at h2;have hkl:=HQ hk;have nok:n<k->n<t.length->aa t n=45->∀j',1<=j'->j'<=6->aP (t.take k)≠aX j':=by
  intro hlt hnl h45 j' g1 g6 e;have e1:=ec e;rw[i_] at e1;have e2:=e1.2 n a_;rw[gY hlt,h45] at e2;have e3:=Qw g1 g6 n a_;unfold fO at e2;rw[if_neg a_] at e2;omega
 rcases hk with⟨k1,k2,k3⟩|⟨k0,⟨k1,k2,k3,k4⟩|⟨k1,k2⟩⟩
 ·have hnk:n<=k:=by
   rcases YY k n with g|g
   ·have:=hat k g;omega
   ·exact g
  rcases YY n k with g|g
  ·have hb:=k3 n g;have h45:aa t n=45:=by omega
   refine .inr ⟨a_,Da (m:=k-n) (by rw[cW,Nat.add_zero];exact h45) a_ (by rw[k_];omega) (by rw[cW,show n+(k-n)=k by omega];omega),nok g a_ h45⟩
  ·exact .inl a_
 ·have hnk:n<=k:=by
   rcases YY k n with g|g
   ·have:=hat k g;omega
   ·exact g
  rcases YY n k with g|g
  ·have hb:=k0 n a_;have h45:aa t n=45:=by omega
   refine .inr ⟨a_,Da (m:=k-n) (by rw[cW,Nat.add_zero];exact h45) a_ (by rw[k_];omega) (by rw[cW,show n+(k-n)=k by omega];omega),nok g a_ h45⟩
  ·exact .inl a_
 ·refine .inl ?_;rcases YY n t.length with g|g
  ·have hb:=k0 n g;have hc:=k2 n h2 g;omega
  ·omega
theorem YE {t:List UInt8}{j k:Nat}(hk:KO t k)(h1:1<=j)(h6:j<=6)(h:aP (t.take k)=aX j):dh t j k:=by
 refine⟨h1,h6,HQ hk,h,?_⟩;unfold KO at hk;omega
instance (t:List UInt8) (j n:Nat):Decidable (dh t j n):=
 if h:1<=j/\j<=6/\n<=t.length/\aP (t.take n)=aX j/\(n=t.length\/aa t n=90\/aa t n=43\/aa t n=45) then isTrue ⟨h.1,h.2.1,h.2.2.1,h.2.2.2.1,h.2.2.2.2⟩ else isFalse λk=>h ⟨k.1,k.2,k.3,k.4,k.5⟩
def oy (t:List UInt8):Nat:=if dh t 1 2 then 1 else if dh t 2 4 then 2 else if dh t 3 6 then 3 else if dh t 4 3 then 4 else if dh t 5 5 then 5 else if dh t 6 4 then 6 else 0
def uK (t:List UInt8):Nat:=(aX (oy t)).length
theorem Bt {t:List UInt8}{j n:Nat}(h:dh t j n):oy t=j/\uK t=n:=by
  have hl:=h.len;have key:oy t=j:=by
    have u:=λ{j' n':Nat} (g:dh t j' n')=>(h.uniq g).1
    unfold oy
    (repeat' split)
    all_goals first
      |exact(u (by assumption)).symm
      | (exfalso
         have g1:=h.j1
         have g6:=h.j6
         rcases(show j=1\/j=2\/j=3\/j=4\/j=5\/j=6 by omega) with rfl|rfl|rfl|rfl|rfl|rfl
         all_goals (simp only[aX,List.getD_cons_zero,List.getD_cons_succ,j_,E_] at hl;subst hl;contradiction))
  exact⟨key,by unfold uK;rw[key];exact hl.symm⟩
theorem Bs {t:List UInt8}(h:oy t≠0):dh t (oy t) (uK t):=by
 have key:∀{j n:Nat},dh t j n->dh t (oy t) (uK t):=λg=>by
  obtain⟨e1,e2⟩:=Bt g;rw[e1,e2];exact g
 unfold oy at h
 (repeat' split at h)
 all_goals first|exact key (by assumption)|exact absurd rfl h
theorem NV {t:List UInt8}{k:Nat}(hk:KO t k)(h:∀j,1<=j->j<=6->aP (t.take k)≠aX j):oy t=0\/(oy t≠0/\uK t<t.length/\bI (t.drop (uK t))=(0,3)):=by
 by_cases h0:oy t=0
 ·exact .inl h0
 ·have g:=Bs h0;rcases Yu g hk with e|e
  ·exact absurd (by rw[e];exact g.hs) (h _ g.j1 g.j6)
  ·exact .inr ⟨h0,e.1,e.2.1⟩
theorem DG {t:List UInt8}{j k:Nat}(hk:KO t k)(h1:1<=j)(h6:j<=6)(h:aP (t.take k)=aX j):oy t=j/\uK t=k:=Bt (YE hk h1 h6 h)
def dx (s:List UInt8)(j:Nat):Int:=10*bR s j+bR s (j+1)
def ki (s:List UInt8)(j:Nat):Int:=10*(10*(10*bR s j+bR s (j+1))+bR s (j+2))+bR s (j+3)
def mj (d:List UInt8):Nat:=if aP d=bQ 0 then 0 else if aP d=bQ 1 then 1 else if aP d=bQ 2 then 2 else if aP d=bQ 3 then 3 else if aP d=bQ 4 then 4 else if aP d=bQ 5 then 5 else if aP d=bQ 6 then 6 else 7
theorem FL {j k:Nat}(h6:j<=6)(g6:k<=6)(h:bQ j=bQ k):j=k:=by
 rcases(show j=0\/j=1\/j=2\/j=3\/j=4\/j=5\/j=6 by omega) with rfl|rfl|rfl|rfl|rfl|rfl|rfl<;>
  rcases(show k=0\/k=1\/k=2\/k=3\/k=4\/k=5\/k=6 by omega) with rfl|rfl|rfl|rfl|rfl|rfl|rfl<;>first|rfl|(revert h;decide)
theorem yr {d:List UInt8}{k:Nat}(hk:k<=6)(h:aP d=bQ k):mj d=k:=by
  unfold mj
  (repeat' split)
  all_goals first
    |(rename_i e;exact(FL hk b_ (h.symm.trans e)).symm)
    | (exfalso
       rcases(show k=0\/k=1\/k=2\/k=3\/k=4\/k=5\/k=6 by omega) with rfl|rfl|rfl|rfl|rfl|rfl|rfl<;>contradiction)
theorem It {d:List UInt8}(h:∀k,k<=6->aP d≠bQ k):mj d=7:=by
 unfold mj;rw[if_neg (h 0 b_),if_neg (h 1 b_),if_neg (h 2 b_),if_neg (h 3 b_),if_neg (h 4 b_),if_neg (h 5 b_),if_neg (h 6 b_)]
def dY (k:Nat)(d:List UInt8):Int:=if k=1\/k=2\/k=3 then ki d 0 else-1
def dM (k:Nat)(d:List UInt8):Int:=if k=2 then dx d 5 else if k=3 then dx d 4 else if k=4\/k=5 then dx d 2 else-1
def dD (k:Nat)(d:List UInt8):Int:=if k=3 then dx d 6 else if k=5 then dx d 4 else if k=6 then dx d 3 else-1
def cH (k:Nat)(c:List UInt8):Int:=if k=1\/k=2\/k=3 then dx c 0 else-1
def cI (k:Nat)(c:List UInt8):Int:=if k=2\/k=3 then dx c 2 else if k=4\/k=5 then dx c 1 else-1
def cS (k:Nat)(c:List UInt8):Int:=if k=3 then dx c 4 else if k=5 then dx c 3 else if k=6 then dx c 2 else-1
def GB (i:Nat)(d:List UInt8)(j:Nat)(c z:List UInt8):Stm:=⟨dY i d,dM i d,dD i d,cH j c,cI j c,cS j c,decide (z≠[]),if z=[] then 0 else(bI z).1⟩
def Stm.no:Stm:=⟨0,0,0,0,0,0,false,0⟩
def o5 (t:Stm):Stm×Err:=if t.e=0 then(t,.none) else(Stm.no,.errno t.e)
def mq (d:List UInt8)(timed:Bool)(t:List UInt8):Stm×Err:=
 if mj d=7 then(Stm.no,.errno 3)
 else if timed=false then o5 (GB (mj d) d 0 [] [])
 else if oy t=0 then(Stm.no,.errno 3)
 else if t.drop (uK t)≠[]/\(bI (t.drop (uK t))).2≠0 then(Stm.no,.errno (bI (t.drop (uK t))).2)
 else o5 (GB (mj d) d (oy t) (t.take (uK t)) (t.drop (uK t)))
def Gp (s:List UInt8):Stm×Err:=mq (fw s 84).1 (fw s 84).2.2 (fw s 84).2.1
end
section
theorem gR {α:Type}{P:List α->Prop}(h0:P [])(h1:∀l a,P l->P (l++[a]))(l:List α):P l:=by
 rw[<-List.reverse_reverse l];induction l.reverse with
 |nil=>exact h0
 |cons a r ih=>rw[List.reverse_cons];exact h1 _ _ ih
inductive Tk where
 |one (c:UInt8)
 |two (d:UInt8)
def Tk.raw:Tk->List UInt8
 |.one c=>[c]
 |.two d=>[92,d]
def yj (d:UInt8):UInt8:=if d=110\/d=78 then 10 else d
def Tk.val:Tk->UInt8
 |.one c=>c
 |.two d=>yj d
def okE (d:UInt8):Bool:=decide (d=92\/d=44\/d=59\/d=110\/d=78)
def Tk.ok:Tk->Prop
 |.one c=>c≠92
 |.two d=>okE d=true
def a7:List UInt8->Nat->Err
 |[],_=>.none
 |[c],i=>if c=92 then .at 7 ((i+1:Nat):Int) else .none
 |c::d::r,i=>if c=92 then(if okE d then a7 r (i+2) else .at 3 ((i+1:Nat):Int)) else a7 (d::r) (i+1)
def bV:List UInt8->List Tk
 |[]=>[]
 |[c]=>if c=92 then[] else[.one c]
 |c::d::r=>if c=92 then(if okE d then .two d::bV r else[]) else .one c::bV (d::r)
abbrev rawT (T:List Tk):List UInt8:=T.flatMap Tk.raw
abbrev iT (T:List Tk):List UInt8:=T.map Tk.val
theorem o7 {c:UInt8}(h:c≠92)(r:List UInt8)(i:Nat):a7 (c::r) i=a7 r (i+1):=by
 cases r with
 |nil=>simp[a7,h]
 |cons d r=>simp[a7,h]
theorem on {c:UInt8}(h:c≠92)(r:List UInt8):bV (c::r)= .one c::bV r:=by
 cases r with
 |nil=>simp[bV,h]
 |cons d r=>simp[bV,h]
theorem o6 {d:UInt8}(h:okE d=true)(r:List UInt8)(i:Nat):a7 (92::d::r) i=a7 r (i+2):=by simp[a7,h]
theorem om {d:UInt8}(h:okE d=true)(r:List UInt8):bV (92::d::r)= .two d::bV r:=by simp[bV,h]
theorem GN:∀(n:Nat) (s:List UInt8),s.length<=n->∀t∈bV s,t.ok
 |_,[],_,t,ht=>by cases ht
 |0,c::r,hn,_,_=>by simp at hn
 |n+1,c::r,hn,t,ht=>by
  have hn:r.length<=n:=by simpa using hn
  by_cases hc:c=92
  ·subst hc;cases r with
   |nil=>simp[bV] at ht
   |cons d r=>
    by_cases hd:okE d=true
    ·rw[om hd] at ht;rcases List.mem_cons.1 ht with rfl|ht
     ·exact hd
     ·exact GN n r (by simp at hn;omega) t ht
    ·simp[bV,hd] at ht
  ·rw[on hc] at ht;rcases List.mem_cons.1 ht with rfl|ht
   ·exact hc
   ·exact GN n r hn t ht
theorem vh:∀(n:Nat) (s:List UInt8) (i:Nat),s.length<=n->a7 s i= .none->rawT (bV s)=s
 |_,[],_,_,_=>rfl
 |0,c::r,_,hn,_=>by simp at hn
 |n+1,c::r,i,hn,he=>by
  have hn:r.length<=n:=by simpa using hn
  by_cases hc:c=92
  ·subst hc;cases r with
   |nil=>simp[a7] at he
   |cons d r=>
    by_cases hd:okE d=true
    ·rw[o6 hd] at he;rw[om hd];show 92::d::rawT (bV r)=_;rw[vh n r _ (by simp at hn;omega) he]
    ·simp[a7,hd] at he
  ·rw[o7 hc] at he;rw[on hc];show c::rawT (bV r)=_;rw[vh n r _ hn he]
theorem Jt:∀(T:List Tk) (i:Nat),(∀t∈T,t.ok)->a7 (rawT T) i= .none/\bV (rawT T)=T
 |[],_,_=>⟨rfl,rfl⟩
 |t::T,i,h=>by
  have ih:=λi=>Jt T i (λt ht=>h t (List.mem_cons_of_mem _ ht));have ht:=h t z_;cases t with
  |one c=>
   show a7 (c::rawT T) i=_/\bV (c::rawT T)=_;rw[o7 ht,on ht,(ih _).1,(ih 0).2];exact⟨rfl,rfl⟩
  |two d=>
   show a7 (92::d::rawT T) i=_/\bV (92::d::rawT T)=_;rw[o6 ht,om ht,(ih _).1,(ih 0).2];exact⟨rfl,rfl⟩
def yN (s:List UInt8)(i:Nat)(T:List Tk):Prop:=i<=s.length/\a7 s 0=a7 (s.drop i) i/\bV s=T++bV (s.drop i)
theorem zQ (s:List UInt8):yN s 0 []:=⟨Nat.zero_le _,rfl,rfl⟩
theorem kP {s:List UInt8}{i:Nat}(h:i<s.length){c:UInt8}:s[i]=c↔(aa s i:Int)=c.toNat:=by
 have e:aa s i=s[i].toNat:=by simp[aa,List.getD,y_ h]
 rw[e,<-UInt8.toNat_inj];omega
theorem v7 {s:List UInt8}{i:Nat}{T:List Tk}(h:yN s i T)(hi:i<s.length)(hc:(aa s i:Int)≠92):yN s (i+1) (T++[.one s[i]]):=by
 obtain⟨_,h2,h3⟩:=h;have hc:s[i]≠92:=λk=>hc ((kP hi).1 k);rw[A_ hi] at h2 h3;rw[o7 hc] at h2;rw[on hc] at h3;exact⟨hi,h2,by rw[h3,An];rfl⟩
theorem mH {s:List UInt8}{i:Nat}{T:List Tk}(h:yN s i T)(hi:i+1<s.length)(hc:(aa s i:Int)=92)(hd:okE s[i+1]=true):yN s (i+2) (T++[.two s[i+1]]):=by
 obtain⟨_,h2,h3⟩:=h;have hc:s[i]=92:=(kP a_).2 hc;rw[A_ (by omega:i<s.length),A_ hi,hc] at h2 h3;rw[o6 hd] at h2;rw[om hd] at h3;exact⟨hi,h2,by rw[h3,An];rfl⟩
theorem zP {s:List UInt8}{i:Nat}{T:List Tk}(h:yN s i T)(hi:i+1=s.length)(hc:(aa s i:Int)=92):a7 s 0= .at 7 ((i:Int)+1):=by
 obtain⟨_,h2,_⟩:=h;have hc:s[i]=92:=(kP a_).2 hc;rw[A_ (by omega:i<s.length),List.drop_of_length_le a_,hc] at h2;rw[h2];rfl
theorem Du {s:List UInt8}{i:Nat}{T:List Tk}(h:yN s i T)(hi:i+1<s.length)(hc:(aa s i:Int)=92)(hd:okE s[i+1]=false):a7 s 0= .at 3 ((i:Int)+1):=by
 obtain⟨_,h2,_⟩:=h;have hc:s[i]=92:=(kP a_).2 hc;rw[A_ (by omega:i<s.length),A_ hi,hc] at h2;rw[h2];simp[a7,hd]
theorem Dt {s:List UInt8}{i:Nat}{T:List Tk}(h:yN s i T)(hi:s.length<=i):a7 s 0= .none/\bV s=T:=by
 obtain⟨_,h2,h3⟩:=h;rw[List.drop_of_length_le hi] at h2 h3;exact⟨h2,by simpa[bV] using h3⟩
end
section
def lV (at_:List UInt8)(x:List (List UInt8)×List UInt8×List UInt8):Tk->List (List UInt8)×List UInt8×List UInt8
 |.one c=>if c∈at_ then(x.1++[x.2.1],[],x.2.2++[c]) else(x.1,x.2.1++[c],x.2.2)
 |.two d=>(x.1,x.2.1++[yj d],x.2.2)
def jP (at_:List UInt8)(T:List Tk):List (List UInt8)×List UInt8×List UInt8:=T.foldl (lV at_) ([],[],[])
def jx (c:UInt8)(x:List (List Tk)×List Tk):Tk->List (List Tk)×List Tk
 |.one b=>if b=c then(x.1++[x.2],[]) else(x.1,x.2++[.one b])
 |.two d=>(x.1,x.2++[.two d])
def i6 (c:UInt8)(T:List Tk):List (List Tk)×List Tk:=T.foldl (jx c) ([],[])
def ox (c:UInt8)(T:List Tk):List (List Tk):=(i6 c T).1++[(i6 c T).2]
def ov (c:UInt8)(x:List (List UInt8)×List UInt8×Bool)(b:UInt8):List (List UInt8)×List UInt8×Bool:=
 if b=c/\x.2.2=false then(x.1++[x.2.1],[],b==92&& !x.2.2) else(x.1,x.2.1++[b],b==92&& !x.2.2)
def GX (c:UInt8)(s:List UInt8):List (List UInt8)×List UInt8×Bool:=s.foldl (ov c) ([],[],false)
def eE (c:UInt8)(s:List UInt8):List (List UInt8):=(GX c s).1++[(GX c s).2.1]
theorem lr (a:List UInt8)(T:List Tk)(t:Tk):jP a (T++[t])=lV a (jP a T) t:=by unfold jP;rw[List.foldl_append];rfl
theorem iZ (c:UInt8)(T:List Tk)(t:Tk):i6 c (T++[t])=jx c (i6 c T) t:=by unfold i6;rw[List.foldl_append];rfl
theorem ow (c:UInt8)(s:List UInt8)(b:UInt8):GX c (s++[b])=ov c (GX c s) b:=by unfold GX;rw[List.foldl_append];rfl
theorem RO (c:UInt8)(s:List UInt8)(a b:UInt8):GX c (s++[a,b])=ov c (ov c (GX c s) a) b:=by unfold GX;rw[List.foldl_append];rfl
theorem Oq (T:List Tk)(t:Tk):rawT (T++[t])=rawT T++t.raw:=by simp
theorem oi (T:List Tk)(t:Tk):iT (T++[t])=iT T++[t.val]:=by simp
theorem Jg {T:List Tk}{t:Tk}(h:∀x∈T++[t],x.ok):(∀x∈T,x.ok)/\t.ok:=⟨λx hx=>h x (List.mem_append_left _ hx),h t (by simp)⟩
theorem Tb {c:UInt8}(hc:c≠92):∀T:List Tk,(∀t∈T,t.ok)->GX c (rawT T)=((i6 c T).1.map rawT,rawT (i6 c T).2,false):=by
 refine gR (λ_=>rfl) λT t ih h=> ?_;obtain⟨h1,h2⟩:=Jg h;have ih:=ih h1
 rw[Oq,iZ]
 cases t with
 |one b=>
  have h2:b≠92:=h2
  rw[show(Tk.one b).raw=[b] from rfl,ow,ih]
  unfold ov jx
  by_cases hb:b=c
  ·subst hb
   simp[h2]
  ·simp[hb,h2,Tk.raw]
 |two d=>
  rw[show(Tk.two d).raw=[92,d] from rfl,RO,ih]
  unfold jx
  by_cases hd:d=92
  ·simp[ov,hd,Ne.symm hc,Tk.raw]
  ·simp[ov,hd,Ne.symm hc,Tk.raw]
theorem UR {c:UInt8}:∀T:List Tk,(∀t∈T,t.ok)->(∀T'∈(i6 c T).1,∀t∈T',t.ok)/\∀t∈(i6 c T).2,t.ok:=by
 refine gR (λ_=>⟨λ_ h=>by simp[i6] at h,λ_ h=>by simp[i6] at h⟩) λT t ih h=> ?_;obtain⟨h1,h2⟩:=Jg h;obtain⟨i1,i2⟩:=ih h1;rw[iZ];have key:∀x∈(i6 c T).2++[t],x.ok:=λx hx=>by
  rcases List.mem_append.1 hx with hx|hx
  ·exact i2 x hx
  ·rw[List.mem_singleton.1 hx];exact h2
 cases t with
 |one b=>
  unfold jx;by_cases hb:b=c
  ·simp only[hb,Zc];refine⟨λT' hT=> ?_,λx hx=>by cases hx⟩;rcases List.mem_append.1 hT with hT|hT
   ·exact i1 T' hT
   ·rw[List.mem_singleton.1 hT];exact i2
  ·simp only[hb,Zd];exact⟨i1,key⟩
 |two d=>exact⟨i1,key⟩
theorem RS {c:UInt8}{T:List Tk}(h:∀t∈T,t.ok):∀T'∈ox c T,∀t∈T',t.ok:=by
 obtain⟨h1,h2⟩:=UR (c:=c) T h;intro T' hT;rcases List.mem_append.1 hT with hT|hT
 ·exact h1 T' hT
 ·rw[List.mem_singleton.1 hT];exact h2
theorem Qn {c:UInt8}(hc:c≠92){T:List Tk}(h:∀t∈T,t.ok):eE c (rawT T)=(ox c T).map rawT:=by
 unfold eE ox;rw[Tb hc T h,Nm];rfl
theorem RW:∀T:List Tk,jP [] T=([],iT T,[]):=by
 refine gR rfl λT t ih=> ?_;rw[lr,ih,oi];cases t<;>simp[lV,Tk.val]
theorem Jj (c:UInt8):∀T:List Tk,(jP [c] T).1=(i6 c T).1.map iT/\(jP [c] T).2.1=iT (i6 c T).2:=by
 refine gR ⟨rfl,rfl⟩ λT t ih=> ?_;rw[lr,iZ];cases t with
 |one b=>
  unfold lV jx;by_cases hb:b=c
  ·simp[hb,ih.1,ih.2]
  ·simp[hb,ih.1,ih.2,Tk.val]
 |two d=>simp[lV,jx,ih.1,ih.2,Tk.val]
def xG (out:List (List (List UInt8)))(x:List UInt8):List (List (List UInt8)):=out.dropLast++[out.getLast?.getD []++[x]]
theorem nH (out:List (List (List UInt8)))(l:List (List UInt8))(x:List UInt8):xG (out++[l]) x=out++[l++[x]]:=by simp[xG]
def qm (out:List (List (List UInt8)))(c:UInt8×List UInt8):List (List (List UInt8)):=xG (if c.1=59 then out++[[]] else out) c.2
def Fk (l:List (List UInt8))(cuts:List UInt8):List (List (List UInt8)):=(cuts.zip l.tail).foldl qm [[l.headD []]]
theorem Fj (l:List (List UInt8))(hl:l≠[])(cuts:List UInt8)(h:l.length=cuts.length+1)(c:UInt8)(x:List UInt8):Fk (l++[x]) (cuts++[c])=qm (Fk l cuts) (c,x):=by
 cases l with
 |nil=>exact absurd rfl hl
 |cons a l=>
  have h:cuts.length=l.length:=by simpa using h.symm
  unfold Fk;simp only[Lu,List.tail_cons,List.headD_cons];rw[List.zip_append h,List.foldl_append];rfl
def lstT (T:List Tk):List (List UInt8):=(ox 44 T).map iT
theorem vn (T:List Tk):lstT T=(i6 44 T).1.map iT++[iT (i6 44 T).2]:=by simp[lstT,ox]
theorem DE (o:List (List (List UInt8)))(x:List UInt8):qm o (44,x)=xG o x:=rfl
theorem GV (o:List (List (List UInt8)))(x:List UInt8):qm o (59,x)=xG (o++[[]]) x:=rfl
theorem Ji:∀T:List Tk,(jP [44,59] T).1.length=(jP [44,59] T).2.2.length/\(jP [44,59] T).2.1=iT (i6 44 (i6 59 T).2).2/\
  ∀x,Fk ((jP [44,59] T).1++[x]) (jP [44,59] T).2.2=(i6 59 T).1.map lstT++[(i6 44 (i6 59 T).2).1.map iT++[x]]:=by
 refine gR ⟨rfl,rfl,λx=>rfl⟩ λT t ih=> ?_;obtain⟨h1,h2,h3⟩:=ih;rw[lr,iZ];cases t with
 |one b=>
  by_cases hb:b=59
  ·subst hb;rw[show lV [44,59] (jP [44,59] T) (.one 59)=((jP [44,59] T).1++[(jP [44,59] T).2.1],[],(jP [44,59] T).2.2++[59]) from rfl,show jx 59 (i6 59 T) (.one 59)=((i6 59 T).1++[(i6 59 T).2],[]) from rfl];refine⟨by simp[h1],rfl,λx=> ?_⟩;rw[Fj _ (by simp) _ (by simp[h1]),h3,h2];rw[GV,nH,Nm,S_,vn];simp[i6]
  ·by_cases hb2:b=44
   ·subst hb2;rw[show lV [44,59] (jP [44,59] T) (.one 44)=((jP [44,59] T).1++[(jP [44,59] T).2.1],[],(jP [44,59] T).2.2++[44]) from rfl,show jx 59 (i6 59 T) (.one 44)=((i6 59 T).1,(i6 59 T).2++[.one 44]) from rfl];dsimp only
    rw[iZ,show jx 44 (i6 44 (i6 59 T).2) (.one 44)=((i6 44 (i6 59 T).2).1++[(i6 44 (i6 59 T).2).2],[]) from rfl];refine⟨by simp[h1],rfl,λx=> ?_⟩;rw[Fj _ (by simp) _ (by simp[h1]),h3,h2];rw[DE,nH];simp
   ·have e1:lV [44,59] (jP [44,59] T) (.one b)=((jP [44,59] T).1,(jP [44,59] T).2.1++[b],(jP [44,59] T).2.2):=by simp[lV,hb,hb2]
    have e2:jx 59 (i6 59 T) (.one b)=((i6 59 T).1,(i6 59 T).2++[.one b]):=by simp[jx,hb]
    have e3:i6 44 ((i6 59 T).2++[.one b])=((i6 44 (i6 59 T).2).1,(i6 44 (i6 59 T).2).2++[.one b]):=by rw[iZ];simp[jx,hb2]
    rw[e1,e2];dsimp only
    rw[e3];exact⟨h1,by rw[h2,oi];rfl,h3⟩
 |two d=>
  have e2:jx 59 (i6 59 T) (.two d)=((i6 59 T).1,(i6 59 T).2++[.two d]):=rfl;have e3:i6 44 ((i6 59 T).2++[.two d])=((i6 44 (i6 59 T).2).1,(i6 44 (i6 59 T).2).2++[.two d]):=by rw[iZ];rfl
  rw[e2,show lV [44,59] (jP [44,59] T) (.two d)=((jP [44,59] T).1,(jP [44,59] T).2.1++[yj d],(jP [44,59] T).2.2) from rfl];dsimp only
  rw[e3];exact⟨h1,by rw[h2,oi];rfl,h3⟩
theorem SR (T:List Tk):Fk ((jP [44,59] T).1++[(jP [44,59] T).2.1]) (jP [44,59] T).2.2=(ox 59 T).map lstT:=by
 obtain⟨_,h2,h3⟩:=Ji T;rw[h3,h2,ox,Nm,S_,vn];rfl
end
section
def qD (s:List UInt8):Nat->Nat
 |0=>0
 |i+1=>if(aa s i:Int)=92 then qD s i+1 else 0
theorem IM (s:List UInt8):∀i,qD s i<=i
 |0=>Nat.le_refl _
 |i+1=>by
  have:=IM s i
  unfold qD
  split<;>omega
theorem QH (s:List UInt8):∀i n,n<qD s i->(aa s (i-n-1):Int)=92
 |0,n,h=>absurd h (Uf _)
 |i+1,n,h=>by
  unfold qD at h;split at h
  ·rename_i hb;cases n with
   |zero=>exact hb
   |succ n=>
    rw[show i+1-(n+1)-1=i-n-1 by omega];exact QH s i n a_
  ·exact absurd h (Uf _)
theorem F4 (s:List UInt8):∀i,qD s i=i\/(aa s (i-qD s i-1):Int)≠92
 |0=>.inl rfl
 |i+1=>by
  rcases F4 s i with h|h
  ·unfold qD;split
   ·left;rw[h]
   ·rename_i hb;exact .inr hb
  ·unfold qD;split
   ·right;rw[show i+1-(qD s i+1)-1=i-qD s i-1 by omega];exact h
   ·rename_i hb;exact .inr hb
def Gm (s:List UInt8)(c:UInt8)(i:Nat)(out:List (List UInt8))(fr:Nat):Prop:=i<=s.length/\fr<=i/\out.length<=i/\GX c (s.take i)=(out,(s.take i).drop fr,decide (qD s i%2=1))
theorem Mt (s:List UInt8)(c:UInt8):Gm s c 0 [] 0:=⟨Nat.zero_le _,Nat.le_refl _,Nat.le_refl _,rfl⟩
theorem ED (s:List UInt8){i:Nat}(h:i<s.length):(s[i]==92&& !decide (qD s i%2=1))=decide (qD s (i+1)%2=1):=by
 have e:(s[i]==92)=decide ((aa s i:Int)=92):=by
  rw[w_,YS,n_,kP h];rfl
 rw[e];rw[show qD s (i+1)=if(aa s i:Int)=92 then qD s i+1 else 0 from rfl];by_cases hb:(aa s i:Int)=92
 ·simp only[hb,decide_true,YT,Zc];rw[w_];simp only[Bool.not_eq_true',YU,n_];omega
 ·simp[hb]
theorem Qm {s:List UInt8}{c:UInt8}{i fr:Nat}{out:List (List UInt8)}(h:Gm s c i out fr)(hi:i<s.length)(hb:(aa s i:Int)=c.toNat)(he:qD s i%2=0):Gm s c (i+1) (out++[(s.take i).drop fr]) (i+1):=by
 obtain⟨_,h1,h0,h2⟩:=h;have hb:=(kP hi).2 hb;refine⟨hi,Nat.le_refl _,by simp;omega,?_⟩;rw[x_ hi,ow,h2];unfold ov;rw[if_pos ⟨hb,by simp[he]⟩];rw[ED s hi];simp
theorem Tc {s:List UInt8}{c:UInt8}{i fr:Nat}{out:List (List UInt8)}(h:Gm s c i out fr)(hi:i<s.length)(hb:¬((aa s i:Int)=c.toNat/\qD s i%2=0)):Gm s c (i+1) out fr:=by
 obtain⟨_,h1,h0,h2⟩:=h;refine⟨hi,a_,a_,?_⟩;rw[x_ hi,ow,h2];unfold ov;rw[if_neg ?_]
 ·rw[ED s hi,List.drop_append_of_le_length (by rw[i_];omega)]
 ·rintro⟨k1,k2⟩;refine hb ⟨(kP hi).1 k1,?_⟩;have:¬qD s i%2=1:=by simpa using k2
  omega
theorem Ql {s:List UInt8}{c:UInt8}{i fr:Nat}{out:List (List UInt8)}(h:Gm s c i out fr)(hi:s.length<=i):eE c s=out++[s.drop fr]:=by
 obtain⟨_,h1,h0,h2⟩:=h;rw[u_ hi] at h2;unfold eE;rw[h2]
end
section
theorem YF (b:Int):aS [92,44,59,110,78] b=if b=92 then 0 else if b=44 then 1 else if b=59 then 2 else if b=110 then 3 else if b=78 then 4 else-1:=by
 unfold aS;simp only[kh];by_cases h1:b=92
 ·subst h1;rfl
 by_cases h2:b=44
 ·subst h2;rfl
 by_cases h3:b=59
 ·subst h3;rfl
 by_cases h4:b=110
 ·subst h4;rfl
 by_cases h5:b=78
 ·subst h5;rfl
 rw[if_neg h1,if_neg h2,if_neg h3,if_neg h4,if_neg h5,if_neg (λh=>h1 h.symm),if_neg (λh=>h2 h.symm),if_neg (λh=>h3 h.symm),if_neg (λh=>h4 h.symm),if_neg (λh=>h5 h.symm)]
def yU (s:List UInt8):List UInt8:=match a7 s 0 with
 |.none=>iT (bV s)
 |_=>[]
theorem GG {s:List UInt8}(h:a7 s 0= .none):yU s=iT (bV s):=by unfold yU;rw[h]
theorem GH {s:List UInt8}{e p:Int}(h:a7 s 0= .at e p):yU s=[]:=by unfold yU;rw[h]
theorem OL {s:List UInt8}{i:Nat}(h:i<s.length):okE s[i]=decide ((aa s i:Int)=92\/(aa s i:Int)=44\/(aa s i:Int)=59\/(aa s i:Int)=110\/(aa s i:Int)=78):=by
 unfold okE;simp only[kP h];rfl
theorem Il {s:List UInt8}{i:Nat}(h:i<s.length)(hb:(aa s i:Int)=110\/(aa s i:Int)=78):yj s[i]=10:=by
 unfold yj;rw[if_pos (hb.imp (kP (c:=110) h).2 (kP (c:=78) h).2)]
theorem tO {s:List UInt8}{i:Nat}(h:i<s.length)(hb:¬((aa s i:Int)=110\/(aa s i:Int)=78)):yj s[i]=s[i]:=by
 unfold yj;rw[if_neg (λk=>hb (k.imp (kP (c:=110) h).1 (kP (c:=78) h).1))]
theorem NH {s:List UInt8}{i:Nat}(h:i<s.length):(s.take (i+1)).drop i=[s[i]]:=by
 rw[x_ h,List.drop_append_of_le_length (by rw[i_];omega),List.drop_of_length_le (by rw[i_];omega)];rfl
theorem Rj (T:List Tk):(iT T).length=T.length:=by simp
set_option maxHeartbeats 8000000
attribute [local irreducible] bG au az aR ab ad aa yj aS
theorem kW {G:Glo}(s:List UInt8)(hl:s.length<=2000000):ak prog G 74 [.str s] (.tuple [.str (yU s),.agg [.int .i64 (a7 s 0).e,.int .i64 (a7 s 0).p]]):=by
 have hgd:=fp (G:=G);have hI:=λ(b:Int) h0 h1=>aL (G:=G) [92,44,59,110,78] b h0 h1
 refine ax func74 call74 λC hC hGL=> ?_
 refine iS ?_
 intro bl
 intros
 refine lp hC hGL (λ(x:Nat×List Tk)=>[(0,.str s),(3,.own 0 (.pointer (some ⟨bl,0,none⟩))),(4,.str (iT x.2)),(5,.int .i64 (x.1:Nat))]) (λ_=>[.cells bl (some 27) [.int .i64 0,.int .i64 0]]) (λx=>yN s x.1 x.2/\x.2.length<=x.1) (λx=>s.length-x.1) (0,[]) ?_ ah rfl ?_
 ·exact⟨zQ s,Nat.le_refl _⟩
 rintro⟨i,T⟩ ⟨hT,hlT⟩
 have hT:yN s i T:=hT
 have hlT:T.length<=i:=hlT
 have hi:=hT.1
 have hv:=Rj T
 by_cases hA:i+1<s.length/\(aa s i:Int)=92
 ·obtain⟨hA1,hA2⟩:=hA
  have hbl:=bu s (i+1)
  have hJ:=hI (aa s (i+1):Int) a_ a_
  rw[YF] at hJ
  have hok:=OL hA1
  repeat' split at hJ
  iterate 5
   ·have k1:= ‹(aa s (i+1):Int)=_›
    refine ao ?_
    intros
    refine cQ (i+2,T++[.two s[i+1]]) ⟨mH hT hA1 hA2 (by rw[hok];simp[k1]),by simp;omega⟩ (by show s.length-(i+2)<s.length-i;omega) ⟨rfl,rfl,?_,rfl,trivial⟩ rfl
    refine congrArg (λl=>some (AVal.str l)) ?_
    rw[oi]
    refine congrArg (iT T++ ·) ?_
    show[_]=[yj s[i+1]]
    first
     |rw[Il hA1 a_]
     |rw[tO hA1 a_,(kP hA1).2 (show _=((92:UInt8).toNat:Int) from k1)]
     |rw[tO hA1 a_,(kP hA1).2 (show _=((44:UInt8).toNat:Int) from k1)]
     |rw[tO hA1 a_,(kP hA1).2 (show _=((59:UInt8).toNat:Int) from k1)]
  rename_i k1 k2 k3 k4 k5
  have he:=Du hT hA1 hA2 (by rw[hok];simp[k1,k2,k3,k4,k5])
  refine ao ?_
  intros
  apply aj
  rw[GH he,he]
  rfl
 ·refine xn ?_
  repeat' first|exact .n|apply Lc.mk
  all_goals intros
  ·have hlt:i<s.length:=by dsimp only at*;omega
   have hne:(aa s i:Int)≠92:=by assumption
   refine cQ (i+1,T++[.one s[i]]) ?_ ?_ ⟨rfl,rfl,?_,rfl,trivial⟩ rfl
   ·exact⟨v7 hT hlt hne,by simp;omega⟩
   ·show s.length-(i+1)<s.length-i
    omega
   ·refine congrArg (λl=>some (AVal.str l)) ?_
    rw[oi]
    exact congrArg (iT T++ ·) (NH hlt)
  ·have he:=zP hT (by dsimp only at*;omega) (by assumption)
   apply aj
   rw[GH he,he]
   rfl
  ·exfalso
   dsimp only at*
   omega
  ·obtain⟨he,ht⟩:=Dt hT (by dsimp only at*;omega)
   apply aj
   rw[GG he,he,ht]
   rfl
end
section
theorem WA {s:List UInt8}{i n:Nat}(h:n<=qD s i)(hb:(aa s (i-n-1):Int)=92)(hi:n<i):n+1<=qD s i:=by
 rcases YY n (qD s i) with k|k
 ·exact k
 ·have e:n=qD s i:=by omega
  rcases F4 s i with h1|h1
  ·omega
  ·rw[<-e] at h1;exact absurd hb h1
theorem WB {s:List UInt8}{i n:Nat}(h:n<=qD s i)(hb:(aa s (i-n-1):Int)≠92):n=qD s i:=by
 rcases YY n (qD s i) with k|k
 ·exact absurd (QH s i n k) hb
 ·omega
theorem QG {s:List UInt8}{i n:Nat}(h:n<=qD s i)(hi:i<=n):n=qD s i:=by
 have:=IM s i;omega
set_option maxHeartbeats 8000000
attribute [local irreducible] bG au az aR ab ad aa qD
theorem Jq {G:Glo}(s:List UInt8)(c:UInt8)(hl:s.length<=2000000):ak prog G 133 [.str s,.int .u8 (c.toNat:Int)] (.list 1 (eE c s).length (aB (eE c s))):=by
  refine nK (λa=>a) O0 (aB (eE c s)) (gi _) (cs:=bj (eE c s)) (eT:=none) ?_;refine ax func133 call133 λC hC hGL=> ?_;refine ao ?_;intros;refine nB 5 1 rfl ?_;refine lp hC hGL (λ(x:Nat×Nat×List (List UInt8)×Value)=>[(0,.str s),(1,.int .u8 (c.toNat:Int)),(5,.own 0 x.2.2.2),(6,.int .i64 (x.2.1:Nat)),(10,.int .i64 (s.length:Nat)),(11,.int .i64 (x.1:Nat))]) (λx=>[.row x.2.2.2 none 1 x.2.2.1.length (bj x.2.2.1)]) (λx=>Gm s c x.1 x.2.2.1 x.2.1) (λx=>s.length-x.1) (0,0,[],.slice none 0 0) ?_ ah rfl ?_
  · exact Mt s c
  rintro⟨i,fr,out,v⟩ hT;have hT:Gm s c i out fr:=hT;have h1:=hT.1;have h2:=hT.2.1;have h3:=hT.2.2.1;refine xn ?_;repeat' first|exact .n|apply Lc.mk
  all_goals intros
  · have hlt:i<s.length:=by dsimp only at*;omega
    refine lp hC hGL (λ(n:Nat)=>[(0,.str s),(1,.int .u8 (c.toNat:Int)),(5,.own 0 v),(6,.int .i64 (fr:Nat)),(7,.int .i64 (i:Nat)),(8,.int .i64 (n:Nat)),(10,.int .i64 (s.length:Nat)),(11,.int .i64 (i:Nat))]) (λ_=>[.row v none 1 out.length (bj out)]) (λn=>n<=qD s i) (λn=>i-n) 0 ?_ ah rfl ?_
    · exact Nat.zero_le _
    intro n hn;have hn:n<=qD s i:=hn;have hni:=IM s i;have e:0<(i:Int)-n->((i:Int)-n-1).toNat=i-n-1:=λ_=>by omega
    refine xw ?_;repeat' first|exact .n|apply Lc.mk
    all_goals intros
    · rename_i hb;rw[e a_] at hb;refine cQ (n+1) (WA hn hb a_) ?_ ⟨rfl,rfl,rfl,rfl,rfl,rfl,rfl,rfl,trivial⟩ rfl;show i-(n+1)<i-n;omega
    all_goals
      have en:n=qD s i:=by first|exact QG hn a_|(rw[e a_] at*;exact WB hn (by assumption))
      first
        | (refine cQ (i+1,i+1,out++[(s.take i).drop fr],.slice _ _ _) ?_ ?_ ⟨rfl,rfl,rfl,rfl,rfl,rfl,trivial⟩ ?_
           · exact Qm hT hlt (by assumption) (by rw[<-en];omega)
           · show s.length-(i+1)<s.length-i;omega
           · dsimp only
             rw[<-ce,d_];rfl)
        | (refine cQ (i+1,fr,out,v) ?_ ?_ ⟨rfl,rfl,rfl,rfl,rfl,rfl,trivial⟩ rfl
           · exact Tc hT hlt (by rw[<-en];omega)
           · show s.length-(i+1)<s.length-i;omega)
  · have h3p:(((i,fr,out,v):Nat×Nat×List (List UInt8)×Value).2.2.1).length<=i:=h3;refine aK ?_;intros;have hlt:s.length<=i:=by dsimp only at*;omega
    refine⟨_,At _,0,_,rfl,?_⟩;dsimp only
    rw[Ql hT hlt,<-ce,d_];rfl
end
section
theorem Je (c:UInt8):∀s:List UInt8,(∀x∈(GX c s).1,x.length<=s.length)/\(GX c s).2.1.length<=s.length:=by
 refine gR ⟨λ_ h=>by simp[GX] at h,by simp[GX]⟩ λs b ih=> ?_;rw[ow];unfold ov;split
 ·refine⟨λx hx=> ?_,by simp⟩;rw[d_];rcases List.mem_append.1 hx with hx|hx
  ·have:=ih.1 x hx;omega
  ·rw[List.mem_singleton.1 hx];have:=ih.2;omega
 ·refine⟨λx hx=> ?_,?_⟩
  ·rw[d_];have:=ih.1 x hx;omega
  ·rw[d_,d_];have:=ih.2;simp;omega
theorem FN (c:UInt8)(s:List UInt8){x:List UInt8}(h:x∈eE c s):x.length<=s.length:=by
 rcases List.mem_append.1 h with h|h
 ·exact(Je c s).1 x h
 ·rw[List.mem_singleton.1 h];exact(Je c s).2
theorem RP (c:UInt8):∀s:List UInt8,(GX c s).1.length<=s.length:=by
 refine gR (Nat.le_refl _) λs b ih=> ?_;rw[ow,d_];unfold ov;split
 ·simp;exact ih
 ·simp;omega
theorem FO (c:UInt8)(s:List UInt8):(eE c s).length<=s.length+1:=by
 have:=RP c s;simp[eE];exact this
theorem p9:∀(n:Nat) (s:List UInt8) (i:Nat),s.length<=n->a7 s i= .none\/(∃p,a7 s i= .at 7 p)\/∃p,a7 s i= .at 3 p
 |_,[],_,_=>.inl rfl
 |0,c::r,_,hn=>by simp at hn
 |n+1,c::r,i,hn=>by
  have hn:r.length<=n:=by simpa using hn
  by_cases hc:c=92
  ·subst hc;cases r with
   |nil=>exact .inr (.inl ⟨_,rfl⟩)
   |cons d r=>
    by_cases hd:okE d=true
    ·rw[o6 hd];exact p9 n r _ (by simp at hn;omega)
    ·exact .inr (.inr ⟨_,by simp[a7,hd];rfl⟩)
  ·rw[o7 hc];exact p9 n r _ hn
theorem Ko {s:List UInt8}(h:a7 s 0≠ .none):¬(a7 s 0).e=0:=by
 rcases p9 s.length s 0 (Nat.le_refl _) with k|⟨p,k⟩|⟨p,k⟩
 ·exact absurd k h
 ·rw[k];exact(by decide:¬(7:Int)=0)
 ·rw[k];exact(by decide:¬(3:Int)=0)
def jr (s:List UInt8):List (List UInt8):=match a7 s 0 with
 |.none=>lstT (bV s)
 |_=>[]
theorem Ce {s:List UInt8}(h:a7 s 0= .none):jr s=lstT (bV s):=by unfold jr;rw[h]
theorem JR {s:List UInt8}(h:a7 s 0≠ .none):jr s=[]:=by
 unfold jr
 split
 ·rename_i h2;exact absurd h2 h
 ·rfl
theorem Nv {s:List UInt8}(h:a7 s 0≠ .none):yU s=[]:=by
 unfold yU;split
 ·rename_i h2;exact absurd h2 h
 ·rfl
theorem tl {s:List UInt8}{c:UInt8}(hc:c≠92)(h:a7 s 0= .none):eE c s=(ox c (bV s)).map rawT/\∀T'∈ox c (bV s),a7 (rawT T') 0= .none/\bV (rawT T')=T':=by
 have hok:=GN s.length s (Nat.le_refl _);have hraw:=vh s.length s 0 (Nat.le_refl _) h;refine⟨?_,λT' hT=>Jt T' 0 (RS hok T' hT)⟩;have:=Qn hc hok;rwa [hraw] at this
theorem Er {s:List UInt8}{c:UInt8}(hc:c≠92)(h:a7 s 0= .none){k:Nat}(hk:k<(eE c s).length):∃T',(ox c (bV s))[k]? =some T'/\(eE c s).getD k []=rawT T'/\a7 ((eE c s).getD k []) 0= .none/\bV ((eE c s).getD k [])=T':=by
 obtain⟨h1,h2⟩:=tl hc h;have hk':k<(ox c (bV s)).length:=by rw[h1,C_] at hk;exact hk
 refine⟨(ox c (bV s))[k],y_ hk',?_⟩;have e:(eE c s).getD k []=rawT (ox c (bV s))[k]:=by
  rw[h1,f_,List.getElem?_map,y_ hk'];rfl
 rw[e];exact⟨rfl,h2 _ (K_ hk')⟩
theorem ql {α β:Type}{l:List α}{k:Nat}{a:α}(f:α->β)(h:l[k]? =some a):(l.map f).take (k+1)=(l.map f).take k++[f a]:=by
 obtain⟨hlt,e⟩:=List.getElem?_eq_some_iff.1 h;rw[x_ (by simpa using hlt)];simp[e]
theorem BO {sz:Nat}{f:Nat->AVal}{b:AVal}:Gk (.ret (.tuple [.raw (.slice none 0 0),b])) [] (.tuple [.list sz 0 f,b]):=by
 rintro C R w e hm ⟨x,rfl,⟨ws,e2,u,t,e1,hu,h3⟩,h2⟩;refine⟨R,hm,x,rfl,⟨ws,e2,u,t,e1,⟨?_,?_⟩,h3⟩,h2⟩
 ·have hr:bx R (.raw (.slice none 0 0)) u:=hu;obtain rfl:=ar.1 hr;exact⟨none,0,rfl,Nat.le_refl _,.inl rfl⟩
 ·have hr:bx R (.raw (.slice none 0 0)) u:=hu;obtain rfl:=ar.1 hr;rfl
set_option maxHeartbeats 8000000
attribute [local irreducible] bG au az aR ab ad aa eE yU a7 bV lstT jr
theorem mZ {G:Glo}(e p:Int):ak prog G 9 [.agg [.int .i64 e,.int .i64 p]] (.bool (bU e 0)):=by
 refine ax func9 call9 λC hC hGL=> ?_;exact bB
theorem Ef {G:Glo}(s:List UInt8)(hl:s.length<=2000000):ak prog G 75 [.str s] (.tuple [.list 1 (jr s).length (aB (jr s)),.agg [.int .i64 (a7 s 0).e,.int .i64 (a7 s 0).p]]):=by
 have hU:=kW (G:=G) s hl;have hF:=mZ (G:=G) (a7 s 0).e (a7 s 0).p;have hgd:=fp (G:=G);have hcut:=Jq (G:=G) s 44 hl;have hcc:=FO 44 s;by_cases he:a7 s 0= .none
 ·rw[he] at hU hF ⊢;rw[Ce he];have hUp:=λk (hk:k<(eE 44 s).length)=>kW (G:=G) ((eE 44 s).getD k []) (YX (FN 44 s (by rw[f_,y_ hk];exact K_ hk)) hl);refine nK (λa=>.tuple [a,.agg [.int .i64 (Err.none).e,.int .i64 (Err.none).p]]) (B8 _) (aB (lstT (bV s))) (gi _) (cs:=bj (lstT (bV s))) (eT:=none) ?_;refine ax func75 call75 λC hC hGL=> ?_;refine iS ?_;intro bl0 bl;intros;refine nB 6 1 rfl ?_;obtain⟨hp1,_⟩:=tl (c:=44) b_ he;have hn:(lstT (bV s)).length=(eE 44 s).length:=by rw[hp1];unfold lstT;simp
  refine lp hC hGL (λ(y:List (List UInt8)×Value)=>[(3,.own 0 (.pointer (some ⟨bl0,0,none⟩))),(6,.own 2 y.2),(21,.list 1 (eE 44 s).length (aB (eE 44 s))),(22,.int .i64 ((eE 44 s).length:Nat)),(23,.int .i64 (y.1.length:Nat))]) (λy=>[.cells bl0 (some 27) [.int .i64 0,.int .i64 0],.cells bl (some 27) [.int .i64 (Err.none).e,.int .i64 (Err.none).p],.row y.2 none 1 y.1.length (bj y.1)]) (λy=>y.1.length<=(eE 44 s).length/\y.1=(lstT (bV s)).take y.1.length) (λy=>(eE 44 s).length-y.1.length) ([],.slice none 0 0) ?_ ah rfl ?_
  ·exact⟨Nat.zero_le _,rfl⟩
  rintro⟨ps,v⟩ ⟨h1,h2⟩;have h1:ps.length<=(eE 44 s).length:=h1;have h2:ps=(lstT (bV s)).take ps.length:=h2;by_cases hlt:ps.length<(eE 44 s).length
  ·obtain⟨T',k1,k2,k3,k4⟩:=Er (c:=44) b_ he hlt;have hU1:=hUp ps.length hlt;rw[k3,GG k3,k4] at hU1;have hU1:ak prog G 74 [aB (eE 44 s) ps.length] (.tuple [.str (iT T'),.agg [.int .i64 (Err.none).e,.int .i64 (Err.none).p]]):=hU1;refine aK ?_;intros;refine ga (ps++[iT T'],.slice _ _ _) ?_ ?_ ⟨rfl,rfl,rfl,rfl,?_,trivial⟩ ?_
   ·refine⟨?_,?_⟩
    ·show(ps++[iT T']).length<=_;rw[d_,Rf];exact hlt
    ·show ps++[iT T']=(lstT (bV s)).take (ps++[iT T']).length;have e1:(lstT (bV s)).take (ps.length+1)=(lstT (bV s)).take ps.length++[iT T']:=by
      unfold lstT;exact ql iT k1
     rw[d_,Rf,e1,<-h2]
   ·show(eE 44 s).length-(ps++[iT T']).length<(eE 44 s).length-ps.length;rw[d_,Rf];omega
   ·show some (AVal.int .i64 (((ps.length:Nat):Int)+1))=some (AVal.int .i64 ((ps++[iT T']).length:Nat));rw[d_];rfl
   ·dsimp only
    rw[<-ce,d_];exact .cons_cons _ (.cons_cons _ (.cons_cons _ (Ug _)))
  ·refine aK ?_;intros;have h3:ps=lstT (bV s):=by rw[h2,u_ a_]
   subst h3;exact⟨_,.cons _ (.cons _ (.refl _)),2,v,rfl,rfl⟩
 ·have hne:=Ko he;rw[Nv he] at hU;rw[JR he];refine dA (H:=[]) (Qf:=λr H=>r= .ret (.tuple [.raw (.slice none 0 0),.agg [.int .i64 (a7 s 0).e,.int .i64 (a7 s 0).p]])/\H=[]) ?_ (λr H h=>by obtain⟨rfl,rfl⟩:=h;exact BO);refine ax func75 call75 λC hC hGL=> ?_;refine ao ?_;intro bl0 bl;intros;refine bh mixed hC hGL false (λ(_:Unit)=>[(2,.raw (.slice none 0 0)),(3,.own 0 (.pointer (some ⟨bl0,0,none⟩)))]) (λ_=>[.cells bl0 (some 27) [.int .i64 (a7 s 0).e,.int .i64 (a7 s 0).p],.cells bl (some 27) [.int .i64 (a7 s 0).e,.int .i64 (a7 s 0).p]]) (.t 1 (.b 0 (.b 2 .done))) be xu ?_;intro _;exact eK
end
section
def ET (l:List (List UInt8)):AVal:=.list 1 l.length (aB l)
def fW (L:List (List (List UInt8))):List AVal:=L.map ET
def j9 (L:List (List (List UInt8)))(i:Nat):AVal:=ET (L.getD i [])
theorem JB (L:List (List (List UInt8))):∀i,i<L.length->(j9 L i).cells=((fW L).drop (i*1)).take 1/\(j9 L i).plain=true:=by
 intro i hi;refine⟨?_,rfl⟩;rw[Nat.mul_one,A_ (by simpa[fW] using hi)];simp[j9,fW,AVal.cells,List.getD,y_ hi,ET]
theorem tj (L:List (List (List UInt8)))(l:List (List UInt8)):fW L++[ET l]=fW (L++[l]):=by simp[fW]
def qf (T:List Tk):List (List (List UInt8)):=(ox 59 T).map lstT
def j8 (s:List UInt8):List (List (List UInt8)):=match a7 s 0 with
 |.none=>qf (bV s)
 |_=>[]
theorem Jz {s:List UInt8}(h:a7 s 0= .none):j8 s=qf (bV s):=by unfold j8;rw[h]
theorem JA {s:List UInt8}(h:a7 s 0≠ .none):j8 s=[]:=by
 unfold j8;split
 ·rename_i h2;exact absurd h2 h
 ·rfl
set_option maxHeartbeats 8000000
attribute [local irreducible] bG au az aR ab ad aa eE yU a7 bV lstT jr qf j8
theorem LD {G:Glo}(s:List UInt8)(hl:s.length<=2000000):ak prog G 76 [.str s] (.tuple [.list 1 (j8 s).length (j9 (j8 s)),.agg [.int .i64 (a7 s 0).e,.int .i64 (a7 s 0).p]]):=by
 have hU:=kW (G:=G) s hl;have hF:=mZ (G:=G) (a7 s 0).e (a7 s 0).p;have hgd:=fp (G:=G);have hcut:=Jq (G:=G) s 59 hl;have hcc:=FO 59 s;by_cases he:a7 s 0= .none
 ·rw[he] at hU hF ⊢;rw[Jz he];have hUp:=λk (hk:k<(eE 59 s).length)=>Ef (G:=G) ((eE 59 s).getD k []) (YX (FN 59 s (by rw[f_,y_ hk];exact K_ hk)) hl);refine nK (λa=>.tuple [a,.agg [.int .i64 (Err.none).e,.int .i64 (Err.none).p]]) (B8 _) (j9 (qf (bV s))) (JB _) (cs:=fW (qf (bV s))) (eT:=none) ?_;refine ax func76 call76 λC hC hGL=> ?_;refine iS ?_;intro bl0 bl;intros;refine nB 6 1 rfl ?_;obtain⟨hp1,_⟩:=tl (c:=59) b_ he;have hn:(qf (bV s)).length=(eE 59 s).length:=by rw[hp1];unfold qf;simp
  refine lp hC hGL (λ(y:List (List (List UInt8))×Value)=>[(3,.own 0 (.pointer (some ⟨bl0,0,none⟩))),(6,.own 2 y.2),(21,.list 1 (eE 59 s).length (aB (eE 59 s))),(22,.int .i64 ((eE 59 s).length:Nat)),(23,.int .i64 (y.1.length:Nat))]) (λy=>[.cells bl0 (some 27) [.int .i64 0,.int .i64 0],.cells bl (some 27) [.int .i64 (Err.none).e,.int .i64 (Err.none).p],.row y.2 none 1 y.1.length (fW y.1)]) (λy=>y.1.length<=(eE 59 s).length/\y.1=(qf (bV s)).take y.1.length) (λy=>(eE 59 s).length-y.1.length) ([],.slice none 0 0) ?_ ah rfl ?_
  ·exact⟨Nat.zero_le _,rfl⟩
  rintro⟨ps,v⟩ ⟨h1,h2⟩;have h1:ps.length<=(eE 59 s).length:=h1;have h2:ps=(qf (bV s)).take ps.length:=h2;by_cases hlt:ps.length<(eE 59 s).length
  ·obtain⟨T',k1,k2,k3,k4⟩:=Er (c:=59) b_ he hlt;have hU1:=hUp ps.length hlt;rw[k3,Ce k3,k4] at hU1;have hU1:ak prog G 75 [aB (eE 59 s) ps.length] (.tuple [.list 1 (lstT T').length (aB (lstT T')),.agg [.int .i64 (Err.none).e,.int .i64 (Err.none).p]]):=hU1;refine aK ?_;intros;refine ga (ps++[lstT T'],.slice _ _ _) ?_ ?_ ⟨rfl,rfl,rfl,rfl,?_,trivial⟩ ?_
   ·refine⟨?_,?_⟩
    ·show(ps++[lstT T']).length<=_;rw[d_,Rf];exact hlt
    ·show ps++[lstT T']=(qf (bV s)).take (ps++[lstT T']).length;have e1:(qf (bV s)).take (ps.length+1)=(qf (bV s)).take ps.length++[lstT T']:=by
      unfold qf;exact ql lstT k1
     rw[d_,Rf,e1,<-h2]
   ·show(eE 59 s).length-(ps++[lstT T']).length<(eE 59 s).length-ps.length;rw[d_,Rf];omega
   ·show some (AVal.int .i64 (((ps.length:Nat):Int)+1))=some (AVal.int .i64 ((ps++[lstT T']).length:Nat));rw[d_];rfl
   ·dsimp only
    rw[<-tj,d_];exact .cons_cons _ (.cons_cons _ (.cons_cons _ (Ug _)))
  ·refine aK ?_;intros;have h3:ps=qf (bV s):=by rw[h2,u_ a_]
   subst h3;exact⟨_,.cons _ (.cons _ (.refl _)),2,v,rfl,rfl⟩
 ·have hne:=Ko he;rw[Nv he] at hU;rw[JA he];refine dA (H:=[]) (Qf:=λr H=>r= .ret (.tuple [.raw (.slice none 0 0),.agg [.int .i64 (a7 s 0).e,.int .i64 (a7 s 0).p]])/\H=[]) ?_ (λr H h=>by obtain⟨rfl,rfl⟩:=h;exact BO);refine ax func76 call76 λC hC hGL=> ?_;refine ao ?_;intro bl0 bl;intros;refine bh mixed hC hGL false (λ(_:Unit)=>[(2,.raw (.slice none 0 0)),(3,.own 0 (.pointer (some ⟨bl0,0,none⟩)))]) (λ_=>[.cells bl0 (some 27) [.int .i64 (a7 s 0).e,.int .i64 (a7 s 0).p],.cells bl (some 27) [.int .i64 (a7 s 0).e,.int .i64 (a7 s 0).p]]) (.t 1 (.b 0 (.b 2 .done))) be xu ?_;intro _;exact eK
end
section
def Vl.no:Vl:=⟨0,[],[],Stm.no,0⟩
def nV (s:List UInt8)(k:Int):Vl×Err:=
 if k=1 then(⟨k,yU s,[],Stm.no,0⟩,a7 s 0)
 else if k=2 then(⟨k,[],[jr s],Stm.no,0⟩,a7 s 0)
 else if k=3 then(⟨k,[],j8 s,Stm.no,0⟩,a7 s 0)
 else if k=4 then(⟨k,s,[],Stm.no,0⟩,gx s)
 else if k=5 then(⟨k,[],[],(Gp s).1,0⟩,(Gp s).2)
 else if k=6 then(⟨k,[],[],Stm.no,(bI s).1⟩,gP s)
 else if k=7 then(⟨k,s,[],Stm.no,0⟩,dG s)
 else(⟨k,s,[],Stm.no,0⟩,.none)
def nc (s:List UInt8)(k:Int):Vl×Err:=
 if k<1\/9<=k then(Vl.no,.errno 1)
 else if fd false s=false then(Vl.no,.errno 3)
 else match (nV s k).2 with
  |.none=>nV s k
  |e=>(Vl.no,e)
end
section
structure LineS where
 t:List UInt8
 a:Nat
 f:List Int
def uv (l:LineS):AVal:=.agg [.str l.t,.int .i64 l.a,.list 1 l.f.length (eo l.f)]
def aW (L:List LineS):List AVal:=L.flatMap λl=>[.str l.t,.int .i64 l.a,.list 1 l.f.length (eo l.f)]
def cM (L:List LineS)(i:Nat):AVal:=uv (L.getD i ⟨[],0,[]⟩)
theorem gp (L:List LineS):(aW L).length=L.length*3:=by
 induction L with
 |nil=>rfl
 |cons l L ih=>
  have e:aW (l::L)=[.str l.t,.int .i64 l.a,.list 1 l.f.length (eo l.f)]++aW L:=rfl;rw[e,d_,ih,j_];simp only[j_,E_];omega
theorem jJ (L M:List LineS):aW (L++M)=aW L++aW M:=by simp[aW]
theorem Az (L:List LineS):∀i,i<L.length->(cM L i).cells=((aW L).drop (i*3)).take 3/\(cM L i).plain=true:=by
 intro i hi;refine⟨?_,rfl⟩;have h1:L=L.take i++L[i]::L.drop (i+1):=by rw[<-A_ hi,List.take_append_drop]
 have h2:aW L=aW (L.take i)++([.str L[i].t,.int .i64 L[i].a,.list 1 L[i].f.length (eo L[i].f)]++aW (L.drop (i+1))):=by
  conv=>lhs;rw[h1,jJ]
  rfl
 have h3:(aW (L.take i)).length=i*3:=by rw[gp,i_];omega
 rw[h2,List.drop_append_of_le_length a_,List.drop_eq_nil_of_le a_];simp[cM,uv,AVal.cells,List.getD,y_ hi]
def cU (p:List UInt8):Bool:= !(p.length==0)&&(aa p 0==32||aa p 0==9)
def nT (L:List LineS)(p:List UInt8)(a:Nat):Err×List LineS:=
 if cU p then match L.getLast? with
  |none=>(.at 10 0,[])
  |some l=>if 1500<l.t.length+(p.length-1) then(.at 4 l.a,[]) else(.none,L.dropLast++[⟨l.t++p.drop 1,l.a,l.f++[(l.t.length:Int)]⟩])
 else if 1500<p.length then(.at 4 a,[]) else(.none,L++[⟨p,a,[]⟩])
def iB (t:List UInt8)(i:Nat):Bool:=aa t i==13&&decide (i+1<t.length)&&aa t (i+1)==10
def cw (t:List UInt8)(a:Nat)(L:List LineS):Err×List LineS:=
 if h:a<t.length then
  if fb (t.drop a)<0 then(.at 7 t.length,[])
  else if iB t (a+(fb (t.drop a)).toNat) then
   match nT L ((t.drop a).take (fb (t.drop a)).toNat) a with
   |(.none,L')=>cw t (a+(fb (t.drop a)).toNat+2) L'
   |(e,_)=>(e,[])
  else(.at 3 (a+fb (t.drop a)),[])
 else(.none,L)
termination_by t.length-a
def ca (t:List UInt8):Err:=if 20000<t.length then .errno 4 else(cw t 0 []).1
def ci (t:List UInt8):List LineS:=if 20000<t.length then[] else(cw t 0 []).2
theorem oL {s:List UInt8}:∀{n:Nat},n<=s.length->(∀j,j<n->aa s j≠10/\aa s j≠13)->Lib.NoAny s [13,10] n
 |0,_,_=>Lib.NoAny.zero _ _
 |n+1,hn,h=>Hx (oL a_ λj hj=>h j a_) a_ (h n a_)
theorem yv (s:List UInt8):∀k,k<=s.length->(∀j,j<k->aa s j≠10/\aa s j≠13)\/∃n,n<k/\(aa s n=10\/aa s n=13)/\∀j,j<n->aa s j≠10/\aa s j≠13
 |0,_=>.inl λj h=>absurd h (Uf _)
 |k+1,hk=>by
  rcases yv s k a_ with h|⟨n,h1,h2⟩
  ·by_cases hb:aa s k=10\/aa s k=13
   ·exact .inr ⟨k,a_,hb,h⟩
   ·refine .inl λj hj=> ?_;by_cases e:j=k
    ·subst e;omega
    ·exact h j a_
  ·exact .inr ⟨n,a_,h2⟩
theorem yw (s:List UInt8):(fb s= -1/\∀j,j<s.length->aa s j≠10/\aa s j≠13)\/∃n,n<s.length/\fb s=(n:Int)/\(aa s n=10\/aa s n=13)/\∀j,j<n->aa s j≠10/\aa s j≠13:=by
 rcases yv s s.length (Nat.le_refl _) with h|⟨n,h1,h2,h3⟩
 ·exact .inl ⟨FR (oL (Nat.le_refl _) h),h⟩
 ·exact .inr ⟨n,h1,Kz (oL a_ h3) h1 h2,h2,h3⟩
theorem Te {s:List UInt8}{n:Nat}(h1:n<s.length)(h2:aa s n=10\/aa s n=13)(h3:∀j,j<n->aa s j≠10/\aa s j≠13):fb s=n:=Kz (oL a_ h3) h1 h2
theorem tA {t:List UInt8}{a:Nat}{L:List LineS}(h:¬a<t.length):cw t a L=(.none,L):=by
 rw[cw,dif_neg h]
theorem qR {t:List UInt8}{a:Nat}{L:List LineS}(h:a<t.length)(hc:fb (t.drop a)= -1):cw t a L=(.at 7 t.length,[]):=by
 rw[cw,dif_pos h,if_pos a_]
theorem tB {t:List UInt8}{a n:Nat}{L:List LineS}(h:a<t.length)(hc:fb (t.drop a)=(n:Int))(hb:iB t (a+n)=false):cw t a L=(.at 3 ((a:Int)+n),[]):=by
 rw[cw,dif_pos h,if_neg a_,hc,B_,hb];rfl
theorem oR {t:List UInt8}{a n:Nat}{L:List LineS}(h:a<t.length)(hc:fb (t.drop a)=(n:Int))(hb:iB t (a+n)=true):
  cw t a L=match nT L ((t.drop a).take n) a with
   |(.none,L')=>cw t (a+n+2) L'
   |(e,_)=>(e,[]):=by
 rw[cw,dif_pos h,if_neg a_,hc,B_,hb,if_pos rfl]
theorem FQ (t:List UInt8)(k:Nat)(hk:k<t.length):([13,10]:List UInt8).isPrefixOf (t.drop k)=iB t k:=by
 unfold iB;rw[A_ hk]
 simp only[List.isPrefixOf]
 have e1:((13:UInt8)==t[k])=(aa t k==13):=by
  rw[bn hk,w_,YS,YS,<-UInt8.toNat_inj]
  exact eq_comm
 rw[e1]
 by_cases h2:k+1<t.length
 ·rw[A_ h2]
  have e2:((10:UInt8)==t[k+1])=(aa t (k+1)==10):=by
   rw[bn h2,w_,YS,YS,<-UInt8.toNat_inj]
   exact eq_comm
  simp[List.isPrefixOf,e2,h2]
 ·rw[List.drop_eq_nil_of_le a_]
  simp[List.isPrefixOf,h2]
theorem xN {p:List UInt8}:cU p=true↔0<p.length/\(aa p 0=32\/aa p 0=9):=by
 unfold cU;simp[Nat.pos_iff_ne_zero]
theorem Fb {p:List UInt8}:cU p=false↔(p.length=0\/(aa p 0≠32/\aa p 0≠9)):=by
 rw[<-W_,xN];omega
theorem pV {p:List UInt8}(h0:p.length≠0)(h:(aa p 0:Int)=32):cU p=true:=xN.2 ⟨a_,a_⟩
theorem pU {p:List UInt8}(h0:p.length≠0)(h:(aa p 0:Int)=9):cU p=true:=xN.2 ⟨a_,a_⟩
theorem kg {p:List UInt8}(h1:(aa p 0:Int)≠32)(h2:(aa p 0:Int)≠9):cU p=false:=Fb.2 (.inr ⟨a_,a_⟩)
theorem iL {p:List UInt8}(h0:p.length=0):cU p=false:=Fb.2 (.inl h0)
theorem gX {p:List UInt8}{a:Nat}(h:cU p=true):nT [] p a=(.at 10 0,[]):=by
 unfold nT;rw[if_pos h];rfl
theorem gv {I:List LineS}{l:LineS}{p:List UInt8}{a:Nat}(h:cU p=true)(hl:1500<l.t.length+(p.length-1)):nT (I++[l]) p a=(.at 4 l.a,[]):=by
 unfold nT;rw[if_pos h];simp[hl]
theorem ud {I:List LineS}{l:LineS}{p:List UInt8}{a:Nat}(h:cU p=true)(hl:¬1500<l.t.length+(p.length-1)):nT (I++[l]) p a=(.none,I++[⟨l.t++p.drop 1,l.a,l.f++[(l.t.length:Int)]⟩]):=by
 unfold nT;rw[if_pos h];simp[hl]
theorem gG {L:List LineS}{p:List UInt8}{a:Nat}(h:cU p=false)(hl:1500<p.length):nT L p a=(.at 4 a,[]):=by
 unfold nT;rw[h,if_neg b_,if_pos hl]
theorem jp {L:List LineS}{p:List UInt8}{a:Nat}(h:cU p=false)(hl:¬1500<p.length):nT L p a=(.none,L++[⟨p,a,[]⟩]):=by
 unfold nT;rw[h,if_neg b_,if_neg hl]
end
section
attribute [local irreducible] bG au aa az aR ab ad
attribute [local irreducible] dP Lv fZ To
abbrev qK (e p:Int):AVal:=.iface 87 (.agg [.int .i64 e,.int .i64 p])
theorem pI {G:Glo}(e p:Int):ad prog G 19 [.int .i64 e,.int .i64 p] [] (λr H=>r= .panic (qK e p)/\H=[]):=by
 refine ax func19 call19 λC hC hGL=> ?_;refine aK ?_;exact T1 rfl
theorem wL {G:Glo}(b:Nat)(e p:Int)(x y:AVal):dP prog G 18 [.own 0 (.pointer (some ⟨b,0,none⟩))] (.pan (qK e p)) [.cells b (some 27) [x,y]]
  (λr m H=>m= .rcv (qK e p)/\r= .ret (.tuple [])/\H=[.cells b (some 27) [.int .i64 e,.int .i64 p]]):=by
 have hGL:ab G []:=al;refine CB (rs:=[]) (GL:=[]) func18 rfl rfl rfl rfl rfl rfl hGL ?_;intro C hC;exact bB
theorem rQ {G:Glo}(b:Nat)(x:HEnt):dP prog G 18 [.own 0 (.pointer (some ⟨b,0,none⟩))] .ret [x]
  (λr m H=>m= .ret/\r= .ret (.tuple [])/\H=[x]):=by
 have hGL:ab G []:=al;refine CB (rs:=[]) (GL:=[]) func18 rfl rfl rfl rfl rfl rfl hGL ?_;intro C hC;exact bB
theorem gA {G:Glo}(e p:Int):ak prog G 9 [.agg [.int .i64 e,.int .i64 p]] (.bool (bU e 0)):=by
 refine ax func9 call9 λC hC hGL=> ?_;exact bB
end
section
def kJ (L:List LineS):List Int:=match L.getLast? with
 |none=>[]
 |some l=>l.f
def nZ (L:List LineS)(i:Nat)(u:Value):List AVal:=match L.getLast? with
 |none=>[]
 |some l=>aW L.dropLast++[.str l.t,.int .i64 l.a,.own i u]
theorem nJ (I:List LineS)(l:LineS)(i:Nat)(u:Value):nZ (I++[l]) i u=aW I++[.str l.t,.int .i64 l.a,.own i u]:=by
 simp[nZ]
theorem nG (I:List LineS)(l:LineS):kJ (I++[l])=l.f:=by simp[kJ]
theorem VX {A:List AVal}{x y z w:AVal}{N:Nat}(hA:A.length=N):(A++[x,y,z]).take (N+2)++[w]++(A++[x,y,z]).drop (N+2+1)=A++[x,y,w]:=by
 subst hA;simp[List.take_append,List.drop_append,u_,show A.length+2+1-A.length=3 by omega];omega
theorem VY {A:List AVal}{x y z w:AVal}{N:Nat}(hA:A.length=N):(A++[x,y,z]).take (N+0)++[w]++(A++[x,y,z]).drop (N+0+1)=A++[w,y,z]:=by
 subst hA;simp[List.drop_append,show A.length+1-A.length=1 by omega]
theorem wf {A:List AVal}{x y z:AVal}{N k:Nat}(hA:A.length=N)(hk:k=N):((A++[x,y,z]).drop k).take 3=[x,y,z]:=by
 subst hA;subst hk;simp
theorem PK {A:List AVal}{l:List AVal}{N k:Nat}(hA:A.length=N):(A++l)[N+k]? =l[k]? :=by
 subst hA;rw[G_ a_,T_]
abbrev Ey (I:List LineS)(x:List UInt8)(a:Nat)(u:Value):List AVal:=aW I++[.str x,.int .i64 a,.own 1 u]
theorem AO (i:Nat)(u:Value):nZ [] i u=[]:=rfl
theorem AD:kJ []=[]:=rfl
def rvA (b:Nat):Nat->Option Addr
 |0=>none
 |_+1=>some ⟨b,0,none⟩
def rvC (cap:Nat):Nat->Nat
 |0=>0
 |_+1=>cap
abbrev cJ (b cap m:Nat):Value:=.slice (rvA b m) m (rvC cap m)
section
variable {C:Ctx} {n:Nat} {e:Env}
theorem Dv {v:Value}{p:List UInt8}{a m:Nat}(hm:m=1):To C n e [.row v none 3 m [.str p,.int .i64 a,.raw (.slice none 0 0)]] e
  [.row v none 3 [(⟨p,a,[]⟩:LineS)].length (nZ [⟨p,a,[]⟩] 1 (.slice none 0 0)),.row (.slice none 0 0) none 1 (kJ [⟨p,a,[]⟩]).length (gJ (kJ [⟨p,a,[]⟩]))]:=by
 subst hm;refine an (fg 1) ?_;exact jO (i:=0) (p:=2) (x:=.row v none 3 1 [.str p,.int .i64 a,.raw (.slice none 0 0)]) (a':=.own 1 (.slice none 0 0)) rfl (λR=>.row rfl λ_=>jU)
theorem I9 {v u:Value}{I:List LineS}{l:LineS}{p:List UInt8}{a m:Nat}(hm:m=(I++[l]++[(⟨p,a,[]⟩:LineS)]).length):To C n e [.row v none 3 m (aW I++([.str l.t,.int .i64 l.a,.own 1 u]:List AVal)++([.str p,.int .i64 a,.raw (.slice none 0 0)]:List AVal)),.row u none 1 l.f.length (gJ l.f)] e
  [.row v none 3 (I++[l]++[(⟨p,a,[]⟩:LineS)]).length (nZ (I++[l]++[⟨p,a,[]⟩]) 1 (.slice none 0 0)),.row (.slice none 0 0) none 1 (kJ (I++[l]++[⟨p,a,[]⟩])).length (gJ (kJ (I++[l]++[⟨p,a,[]⟩])))]:=by
 have hI:=gp I;rw[<-hm,nG];refine an (kS (i:=1) (k:=0) (p:=I.length*3+2) (eo l.f) rfl rfl (xO _) (λR hr=>.row (a:=.own 1 u) ?_ λ_=>cE hr)) ?_
 ·rw[An,G_ a_,hI,T_];rfl
 have e1:(aW I++([.str l.t,.int .i64 l.a,.own 1 u]:List AVal)++([.str p,.int .i64 a,.raw (.slice none 0 0)]:List AVal)).set (I.length*3+2) (.list 1 l.f.length (eo l.f))=aW (I++[l])++[.str p,.int .i64 a,.raw (.slice none 0 0)]:=by
  rw[An,List.set_append_right _ _ a_,hI,T_,jJ];simp[aW]
 rw[e1];refine an (fg 1) ?_;have hI2:=gp (I++[l]);have e2:(aW (I++[l])++([.str p,.int .i64 a,.raw (.slice none 0 0)]:List AVal)).set ((I++[l]).length*3+2) (.own 1 (.slice none 0 0))=nZ (I++[l]++[⟨p,a,[]⟩]) 1 (.slice none 0 0):=by
  rw[nJ,List.set_append_right _ _ a_,hI2,T_];rfl
 rw[<-e2];refine jO (i:=0) (p:=(I++[l]).length*3+2) (x:=.row v none 3 m (aW (I++[l])++[.str p,.int .i64 a,.raw (.slice none 0 0)])) (a':=.own 1 (.slice none 0 0)) rfl (λR=>.row (a:=.raw (.slice none 0 0)) ?_ λ_=>jU);rw[G_ a_,hI2,T_];rfl
end
attribute [local irreducible] bG au aa az aR ab ad
attribute [local irreducible] aW nZ kJ cU nT fb iB To dP Lv
theorem Id {G:Glo}(t:List UInt8)(hl:t.length<=9223372036854775000):ad prog G 11 [.str t] [] (λr H=>(r= .ret (.tuple [.raw (.slice none 0 0),(ca t).A])/\ci t=[]/\H=[])\/
  ∃v u,r= .ret (.tuple [.own 0 v,(ca t).A])/\H=[.row v none 3 (ci t).length (nZ (ci t) 1 u),.row u none 1 (kJ (ci t)).length (gJ (kJ (ci t)))]):=by
 refine ax func11 call11 λC hC hGL=> ?_;have hI:=λa h=>sd (G:=G) (a:=13) (b:=10) b_ b_ (t.drop a) h;have hP:=λa=>xZ (G:=G) (t.drop a) [13,10];refine xw ?_;repeat' first|exact .n|apply Lc.mk
 all_goals intros
 ·refine⟨[],Ug _,.inl ⟨?_,by unfold ci;rw[if_pos a_],rfl⟩⟩;unfold ca;rw[if_pos a_];rfl
 refine VF hC hGL (λ(x:Nat×List LineS×Nat×Nat×Value)=>[(0,.str t),(4,.own 0 (cJ x.2.2.1 x.2.2.2.1 x.2.1.length)),(5,.int .i64 x.1)]) (λx=>[.row (cJ x.2.2.1 x.2.2.2.1 x.2.1.length) none 3 x.2.1.length (nZ x.2.1 1 x.2.2.2.2),.row x.2.2.2.2 none 1 (kJ x.2.1).length (gJ (kJ x.2.1))])
  (λx=>x.2.1.length<=x.1/\cw t 0 []=cw t x.1 x.2.1/\∀l,x.2.1.getLast? =some l->l.t.length<=x.1/\l.f.length<=x.1) (λx=>t.length-x.1) (0,[],0,0,.slice none 0 0) ?_ ?_ ?_
 ·exact⟨Nat.le_refl _,rfl,λl h=>by cases h⟩
 ·dsimp only
  rw[AO,AD];refine an (GP (k:=4) (i:=0) rfl rfl) (an (fg 3) (an (fg 1) (bL ⟨rfl,rfl,rfl,trivial⟩ (At _))))
 rintro⟨a,L,b,cap,u⟩ ⟨g1,g2,g3⟩;dsimp only at g1 g2 g3 ⊢;have hE:ca t=(cw t a L).1:=by unfold ca;rw[if_neg a_,g2]
 have hL:ci t=(cw t a L).2:=by unfold ci;rw[if_neg a_,g2]
 by_cases ha:a<t.length
 ·rcases yw (t.drop a) with⟨hc,_⟩|⟨n,hn,hc,hcb,hc0⟩
  ·have h1:=qR (L:=L) ha hc;have hI:=hI a (by rw[k_];omega);rw[show Lib.indexAny (t.drop a) [13,10]=fb (t.drop a) by unfold fb;rfl,hc] at hI;refine aK ?_;intros;refine⟨[],Ug _,.inl ⟨?_,by rw[hL,h1],rfl⟩⟩;rw[hE,h1];rfl
  ·rw[k_] at hn;have h1:=tB (L:=L) ha hc;have h2:=oR (L:=L) ha hc;have hI:=hI a (by rw[k_];omega);rw[show Lib.indexAny (t.drop a) [13,10]=fb (t.drop a) by unfold fb;rfl,hc] at hI;have hP:=hP (a+n);rw[FQ t (a+n) a_] at hP;rw[show(t.drop a).take n=(t.take (a+n)).drop a by rw[List.drop_take,T_]] at h2;have hpl:((t.take (a+n)).drop a).length=n:=by rw[k_,i_];omega
   cases hk:iB t (a+n) with
   |false=>
    rw[hk] at hP h1;refine aK ?_;intros;refine⟨[],Ug _,.inl ⟨?_,by rw[hL,h1 rfl],rfl⟩⟩;rw[hE,h1 rfl];rfl
   |true=>
    rw[hk] at hP h2;have h2:=h2 rfl;clear h1;rcases List.eq_nil_or_concat L with rfl|⟨I,l,rfl⟩
    ·rw[AO,AD];refine xw ?_;repeat' first|exact .n|apply Lc.mk
     all_goals intros
     iterate 2
      ·have hF:cU ((t.take (a+n)).drop a)=true:=by first|exact pV (by assumption) (by assumption)|exact pU (by assumption) (by assumption)
       refine⟨[],Ug _,.inl ⟨?_,by rw[hL,h2,gX hF],rfl⟩⟩;rw[hE,h2,gX hF];rfl
     ·rename_i va vk vc hva _ _ _ _ _ _ _;have hF:cU ((t.take (a+n)).drop a)=false:=by first|exact iL (by assumption)|exact kg (by assumption) (by assumption)
      obtain⟨bv,rfl,rfl⟩:=hva (by simp);refine aK ?_;intros;refine oA ⟨⟨_,rfl⟩,by simp,by simp⟩ ?_;refine yb (c:=[.str ((t.take (a+n)).drop a),.int .i64 a,.raw (.slice none 0 0)]) rfl ?_;refine xn ?_;repeat' first|exact .n|apply Lc.mk
      all_goals intros
      ·rename_i bl _;refine bh mixed hC hGL false (λ(_:Unit)=>[(2,.raw (.slice none 0 0)),(3,sP 4 a)]) (λ_=>[.row (.slice (some ⟨bv,0,none⟩) 1 vc) none 3 1 [.str ((t.take (a+n)).drop a),.int .i64 a,.raw (.slice none 0 0)],.row u none 1 0 [],.cells bl (some 66) [.str ((t.take (a+n)).drop a),.int .i64 a,.raw (.slice none 0 0)]]) .p11 be xu ?_
       ·intro _;refine ao ?_;intros;refine⟨[],Ug _,.inl ⟨?_,by rw[hL,h2,gG hF a_],rfl⟩⟩;rw[hE,h2,gG hF a_];rfl
      ·refine C9 (a+n+2,[⟨(t.take (a+n)).drop a,a,[]⟩],bv,vc,.slice none 0 0) ⟨by simp,?_,λl h=>by have e:(⟨(t.take (a+n)).drop a,a,[]⟩:LineS)=l:=(by simpa using h);subst e;exact⟨by show((t.take (a+n)).drop a).length<=_;omega,Nat.zero_le _⟩⟩ (by dsimp only;omega) ?_
       ·dsimp only
        rw[g2,h2,jp hF a_];rfl
       ·dsimp only
        refine an (bL (e':=[(0,.str t),(4,.own 0 (.slice (some ⟨bv,0,none⟩) 1 vc)),(5,.int .i64 ((a+n+2:Nat):Int))]) (h':=[.row (.slice (some ⟨bv,0,none⟩) 1 vc) none 3 1 [.str ((t.take (a+n)).drop a),.int .i64 a,.raw (.slice none 0 0)]]) ⟨rfl,rfl,congrArg (λz=>some (AVal.int .i64 z)) a_,trivial⟩ (by exact V_ _ (Ug _))) (Dv rfl)
     ·rename_i va vk vc hva _ _ _;have hF:cU ((t.take (a+n)).drop a)=false:=by first|exact iL (by assumption)|exact kg (by assumption) (by assumption)
      obtain⟨bv,rfl,rfl⟩:=hva (by simp);refine aK ?_;intros;refine oA ⟨⟨_,rfl⟩,by simp,by simp⟩ ?_;refine yb (c:=[.str ((t.take (a+n)).drop a),.int .i64 a,.raw (.slice none 0 0)]) rfl ?_;refine xn ?_;repeat' first|exact .n|apply Lc.mk
      all_goals intros
      ·refine C9 (a+n+2,[⟨(t.take (a+n)).drop a,a,[]⟩],bv,vc,.slice none 0 0) ⟨by simp,?_,λl h=>by have e:(⟨(t.take (a+n)).drop a,a,[]⟩:LineS)=l:=(by simpa using h);subst e;exact⟨by show((t.take (a+n)).drop a).length<=_;omega,Nat.zero_le _⟩⟩ (by dsimp only;omega) ?_
       ·dsimp only
        rw[g2,h2,jp hF a_];rfl
       ·dsimp only
        refine an (bL (e':=[(0,.str t),(4,.own 0 (.slice (some ⟨bv,0,none⟩) 1 vc)),(5,.int .i64 ((a+n+2:Nat):Int))]) (h':=[.row (.slice (some ⟨bv,0,none⟩) 1 vc) none 3 1 [.str ((t.take (a+n)).drop a),.int .i64 a,.raw (.slice none 0 0)]]) ⟨rfl,rfl,congrArg (λz=>some (AVal.int .i64 z)) a_,trivial⟩ (by exact V_ _ (Ug _))) (Dv rfl)
    ·rw[List.concat_eq_append] at*
     have hll:(I++[l]).length=I.length+1:=by simp
     rw[nJ,nG,hll];rw[hll] at g1;obtain⟨g4,g5⟩:=g3 l (by simp);have jV:(((t.take (a+n)).drop a).drop 1).length=n-1:=by rw[k_,hpl]
     have hI3:=gp I;have q2:(Ey I l.t l.a u)[I.length*3+2]? =some (.own 1 u):=PK hI3;have q0:∀u,(Ey I l.t l.a u)[I.length*3+0]? =some (.str l.t):=λu=>PK hI3;have q0':=q0 u;have ra:cd (cJ b cap (I.length+1)) b (I.length+1):=⟨cap,rfl⟩;have ra2:cd (cJ b cap (I.length+1)) b (I.length+1)/\I.length*3+2<(I.length+1)*3:=⟨ra,a_⟩;have ra0:cd (cJ b cap (I.length+1)) b (I.length+1)/\I.length*3+0<(I.length+1)*3:=⟨ra,a_⟩;have rb2:cd (cJ b cap (I.length+1)) b (I.length+1)/\I.length*3+2+1<=(I.length+1)*3/\0<I.length+1:=⟨ra,a_,a_⟩;have rb0:cd (cJ b cap (I.length+1)) b (I.length+1)/\I.length*3+0+1<=(I.length+1)*3/\0<I.length+1:=⟨ra,a_,a_⟩;refine xn ?_;repeat' first|exact .n|apply Lc.mk
     all_goals intros
     iterate 2
      ·have hF:cU ((t.take (a+n)).drop a)=true:=by first|exact pV (by assumption) (by assumption)|exact pU (by assumption) (by assumption)
       refine eq (e':=[(0,.str t),(4,.own 0 (cJ b cap (I.length+1))),(5,.int .i64 a),(6,.int .i64 n),(7,.str ((t.take (a+n)).drop a)),(8,.own 0 (.pointer (some ⟨b,I.length*3,none⟩)))]) (bL ⟨rfl,rfl,rfl,rfl,rfl,congrArg (λz=>some (AVal.own 0 (.pointer (some ⟨b,z,none⟩)))) (show(((I.length+1:Nat):Int)-1).toNat*3=I.length*3 by omega),trivial⟩ (At _)) ?_;refine bh mixed hC hGL false (λ(_:Option Addr×Nat×Nat)=>[(0,.str t),(4,.own 0 (cJ b cap (I.length+1))),(5,.int .i64 a),(6,.int .i64 n),(7,.str ((t.take (a+n)).drop a)),(8,.own 0 (.pointer (some ⟨b,I.length*3,none⟩)))]) (λy=>[.row (cJ b cap (I.length+1)) none 3 (I.length+1) ((Ey I l.t l.a u).take (I.length*3+2)++[.own 1 (.slice y.1 y.2.1 y.2.2)]++(Ey I l.t l.a u).drop (I.length*3+2+1)),.row (.slice y.1 y.2.1 y.2.2) none 1 (l.f.length+1) (gJ l.f++[.int .i64 l.t.length])]) (.t 0 (.t 1 (.t 2 (.t 3 (.t 5 (.t 6 (.t 7 (.br 4 (.b 8 (.b 9 (.b 10 (.b 11 (.t 12 (.t 13 (.b 14 .done))))))) (.b 8 (.br 4 (.b 9 (.b 10 (.b 11 (.t 12 (.t 13 (.b 14 .done)))))) (.b 9 (.br 4 (.b 10 (.b 11 (.t 12 (.t 13 (.b 14 .done))))) (.b 10 (.b 4 (.b 11 (.t 12 (.t 13 (.b 14 .done)))))))))))))))))) be xu ?_
       ·rintro⟨va,vk,vc⟩;dsimp only
        rw[VX hI3];have q0':=q0 (.slice va vk vc);refine ao ?_;intros;refine bh mixed hC hGL false (λ(_:Unit)=>[(0,.str t),(4,.own 0 (cJ b cap (I.length+1))),(5,.int .i64 a),(6,.int .i64 n),(7,.str ((t.take (a+n)).drop a))]) (λ_=>[.row (cJ b cap (I.length+1)) none 3 (I.length+1) ((Ey I l.t l.a (.slice va vk vc)).take (I.length*3+0)++[.str (l.t++((t.take (a+n)).drop a).drop 1)]++(Ey I l.t l.a (.slice va vk vc)).drop (I.length*3+0+1)),.row (.slice va vk vc) none 1 (l.f.length+1) (gJ l.f++[.int .i64 l.t.length])]) (.t 0 (.t 1 (.t 2 (.t 4 (.t 5 (.b 3 (.t 6 (.t 7 (.t 8 (.b 9 .done)))))))))) be xu ?_
        ·intro _;rw[VY hI3];refine ao ?_;intros;refine oA ⟨ra,show(((I.length+1:Nat):Int)-1).toNat*3+3<=(I.length+1)*3 by omega,a_⟩ ?_;refine yb (c:=[.str (l.t++((t.take (a+n)).drop a).drop 1),.int .i64 l.a,.own 1 (.slice va vk vc)]) (wf hI3 (show(((I.length+1:Nat):Int)-1).toNat*3=I.length*3 by omega)) ?_;have hal:(l.t++((t.take (a+n)).drop a).drop 1).length=l.t.length+(n-1):=by rw[d_,jV]
         refine xn ?_;repeat' first|exact .n|apply Lc.mk
         all_goals intros
         ·rename_i bl _;refine bh mixed hC hGL false (λ(_:Unit)=>[(2,.raw (.slice none 0 0)),(3,sP 4 l.a)]) (λ_=>[.row (cJ b cap (I.length+1)) none 3 (I.length+1) (aW I++[.str (l.t++((t.take (a+n)).drop a).drop 1),.int .i64 l.a,.own 1 (.slice va vk vc)]),.row (.slice va vk vc) none 1 (l.f.length+1) (gJ l.f++[.int .i64 l.t.length]),.cells bl (some 66) [.str (l.t++((t.take (a+n)).drop a).drop 1),.int .i64 l.a,.own 1 (.slice va vk vc)]]) .p11 be xu ?_
          ·intro _;refine ao ?_;intros;refine⟨[],Ug _,.inl ⟨?_,by rw[hL,h2,gv hF a_],rfl⟩⟩;rw[hE,h2,gv hF a_];rfl
         ·refine C9 (a+n+2,I++[⟨l.t++((t.take (a+n)).drop a).drop 1,l.a,l.f++[(l.t.length:Int)]⟩],b,cap,(.slice va vk vc)) ⟨by simp only[d_,j_,E_];omega,?_,λl' h=>by have e:(⟨l.t++((t.take (a+n)).drop a).drop 1,l.a,l.f++[(l.t.length:Int)]⟩:LineS)=l':=(by simpa using h);subst e;exact⟨by show(l.t++((t.take (a+n)).drop a).drop 1).length<=_;omega,by show(l.f++[(l.t.length:Int)]).length<=_;rw[d_,j_,E_];omega⟩⟩ (by dsimp only;omega) ?_
          ·dsimp only
           rw[g2,h2,ud hF a_]
          ·dsimp only
           have hm:(I++[(⟨l.t++((t.take (a+n)).drop a).drop 1,l.a,l.f++[(l.t.length:Int)]⟩:LineS)]).length=I.length+1:=by simp
           rw[nJ,nG,hm];refine bL ⟨rfl,rfl,congrArg (λz=>some (AVal.int .i64 z)) a_,trivial⟩ ?_;dsimp only
           rw[<-xP,d_];exact V_ _ (V_ _ (Ug _))
     ·rename_i va vk vc hva _ _ _ _ _ _ _;have hF:cU ((t.take (a+n)).drop a)=false:=by first|exact iL (by assumption)|exact kg (by assumption) (by assumption)
      obtain⟨bv,rfl,rfl⟩:=hva a_;refine aK ?_;intros;refine oA ⟨⟨_,rfl⟩,show(((I.length+1+1:Nat):Int)-1).toNat*3+3<=(I.length+1+1)*3 by omega,a_⟩ ?_;refine yb (c:=[.str ((t.take (a+n)).drop a),.int .i64 a,.raw (.slice none 0 0)]) (wf (A:=Ey I l.t l.a u) (N:=(I.length+1)*3) (by simp only[d_,hI3,j_,E_];omega) (show(((I.length+1+1:Nat):Int)-1).toNat*3=(I.length+1)*3 by omega)) ?_;refine xn ?_;repeat' first|exact .n|apply Lc.mk
      all_goals intros
      ·rename_i bl _;refine bh mixed hC hGL false (λ(_:Unit)=>[(2,.raw (.slice none 0 0)),(3,sP 4 a)]) (λ_=>[.row (.slice (some ⟨bv,0,none⟩) (I.length+1+1) vc) none 3 (I.length+1+1) (aW I++([.str l.t,.int .i64 l.a,.own 1 u]:List AVal)++([.str ((t.take (a+n)).drop a),.int .i64 a,.raw (.slice none 0 0)]:List AVal)),.row u none 1 l.f.length (gJ l.f),.cells bl (some 66) [.str ((t.take (a+n)).drop a),.int .i64 a,.raw (.slice none 0 0)]]) .p11 be xu ?_
       ·intro _;refine ao ?_;intros;refine⟨[],Ug _,.inl ⟨?_,by rw[hL,h2,gG hF a_],rfl⟩⟩;rw[hE,h2,gG hF a_];rfl
      ·refine C9 (a+n+2,I++[l]++[⟨((t.take (a+n)).drop a),a,[]⟩],bv,vc,.slice none 0 0) ⟨by simp only[d_,j_,E_];omega,?_,λl h=>by have e:(⟨((t.take (a+n)).drop a),a,[]⟩:LineS)=l:=(by simpa using h);subst e;exact⟨by show(((t.take (a+n)).drop a)).length<=_;omega,Nat.zero_le _⟩⟩ (by dsimp only;omega) ?_
       ·dsimp only
        rw[g2,h2,jp hF a_]
       ·dsimp only
        have hm:I.length+1+1=(I++[l]++[(⟨((t.take (a+n)).drop a),a,[]⟩:LineS)]).length:=by simp
        refine an (bL (e':=[(0,.str t),(4,.own 0 (cJ bv vc (I++[l]++[(⟨((t.take (a+n)).drop a),a,[]⟩:LineS)]).length)),(5,.int .i64 ((a+n+2:Nat):Int))]) (h':=[.row (cJ bv vc (I++[l]++[(⟨((t.take (a+n)).drop a),a,[]⟩:LineS)]).length) none 3 (I.length+1+1) (aW I++([.str l.t,.int .i64 l.a,.own 1 u]:List AVal)++([.str ((t.take (a+n)).drop a),.int .i64 a,.raw (.slice none 0 0)]:List AVal)),.row u none 1 l.f.length (gJ l.f)]) ⟨rfl,by rw[<-hm];rfl,congrArg (λz=>some (AVal.int .i64 z)) a_,trivial⟩ (by rw[<-hm];exact V_ _ (V_ _ (Ug _)))) (I9 hm)
     ·rename_i va vk vc hva _ _ _;have hF:cU ((t.take (a+n)).drop a)=false:=by first|exact iL (by assumption)|exact kg (by assumption) (by assumption)
      obtain⟨bv,rfl,rfl⟩:=hva a_;refine aK ?_;intros;refine oA ⟨⟨_,rfl⟩,show(((I.length+1+1:Nat):Int)-1).toNat*3+3<=(I.length+1+1)*3 by omega,a_⟩ ?_;refine yb (c:=[.str ((t.take (a+n)).drop a),.int .i64 a,.raw (.slice none 0 0)]) (wf (A:=Ey I l.t l.a u) (N:=(I.length+1)*3) (by simp only[d_,hI3,j_,E_];omega) (show(((I.length+1+1:Nat):Int)-1).toNat*3=(I.length+1)*3 by omega)) ?_;refine xn ?_;repeat' first|exact .n|apply Lc.mk
      all_goals intros
      ·refine C9 (a+n+2,I++[l]++[⟨((t.take (a+n)).drop a),a,[]⟩],bv,vc,.slice none 0 0) ⟨by simp only[d_,j_,E_];omega,?_,λl h=>by have e:(⟨((t.take (a+n)).drop a),a,[]⟩:LineS)=l:=(by simpa using h);subst e;exact⟨by show(((t.take (a+n)).drop a)).length<=_;omega,Nat.zero_le _⟩⟩ (by dsimp only;omega) ?_
       ·dsimp only
        rw[g2,h2,jp hF a_]
       ·dsimp only
        have hm:I.length+1+1=(I++[l]++[(⟨((t.take (a+n)).drop a),a,[]⟩:LineS)]).length:=by simp
        refine an (bL (e':=[(0,.str t),(4,.own 0 (cJ bv vc (I++[l]++[(⟨((t.take (a+n)).drop a),a,[]⟩:LineS)]).length)),(5,.int .i64 ((a+n+2:Nat):Int))]) (h':=[.row (cJ bv vc (I++[l]++[(⟨((t.take (a+n)).drop a),a,[]⟩:LineS)]).length) none 3 (I.length+1+1) (aW I++([.str l.t,.int .i64 l.a,.own 1 u]:List AVal)++([.str ((t.take (a+n)).drop a),.int .i64 a,.raw (.slice none 0 0)]:List AVal)),.row u none 1 l.f.length (gJ l.f)]) ⟨rfl,by rw[<-hm];rfl,congrArg (λz=>some (AVal.int .i64 z)) a_,trivial⟩ (by rw[<-hm];exact V_ _ (V_ _ (Ug _)))) (I9 hm)
 ·have h1:=tA (L:=L) ha;refine aK ?_;intros;refine⟨_,At _,.inr ⟨cJ b cap L.length,u,?_,?_⟩⟩
  ·rw[hE,h1];rfl
  ·rw[hL,h1]
end
end Go.Proofs.YtnbaflecdkgihaaGreatDoor
