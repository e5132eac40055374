/- Parts of the proof of streamCards_card. -/
import Derived.Lib.AtoiAll
import Derived.Test.YtgpjhbhdbjdlgaaGreatDoorBaj
set_option linter.unusedVariables false
set_option linter.unusedSimpArgs false
set_option linter.unusedSectionVars false
namespace Go.Proofs.YtgpjhbhdbjdlgaaGreatDoor
open Go Go.RowKit
open Tryz
set_option maxRecDepth 20000
set_option maxHeartbeats 4000000
section
def It (f:Nat->Nat)(s:ω):ω:=s.map λc=>UInt8.ofNat (f c.toNat)
theorem kB (f:Nat->Nat)(s:ω):(It f s).length=s.length:=by simp[It]
theorem uY {f:Nat->Nat}(hf:∀c,c<256->f c<256){s:ω}{j:Nat}(h:j<s.length):aa (It f s) j=f (aa s j):=by
 have e1:aa (It f s) j=(UInt8.ofNat (f s[j].toNat)).toNat:=by simp[aa,It,List.getD,h]
 rw[e1,bx h,UInt8.toNat_ofNat'];have:=hf _ (UInt8.toNat_lt s[j]);omega
def G7 (f:Nat->Nat)(s:ω)(x:Nat×ω):Prop:=
 x.1<=s.length/\x.2.length=s.length/\∀j,j<s.length->aa x.2 j=if j<x.1 then f (aa s j) else aa s j
theorem WN {f:Nat->Nat}{s:ω}:G7 f s (0,s):=⟨Nat.zero_le _,rfl,λj _=>by rw[if_neg (by simp)]⟩
theorem KH {f:Nat->Nat}{s:ω}{i:Nat}{t:ω}(h:G7 f s (i,t))(hi:i<s.length):aa t i=aa s i:=by
 have:=h.2.2 i hi;rwa [if_neg (by simp)] at this
theorem P2 {f:Nat->Nat}{s:ω}{i:Nat}{t:ω}(h:G7 f s (i,t))(hi:i<s.length){m:Nat}(hm:m=f (aa s i))(h1:m<256):G7 f s (i+1,t.set i (UInt8.ofNat m)):=by
 obtain⟨h2,h3,h4⟩:=h;refine⟨hi,by simp only[F_];exact h3,λj hj=> ?_⟩;dsimp only at*
 have hb:aa (t.set i (UInt8.ofNat m)) j=if j=i then m else aa t j:=by
  unfold aa;by_cases e:j=i
  ·subst e;rw[if_pos rfl];simp only[List.getD,List.getElem?_set_self (show j<t.length by omega),aam];rw[UInt8.toNat_ofNat'];omega
  ·rw[if_neg e];simp only[List.getD,M_ (Ne.symm e)]
 rw[hb];by_cases e:j=i
 ·subst e;rw[if_pos rfl,if_pos a_,hm]
 ·rw[if_neg e,h4 j hj];by_cases e2:j<i
  ·rw[if_pos e2,if_pos a_]
  ·rw[if_neg e2,if_neg a_]
theorem MK {f:Nat->Nat}{s:ω}{i:Nat}{t:ω}(h:G7 f s (i,t))(hi:i<s.length)(hm:f (aa s i)=aa s i):G7 f s (i+1,t):=by
 refine⟨hi,h.2.1,λj hj=> ?_⟩;have:=h.2.2 j hj;dsimp only at*
 rw[this];by_cases e:j=i
 ·subst e;rw[if_neg a_,if_pos a_,hm]
 ·by_cases e2:j<i
  ·rw[if_pos e2,if_pos a_]
  ·rw[if_neg e2,if_neg a_]
theorem P3 {f:Nat->Nat}(hf:∀c,c<256->f c<256){s:ω}{i:Nat}{t:ω}(h:G7 f s (i,t))(hi:s.length<=i):t=It f s:=by
 refine lY (by rw[kB];exact h.2.1) (λj hj=> ?_);rw[kB] at hj;rw[uY hf hj,h.2.2 j hj,if_pos (show j<i by omega)]
def fV (c:Nat):Nat:=if 48<=c/\c<=57 then 57 else c
theorem Fp:∀c,c<256->fV c<256:=by intro c h;unfold fV;split<;>omega
def aP (s:ω):ω:=It fV s
def rv (c:Nat):Bool:=decide (48<=c/\c<=57)
theorem dt {c:Nat}:rv c=true↔(48<=c/\c<=57):=by simp[rv]
theorem gm {c:Nat}:fV c=57↔(48<=c/\c<=57):=by unfold fV;split<;>omega
theorem nQ {c k:Nat}(h:¬(48<=k/\k<=57)):fV c=k↔c=k:=by unfold fV;split<;>omega
theorem jQ {s:ω}{j:Nat}(h:j<s.length):aa (aP s) j=fV (aa s j):=uY Fp h
theorem J7 {s:ω}:aP s=[90]↔s=[90]:=by
 constructor
 ·intro h;have hl:s.length=1:=by rw[<-kB fV s];exact congrArg List.length h
  have h0:=jQ (s:=s) (j:=0) a_;rw[h] at h0;have h1:aa s 0=90:=(nQ a_).1 h0.symm;exact lY (by rw[hl];rfl) (λj hj=>by
   have:j=0:=by simp at hj;omega
   subst this;rw[h1];rfl)
 ·rintro rfl;rfl
theorem pQ {s:ω}{k:Nat}(hk:¬(48<=k/\k<=57))(hk2:k<256):aP s=[UInt8.ofNat k,57,57]↔s.length=3/\aa s 0=k/\(48<=aa s 1/\aa s 1<=57)/\(48<=aa s 2/\aa s 2<=57):=by
 have hk3:aa [UInt8.ofNat k,57,57] 0=k:=by unfold aa;simp;omega
 constructor
 ·intro h;have hl:s.length=3:=by rw[<-kB fV s];exact congrArg List.length h
  have h0:=jQ (s:=s) (j:=0) a_;have h1:=jQ (s:=s) (j:=1) a_;have h2:=jQ (s:=s) (j:=2) a_;rw[h] at h0 h1 h2;rw[hk3] at h0;exact⟨hl,(nQ hk).1 h0.symm,gm.1 h1.symm,gm.1 h2.symm⟩
 ·rintro⟨hl,h0,h1,h2⟩;refine lY (by rw[show(aP s).length=_ from kB _ _,hl];rfl) (λj hj=> ?_);have hj:j<3:=hj;rw[jQ a_]
  match j,hj with
  |0,_=>rw[hk3,h0,nQ hk]
  |1,_=>exact gm.2 h1
  |2,_=>exact gm.2 h2
theorem rR {s:ω}{k:Nat}(hk:¬(48<=k/\k<=57))(hk2:k<256):aP s=[UInt8.ofNat k,57,57,57,57]↔s.length=5/\aa s 0=k/\(48<=aa s 1/\aa s 1<=57)/\(48<=aa s 2/\aa s 2<=57)/\(48<=aa s 3/\aa s 3<=57)/\(48<=aa s 4/\aa s 4<=57):=by
 have hk3:aa [UInt8.ofNat k,57,57,57,57] 0=k:=by unfold aa;simp;omega
 constructor
 ·intro h;have hl:s.length=5:=by rw[<-kB fV s];exact congrArg List.length h
  have h0:=jQ (s:=s) (j:=0) a_;have h1:=jQ (s:=s) (j:=1) a_;have h2:=jQ (s:=s) (j:=2) a_;have h3:=jQ (s:=s) (j:=3) a_;have h4:=jQ (s:=s) (j:=4) a_;rw[h] at h0 h1 h2 h3 h4;rw[hk3] at h0;exact⟨hl,(nQ hk).1 h0.symm,gm.1 h1.symm,gm.1 h2.symm,gm.1 h3.symm,gm.1 h4.symm⟩
 ·rintro⟨hl,h0,h1,h2,h3,h4⟩;refine lY (by rw[show(aP s).length=_ from kB _ _,hl];rfl) (λj hj=> ?_);have hj:j<5:=hj;rw[jQ a_]
  match j,hj with
  |0,_=>rw[hk3,h0,nQ hk]
  |1,_=>exact gm.2 h1
  |2,_=>exact gm.2 h2
  |3,_=>exact gm.2 h3
  |4,_=>exact gm.2 h4
def MW (neg:Bool)(h m:Int):Int×Int:=if 5<m/10\/840<60*h+m then(0,2) else(if neg then 0-(60*h+m) else 60*h+m,0)
def bU (s:ω)(j:Nat):Int:=(aa s j:Int)-48
def bN (s:ω):Int×Int:=
 if s=[90] then(0,0)
 else if s.length=3/\(aa s 0=43\/aa s 0=45)/\(rv (aa s 1)/\rv (aa s 2)) then MW (decide (aa s 0=45)) (10*bU s 1+bU s 2) 0
 else if s.length=5/\(aa s 0=43\/aa s 0=45)/\(rv (aa s 1)/\rv (aa s 2)/\rv (aa s 3)/\rv (aa s 4)) then MW (decide (aa s 0=45)) (10*bU s 1+bU s 2) (10*bU s 3+bU s 4)
 else(0,3)
def ig (s:ω):Err:=if(bN s).2=0 then .none else .errno (bN s).2
attribute [local irreducible] bJ au aa ax aR ab ad
theorem tJ {G:Glo}(s:ω)(hl:s.length<=9223372036854775807):ai prog G 135 [.str s] (.str (aP s)):=by
 refine aw func135 call135 λC hC hGL=> ?_;have hw:=λc=>fN (G:=G) c 48 57;refine aH ?_;intro bl cap;intros;refine lp hC hGL (λ(x:Nat×ω)=>[(3,.own 0 (.slice (some ⟨bl,0,none⟩) s.length cap)),(8,.int .i64 s.length),(9,.int .i64 x.1)]) (λx=>[.buf bl x.2 cap]) (G7 fV s) (λx=>s.length-x.1) (0,s) ?_ ae rfl ?_
 ·exact WN
 rintro⟨i,t⟩ hI;have hi:=hI.1;have ht:=hI.2.1;dsimp only at hi ht ⊢;have k1:=@hw;refine xw ?_;repeat' first|exact .n|apply Lc.mk
 all_goals intros
 ·rename_i hb;have e:=KH hI a_;rw[e,l_,n_,n_] at hb;refine cQ (i+1,t.set i (UInt8.ofNat 57)) ?_ ?_ ae rfl
  ·exact P2 hI a_ (by unfold fV;rw[if_pos a_]) a_
  ·dsimp only;omega
 ·rename_i hb;have e:=KH hI a_;rw[e,Vr,aaf,aaf] at hb;refine cQ (i+1,t) ?_ ?_ ae rfl
  ·exact MK hI a_ (by unfold fV;rw[if_neg a_])
  ·dsimp only;omega
 ·apply aj;rw[P3 Fp hI a_];rfl
attribute [local irreducible] rv aP
theorem Yj {s:ω}{v:Int}{H':Heap}(h:bN s=(v,0)):Rt (λ(x:co) (H:Heap)=>x= .ret (.tuple [.int .i64 (bN s).1,(ig s).A])/\H=[]) (.tuple [.int .i64 v,.raw .nilIface]) H':=by
 apply aj;unfold ig;rw[h,if_pos rfl];rfl
theorem Yk {s:ω}{e:Int}{H':Heap}(h:bN s=(0,e))(he:e≠0):Rt (λ(x:co) (H:Heap)=>x= .ret (.tuple [.int .i64 (bN s).1,(ig s).A])/\H=[]) (.tuple [.int .i64 0,.iface 23 (.int .i64 e)]) H':=by
 apply aj;unfold ig;rw[h,if_neg he];rfl
theorem wu {G:Glo}(s:ω)(hl:s.length<=9223372036854775807):ai prog G 105 [.str s] (.tuple [.int .i64 (bN s).1,(ig s).A]):=by
  refine aw func105 call105 λC hC hGL=> ?_;repeat' (first|(conv=>whnf);first|refine .w ?_|refine .v ?_|refine ez ?_ ?_<;>(intro hb;try exact dd hb)|apply aT|apply bP|(apply cR<;>intro hb)|(apply cX;intro hbd)|(apply cY;intro bl)|(apply dv;intro va vk vc hva)|(apply du;intro v)|(apply dw;intro bl cap hcap)|apply dP|(apply dq<;>intro hnx)|apply ef mixed hC hGL be|(show Rt _ _ _;exact cP)|fail)
  all_goals try conv=>whnf
  any_goals (refine rds hC hGL 5 ?_)
  repeat' (first|(conv=>whnf);first|refine .w ?_|refine .v ?_|refine ez ?_ ?_<;>(intro hb;try exact dd hb)|apply aT|apply bP|(apply cR<;>intro hb)|(apply cX;intro hbd)|(apply cY;intro bl)|(apply dv;intro va vk vc hva)|(apply du;intro v)|(apply dw;intro bl cap hcap)|apply dP|(apply dq<;>intro hnx)|apply ef mixed hC hGL be|(show Rt _ _ _;exact cP)|fail)
  all_goals try conv=>whnf
  all_goals first
    | (refine Yk ?_ b_
       try simp only[Nat.zero_add,Nat.reduceAdd] at*
       unfold bN MW bU
       rw[if_neg (by assumption)]
       simp only[dt,n_]
       (repeat' split)<;>simp only[aag,and_true,true_and]<;>omega)
    |(refine Yj ?_;unfold bN;rw[if_pos (by assumption)];done)
    |skip
  all_goals (
    refine Yj ?_
    try simp only[Nat.zero_add,Nat.reduceAdd] at*
    unfold bN MW bU
    rw[if_neg (by assumption)]
    simp only[dt,n_]
    (repeat' split)<;>simp only[aag,and_true,true_and]<;>omega)
theorem Ur:∀a b:Fin 10,Lib.atoiAll [UInt8.ofNat (48+a.1),UInt8.ofNat (48+b.1)]= .ok ((10*a.1+b.1:Nat):Int):=by decide
theorem zd {G:Glo}(s:ω)(hl:s.length=2)(h0:48<=aa s 0/\aa s 0<=57)(h1:48<=aa s 1/\aa s 1<=57):ai prog G 118 [.str s] (.tuple [.int .i64 (10*bU s 0+bU s 1),.raw .nilIface]):=by
 have e:s=[UInt8.ofNat (48+(aa s 0-48)),UInt8.ofNat (48+(aa s 1-48))]:=by
  refine List.ext_getElem (by rw[hl];rfl) (λj j1 j2=> ?_);have hj:j<2:=by simpa using j2
  match j,hj with
  |0,_=>
   simp only[List.getElem_cons_zero];rw[show 48+(aa s 0-48)=aa s 0 by omega,bx a_];simp
  |1,_=>
   simp only[List.getElem_cons_succ,List.getElem_cons_zero]
   rw[show 48+(aa s 1-48)=aa s 1 by omega,bx a_]
   simp
 have ha:=Ur ⟨aa s 0-48,a_⟩ ⟨aa s 1-48,a_⟩;simp only at ha;rw[<-e] at ha;have ev:((10*(aa s 0-48)+(aa s 1-48):Nat):Int)=10*bU s 0+bU s 1:=by unfold bU;omega
 rw[ev] at ha
 refine iC (.tuple #[.int .i64 (10*bU s 0+bU s 1),.nilIface]) (λR=>nc (ap.2 rfl) (aq.2 rfl)) call118 ?_
 intro R args hr w _ _
 obtain⟨x,t,e',hx,rfl⟩:=hr
 obtain rfl:=aD.1 hx
 obtain rfl:=fR e'
 refine(strconv_Atoi_ok ⟨s.toArray⟩ (by rw[bM];omega) _ (by simpa using ha) w).mono ?_
 rintro e w' ⟨rfl,hw⟩
 refine⟨rfl,?_⟩
 rcases hw with rfl|⟨t,rfl⟩
 ·exact Below.refl _ _
 ·exact⟨rfl,rfl,rfl,by rw[Lib.bytesWorld_size];omega,λk hk=>Lib.bytesWorld_at_old _ _ _ _ hk⟩
theorem fK {s:ω}{k j:Nat}:aa (s.drop k) j=aa s (k+j):=by
 unfold aa;simp[List.getD,List.getElem?_drop]
theorem Vp {neg:Bool}{h m a b:Int}{H':Heap}(e:MW neg h m=(a,b)):Rt (λ(x:co) (H:Heap)=>x= .ret (.tuple [.int .i64 (MW neg h m).1,.int .i64 (MW neg h m).2])/\H=[]) (.tuple [.int .i64 a,.int .i64 b]) H':=by
 apply aj;rw[e]
theorem lL {G:Glo}(s:ω)(hl:s.length=5)(hs:aa s 0=43\/aa s 0=45)(h1:48<=aa s 1/\aa s 1<=57)(h2:48<=aa s 2/\aa s 2<=57)(h3:48<=aa s 3/\aa s 3<=57)(h4:48<=aa s 4/\aa s 4<=57):
  ai prog G 80 [.str s] (.tuple [.int .i64 (MW (decide (aa s 0=45)) (10*bU s 1+bU s 2) (10*bU s 3+bU s 4)).1,.int .i64 (MW (decide (aa s 0=45)) (10*bU s 1+bU s 2) (10*bU s 3+bU s 4)).2]):=by
 refine aw func80 call80 λC hC hGL=> ?_;have hsh:=tJ (G:=G) s a_;have e1:(s.take 3).drop 1=(s.drop 1).take 2:=by rw[List.take_drop]
 have a1:=zd (G:=G) ((s.take 3).drop 1) (by rw[k_,i_];omega) (by rw[fK,fc a_];exact h1) (by rw[fK,fc a_];exact h2);have a2:=zd (G:=G) (s.drop 3) (by rw[k_];omega) (by rw[fK];exact h3) (by rw[fK];exact h4);have d1:bU ((s.take 3).drop 1) 0=bU s 1:=by unfold bU;rw[fK,fc a_]
 have d2:bU ((s.take 3).drop 1) 1=bU s 2:=by unfold bU;rw[fK,fc a_]
 have d3:bU (s.drop 3) 0=bU s 3:=by unfold bU;rw[fK]
 have d4:bU (s.drop 3) 1=bU s 4:=by unfold bU;rw[fK]
 rw[d1,d2] at a1;rw[d3,d4] at a2;have g1:0<=bU s 1/\bU s 1<=9:=by unfold bU;omega
 have g2:0<=bU s 2/\bU s 2<=9:=by unfold bU;omega
 have g3:0<=bU s 3/\bU s 3<=9:=by unfold bU;omega
 have g4:0<=bU s 4/\bU s 4<=9:=by unfold bU;omega
 have hz:=λn=>ka (G:=G) n;rcases hs with hs|hs
 ·have hsp:aP s=[43,57,57,57,57]:=(rR (k:=43) a_ a_).2 ⟨hl,hs,h1,h2,h3,h4⟩;rw[hsp] at hsh;have k1:=@hz;refine xw ?_;repeat' first|exact .n|apply Lc.mk
  all_goals intros
  all_goals (
   refine Vp ?_
   try simp only[wn,U2] at*
   unfold MW
   simp only[n_]
   (repeat' split)<;>first|(exfalso;omega)|exact rfl)
 ·have hsp:aP s=[45,57,57,57,57]:=(rR (k:=45) a_ a_).2 ⟨hl,hs,h1,h2,h3,h4⟩;rw[hsp] at hsh;have k1:=@hz;refine xw ?_;repeat' first|exact .n|apply Lc.mk
  all_goals intros
  all_goals (
   refine Vp ?_
   try simp only[wn,U2] at*
   unfold MW
   simp only[n_]
   (repeat' split)<;>first|(exfalso;omega)|exact rfl)
theorem qJ {G:Glo}(s:ω)(hl:s.length<=9223372036854775000):ai prog G 80 [.str s] (.tuple [.int .i64 (bN s).1,.int .i64 (bN s).2]):=by
 by_cases h5:s.length=5/\(aa s 0=43\/aa s 0=45)/\(rv (aa s 1)/\rv (aa s 2)/\rv (aa s 3)/\rv (aa s 4))
 ·obtain⟨hl5,hs,h1,h2,h3,h4⟩:=h5;have e:bN s=MW (decide (aa s 0=45)) (10*bU s 1+bU s 2) (10*bU s 3+bU s 4):=by
   unfold bN;rw[if_neg (by rintro rfl;simp at hl5),if_neg a_,if_pos ⟨hl5,hs,h1,h2,h3,h4⟩]
  rw[e];exact lL s hl5 hs (dt.1 h1) (dt.1 h2) (dt.1 h3) (dt.1 h4)
 have n43:aP s≠[43,57,57,57,57]:=λh=>by
  have h:=(rR (k:=43) a_ a_).1 h;exact h5 ⟨h.1,.inl h.2.1,dt.2 h.2.2.1,dt.2 h.2.2.2.1,dt.2 h.2.2.2.2.1,dt.2 h.2.2.2.2.2⟩
 have n45:aP s≠[45,57,57,57,57]:=λh=>by
  have h:=(rR (k:=45) a_ a_).1 h;exact h5 ⟨h.1,.inr h.2.1,dt.2 h.2.2.1,dt.2 h.2.2.2.1,dt.2 h.2.2.2.2.1,dt.2 h.2.2.2.2.2⟩
 refine aw func80 call80 λC hC hGL=> ?_;have hsh:=tJ (G:=G) s a_;by_cases h3:s.length=3/\(aa s 0=43\/aa s 0=45)/\(rv (aa s 1)/\rv (aa s 2))
 ·obtain⟨hl3,hs,h1,h2⟩:=h3;have g:∀j,j<3->aa (s++[48,48]) j=aa s j:=λj hj=>by unfold aa;simp[List.getD,List.getElem?_append,show j<s.length by omega]
  have g3:aa (s++[48,48]) 3=48:=by unfold aa;simp[List.getD,List.getElem?_append,hl3]
  have g4:aa (s++[48,48]) 4=48:=by unfold aa;simp[List.getD,List.getElem?_append,hl3]
  have hr:=lL (G:=G) (s++[48,48]) (by rw[d_,hl3];rfl) (by rw[g 0 a_];exact hs) (by rw[g 1 a_];exact dt.1 h1) (by rw[g 2 a_];exact dt.1 h2) (by rw[g3];omega) (by rw[g4];omega);have d1:bU (s++[48,48]) 1=bU s 1:=by unfold bU;rw[g 1 a_]
  have d2:bU (s++[48,48]) 2=bU s 2:=by unfold bU;rw[g 2 a_]
  have d3:bU (s++[48,48]) 3=0:=by unfold bU;rw[g3];rfl
  have d4:bU (s++[48,48]) 4=0:=by unfold bU;rw[g4];rfl
  have e:bN s=MW (decide (aa s 0=45)) (10*bU s 1+bU s 2) 0:=by
   unfold bN;rw[if_neg (by rintro rfl;simp at hl3),if_pos ⟨hl3,hs,h1,h2⟩]
  rw[d1,d2,d3,d4,g 0 a_,show(10*0+0:Int)=0 from rfl,<-e] at hr;have hsh':aP s=[43,57,57]\/aP s=[45,57,57]:=by
   rcases hs with hs|hs
   ·exact .inl ((pQ (k:=43) a_ a_).2 ⟨hl3,hs,dt.1 h1,dt.1 h2⟩)
   ·exact .inr ((pQ (k:=45) a_ a_).2 ⟨hl3,hs,dt.1 h1,dt.1 h2⟩)
  rcases hsh' with hsh'|hsh'
  all_goals (
   rw[hsh'] at hsh
   repeat' (first|(conv=>whnf);first|refine .w ?_|refine .v ?_|refine ez ?_ ?_<;>(intro hb;try exact dd hb)|apply aT|apply bP|(apply cR<;>intro hb)|(apply cX;intro hbd)|(apply bG;first|exact hsh|exact hr)|(apply aV (i:=0) rfl;first|exact hsh|exact hr)|(apply cY;intro bl)|(apply dv;intro va vk vc hva)|(apply du;intro v)|(apply dw;intro bl cap hcap)|apply dP|(apply dq<;>intro hnx)|apply ef mixed hC hGL be|(apply cq;assumption;(first|exact hsh|exact hr);exact rfl)|(show Rt _ _ _;exact cP)|fail)
   all_goals try conv=>whnf)
 have m43:aP s≠[43,57,57]:=λh=>by
  have h:=(pQ (k:=43) a_ a_).1 h;exact h3 ⟨h.1,.inl h.2.1,dt.2 h.2.2.1,dt.2 h.2.2.2⟩
 have m45:aP s≠[45,57,57]:=λh=>by
  have h:=(pQ (k:=45) a_ a_).1 h;exact h3 ⟨h.1,.inr h.2.1,dt.2 h.2.2.1,dt.2 h.2.2.2⟩
 have e:bN s=if s=[90] then(0,0) else(0,3):=by
  unfold bN;rw[if_neg h3,if_neg h5]
 rw[e];refine xw ?_;repeat' first|exact .n|apply Lc.mk
 all_goals intros
 ·apply aj;rw[if_pos (J7.1 (by assumption))];rfl
 ·apply aj;rw[if_neg (λh=>absurd (J7.2 h) (by assumption))];rfl
end
section
theorem rQ (s:ω):(aP s).length=s.length:=kB _ _
theorem eq {s u:ω}(h:aP s=u):s.length=u.length/\∀i,i<u.length->fV (aa s i)=aa u i:=by
 subst h;refine⟨(rQ s).symm,λi hi=> ?_⟩;rw[rQ] at hi;exact(jQ hi).symm
theorem ir {s:ω}{n i:Nat}(h:i<n):aa (s.take n) i=aa s i:=by
 unfold aa;simp[List.getD,List.getElem?_take_of_lt h]
theorem cW {s:ω}{n i:Nat}:aa (s.drop n) i=aa s (n+i):=by
 unfold aa;simp[List.getD]
theorem Dr {j:Nat}(h1:1<=j)(h6:j<=6):2<=(aX j).length/\(aX j).length<=6:=by
 rcases(show j=1\/j=2\/j=3\/j=4\/j=5\/j=6 by omega) with rfl|rfl|rfl|rfl|rfl|rfl<;>decide
theorem RA {j:Nat}(h1:1<=j)(h6:j<=6):∀i,i<(aX j).length->aa (aX j) i=57\/(aa (aX j) i=45/\i<2):=by
 rcases(show j=1\/j=2\/j=3\/j=4\/j=5\/j=6 by omega) with rfl|rfl|rfl|rfl|rfl|rfl<;>decide
theorem LD {j k:Nat}(h1:1<=j)(h6:j<=6)(g1:1<=k)(g6:k<=6)(h:aX j=aX k):j=k:=by
 rcases(show j=1\/j=2\/j=3\/j=4\/j=5\/j=6 by omega) with rfl|rfl|rfl|rfl|rfl|rfl<;>
  rcases(show k=1\/k=2\/k=3\/k=4\/k=5\/k=6 by omega) with rfl|rfl|rfl|rfl|rfl|rfl<;>first|rfl|(revert h;decide)
structure dh (t:ω) (j n:Nat):Prop where
 j1:1<=j
 j6:j<=6
 hn:n<=t.length
 hs:aP (t.take n)=aX j
 hz:n=t.length\/aa t n=90\/aa t n=43\/aa t n=45
theorem dh.len {t:ω}{j n:Nat}(h:dh t j n):n=(aX j).length:=by
 have:=(eq h.hs).1;rw[i_] at this;have:=h.hn;omega
theorem dh.at {t:ω}{j n:Nat}(h:dh t j n):∀i,i<n->(48<=aa t i/\aa t i<=57)\/(aa t i=45/\i<2):=by
 intro i hi;have h1:=(eq h.hs).2 i (by rw[<-h.len];exact hi);rw[ir hi] at h1;rcases RA h.j1 h.j6 i (by rw[<-h.len];exact hi) with k|⟨k,k2⟩
 ·rw[k] at h1;exact .inl (gm.1 h1)
 ·rw[k] at h1;exact .inr ⟨(nQ a_).1 h1,k2⟩
theorem dh.uniq {t:ω}{j n j' n':Nat}(h:dh t j n)(g:dh t j' n'):j=j'/\n=n':=by
 have key:∀{j n j' n':Nat},dh t j n->dh t j' n'->¬n<n':=by
  intro j n j' n' h g hlt;have h2:=(Dr h.j1 h.j6).1;rw[<-h.len] at h2;have h3:=g.at n hlt;have h4:=g.hn;have h5:=h.hz;omega
 have e:n=n':=by
  have h1:=key h g;have h2:=key g h;omega
 subst e;exact⟨LD h.j1 h.j6 g.j1 g.j6 (h.hs.symm.trans g.hs),rfl⟩
def LM (t:ω)(k:Nat):Prop:=
 (k<t.length/\(aa t k=90\/aa t k=43)/\∀j,j<k->aa t j≠90/\aa t j≠43)\/
 ((∀j,j<t.length->aa t j≠90/\aa t j≠43)/\((k<t.length/\2<=k/\aa t k=45/\∀j,k<j->j<t.length->aa t j≠45)\/(k=t.length/\∀j,2<=j->j<t.length->aa t j≠45)))
theorem IK {t:ω}{k:Nat}(h:LM t k):k<=t.length:=by
 unfold LM at h;omega
theorem DU {z:ω}{m:Nat}(h0:aa z 0=45)(hm:0<m)(hl:m<z.length)(h:aa z m=90\/aa z m=43\/aa z m=45):bN z=(0,3):=by
 unfold bN;rw[if_neg (by rintro rfl;exact absurd h0 b_),if_neg,if_neg]
 ·rintro⟨h1, -,h2,h3,h4,h5⟩;rw[dt] at h2 h3 h4 h5;rcases(show m=1\/m=2\/m=3\/m=4 by omega) with rfl|rfl|rfl|rfl<;>omega
 ·rintro⟨h1, -,h2,h3⟩;rw[dt] at h2 h3;rcases(show m=1\/m=2 by omega) with rfl|rfl<;>omega
theorem ZI {t:ω}{j n k:Nat}(h:dh t j n)(hk:LM t k):k=n\/(n<t.length/\bN (t.drop n)=(0,3)/\∀j',1<=j'->j'<=6->aP (t.take k)≠aX j'):=by
 have hat:=h.at
 have hn:=h.hn;have hz:=h.hz;have h2:=(Dr h.j1 h.j6).1;rw[<-h.len] at h2;have hkl:=IK hk;have nok:n<k->n<t.length->aa t n=45->∀j',1<=j'->j'<=6->aP (t.take k)≠aX j':=by
  intro hlt hnl h45 j' g1 g6 e;have e1:=eq e;rw[i_] at e1;have e2:=e1.2 n a_;rw[ir hlt,h45] at e2;have e3:=RA g1 g6 n a_;unfold fV at e2;rw[if_neg a_] at e2;omega
 rcases hk with⟨k1,k2,k3⟩|⟨k0,⟨k1,k2,k3,k4⟩|⟨k1,k2⟩⟩
 ·have hnk:n<=k:=by
   rcases aaj k n with g|g
   ·have:=hat k g;omega
   ·exact g
  rcases aaj n k with g|g
  ·have hb:=k3 n g;have h45:aa t n=45:=by omega
   refine .inr ⟨a_,DU (m:=k-n) (by rw[cW,Nat.add_zero];exact h45) a_ (by rw[k_];omega) (by rw[cW,show n+(k-n)=k by omega];omega),nok g a_ h45⟩
  ·exact .inl a_
 ·have hnk:n<=k:=by
   rcases aaj k n with g|g
   ·have:=hat k g;omega
   ·exact g
  rcases aaj n k with g|g
  ·have hb:=k0 n a_;have h45:aa t n=45:=by omega
   refine .inr ⟨a_,DU (m:=k-n) (by rw[cW,Nat.add_zero];exact h45) a_ (by rw[k_];omega) (by rw[cW,show n+(k-n)=k by omega];omega),nok g a_ h45⟩
  ·exact .inl a_
 ·refine .inl ?_;rcases aaj n t.length with g|g
  ·have hb:=k0 n g;have hc:=k2 n h2 g;omega
  ·omega
theorem ZS {t:ω}{j k:Nat}(hk:LM t k)(h1:1<=j)(h6:j<=6)(h:aP (t.take k)=aX j):dh t j k:=by
 refine⟨h1,h6,IK hk,h,?_⟩;unfold LM at hk;omega
instance (t:ω) (j n:Nat):Decidable (dh t j n):=
 if h:1<=j/\j<=6/\n<=t.length/\aP (t.take n)=aX j/\(n=t.length\/aa t n=90\/aa t n=43\/aa t n=45) then isTrue ⟨h.1,h.2.1,h.2.2.1,h.2.2.2.1,h.2.2.2.2⟩ else isFalse λk=>h ⟨k.1,k.2,k.3,k.4,k.5⟩
def oN (t:ω):Nat:=if dh t 1 2 then 1 else if dh t 2 4 then 2 else if dh t 3 6 then 3 else if dh t 4 3 then 4 else if dh t 5 5 then 5 else if dh t 6 4 then 6 else 0
def vf (t:ω):Nat:=(aX (oN t)).length
theorem B7 {t:ω}{j n:Nat}(h:dh t j n):oN t=j/\vf t=n:=by
  have hl:=h.len;have key:oN t=j:=by
    have u:=λ{j' n':Nat} (g:dh t j' n')=>(h.uniq g).1
    unfold oN
    (repeat' split)
    all_goals first
      |exact(u (by assumption)).symm
      | (exfalso
         have g1:=h.j1
         have g6:=h.j6
         rcases(show j=1\/j=2\/j=3\/j=4\/j=5\/j=6 by omega) with rfl|rfl|rfl|rfl|rfl|rfl
         all_goals (simp only[aX,List.getD_cons_zero,List.getD_cons_succ,j_,E_] at hl;subst hl;contradiction))
  exact⟨key,by unfold vf;rw[key];exact hl.symm⟩
theorem B6 {t:ω}(h:oN t≠0):dh t (oN t) (vf t):=by
 have key:∀{j n:Nat},dh t j n->dh t (oN t) (vf t):=λg=>by
  obtain⟨e1,e2⟩:=B7 g;rw[e1,e2];exact g
 unfold oN at h
 (repeat' split at h)
 all_goals first|exact key (by assumption)|exact absurd rfl h
theorem OT {t:ω}{k:Nat}(hk:LM t k)(h:∀j,1<=j->j<=6->aP (t.take k)≠aX j):oN t=0\/(oN t≠0/\vf t<t.length/\bN (t.drop (vf t))=(0,3)):=by
 by_cases h0:oN t=0
 ·exact .inl h0
 ·have g:=B6 h0;rcases ZI g hk with e|e
  ·exact absurd (by rw[e];exact g.hs) (h _ g.j1 g.j6)
  ·exact .inr ⟨h0,e.1,e.2.1⟩
theorem Eo {t:ω}{j k:Nat}(hk:LM t k)(h1:1<=j)(h6:j<=6)(h:aP (t.take k)=aX j):oN t=j/\vf t=k:=B7 (ZS hk h1 h6 h)
def dx (s:ω)(j:Nat):Int:=10*bU s j+bU s (j+1)
def kF (s:ω)(j:Nat):Int:=10*(10*(10*bU s j+bU s (j+1))+bU s (j+2))+bU s (j+3)
def mF (d:ω):Nat:=if aP d=bT 0 then 0 else if aP d=bT 1 then 1 else if aP d=bT 2 then 2 else if aP d=bT 3 then 3 else if aP d=bT 4 then 4 else if aP d=bT 5 then 5 else if aP d=bT 6 then 6 else 7
theorem Gy {j k:Nat}(h6:j<=6)(g6:k<=6)(h:bT j=bT k):j=k:=by
 rcases(show j=0\/j=1\/j=2\/j=3\/j=4\/j=5\/j=6 by omega) with rfl|rfl|rfl|rfl|rfl|rfl|rfl<;>
  rcases(show k=0\/k=1\/k=2\/k=3\/k=4\/k=5\/k=6 by omega) with rfl|rfl|rfl|rfl|rfl|rfl|rfl<;>first|rfl|(revert h;decide)
theorem yV {d:ω}{k:Nat}(hk:k<=6)(h:aP d=bT k):mF d=k:=by
  unfold mF
  (repeat' split)
  all_goals first
    |(rename_i e;exact(Gy hk b_ (h.symm.trans e)).symm)
    | (exfalso
       rcases(show k=0\/k=1\/k=2\/k=3\/k=4\/k=5\/k=6 by omega) with rfl|rfl|rfl|rfl|rfl|rfl|rfl<;>contradiction)
theorem Jn {d:ω}(h:∀k,k<=6->aP d≠bT k):mF d=7:=by
 unfold mF;rw[if_neg (h 0 b_),if_neg (h 1 b_),if_neg (h 2 b_),if_neg (h 3 b_),if_neg (h 4 b_),if_neg (h 5 b_),if_neg (h 6 b_)]
def dY (k:Nat)(d:ω):Int:=if k=1\/k=2\/k=3 then kF d 0 else-1
def dM (k:Nat)(d:ω):Int:=if k=2 then dx d 5 else if k=3 then dx d 4 else if k=4\/k=5 then dx d 2 else-1
def dD (k:Nat)(d:ω):Int:=if k=3 then dx d 6 else if k=5 then dx d 4 else if k=6 then dx d 3 else-1
def cH (k:Nat)(c:ω):Int:=if k=1\/k=2\/k=3 then dx c 0 else-1
def cI (k:Nat)(c:ω):Int:=if k=2\/k=3 then dx c 2 else if k=4\/k=5 then dx c 1 else-1
def cS (k:Nat)(c:ω):Int:=if k=3 then dx c 4 else if k=5 then dx c 3 else if k=6 then dx c 2 else-1
def Hm (i:Nat)(d:ω)(j:Nat)(c z:ω):Stm:=⟨dY i d,dM i d,dD i d,cH j c,cI j c,cS j c,decide (z≠[]),if z=[] then 0 else(bN z).1⟩
def Stm.no:Stm:=⟨0,0,0,0,0,0,false,0⟩
def pn (t:Stm):Stm×Err:=if t.e=0 then(t,.none) else(Stm.no,.errno t.e)
def mJ (d:ω)(timed:Bool)(t:ω):Stm×Err:=
 if mF d=7 then(Stm.no,.errno 3)
 else if timed=false then pn (Hm (mF d) d 0 [] [])
 else if oN t=0 then(Stm.no,.errno 3)
 else if t.drop (vf t)≠[]/\(bN (t.drop (vf t))).2≠0 then(Stm.no,.errno (bN (t.drop (vf t))).2)
 else pn (Hm (mF d) d (oN t) (t.take (vf t)) (t.drop (vf t)))
def Ha (s:ω):Stm×Err:=mJ (fE s 84).1 (fE s 84).2.2 (fE s 84).2.1
end
section
theorem ij {α:Type}{P:List α->Prop}(h0:P [])(h1:∀l a,P l->P (l++[a]))(l:List α):P l:=by
 rw[<-List.reverse_reverse l];induction l.reverse with
 |nil=>exact h0
 |cons a r ih=>rw[List.reverse_cons];exact h1 _ _ ih
inductive Tk where
 |one (c:UInt8)
 |two (d:UInt8)
def Tk.raw:Tk->ω
 |.one c=>[c]
 |.two d=>[92,d]
def yN (d:UInt8):UInt8:=if d=110\/d=78 then 10 else d
def Tk.val:Tk->UInt8
 |.one c=>c
 |.two d=>yN d
def okE (d:UInt8):Bool:=decide (d=92\/d=44\/d=59\/d=110\/d=78)
def Tk.ok:Tk->Prop
 |.one c=>c≠92
 |.two d=>okE d=true
def a8:ω->Nat->Err
 |[],_=>.none
 |[c],i=>if c=92 then .atp 7 ((i+1:Nat):Int) else .none
 |c::d::r,i=>if c=92 then(if okE d then a8 r (i+2) else .atp 3 ((i+1:Nat):Int)) else a8 (d::r) (i+1)
def bY:ω->List Tk
 |[]=>[]
 |[c]=>if c=92 then[] else[.one c]
 |c::d::r=>if c=92 then(if okE d then .two d::bY r else[]) else .one c::bY (d::r)
abbrev rawT (T:List Tk):ω:=T.flatMap Tk.raw
abbrev jf (T:List Tk):ω:=T.map Tk.val
theorem pq {c:UInt8}(h:c≠92)(r:ω)(i:Nat):a8 (c::r) i=a8 r (i+1):=by
 cases r with
 |nil=>simp[a8,h]
 |cons d r=>simp[a8,h]
theorem oF {c:UInt8}(h:c≠92)(r:ω):bY (c::r)= .one c::bY r:=by
 cases r with
 |nil=>simp[bY,h]
 |cons d r=>simp[bY,h]
theorem po {d:UInt8}(h:okE d=true)(r:ω)(i:Nat):a8 (92::d::r) i=a8 r (i+2):=by simp[a8,h]
theorem oE {d:UInt8}(h:okE d=true)(r:ω):bY (92::d::r)= .two d::bY r:=by simp[bY,h]
theorem Hx:∀(n:Nat) (s:ω),s.length<=n->∀t∈bY s,t.ok
 |_,[],_,t,ht=>by cases ht
 |0,c::r,hn,_,_=>by simp at hn
 |n+1,c::r,hn,t,ht=>by
  have hn:r.length<=n:=by simpa using hn
  by_cases hc:c=92
  ·subst hc;cases r with
   |nil=>simp[bY] at ht
   |cons d r=>
    by_cases hd:okE d=true
    ·rw[oE hd] at ht;rcases List.mem_cons.1 ht with rfl|ht
     ·exact hd
     ·exact Hx n r (by simp at hn;omega) t ht
    ·simp[bY,hd] at ht
  ·rw[oF hc] at ht;rcases List.mem_cons.1 ht with rfl|ht
   ·exact hc
   ·exact Hx n r hn t ht
theorem vL:∀(n:Nat) (s:ω) (i:Nat),s.length<=n->a8 s i= .none->rawT (bY s)=s
 |_,[],_,_,_=>rfl
 |0,c::r,_,hn,_=>by simp at hn
 |n+1,c::r,i,hn,he=>by
  have hn:r.length<=n:=by simpa using hn
  by_cases hc:c=92
  ·subst hc;cases r with
   |nil=>simp[a8] at he
   |cons d r=>
    by_cases hd:okE d=true
    ·rw[po hd] at he;rw[oE hd];show 92::d::rawT (bY r)=_;rw[vL n r _ (by simp at hn;omega) he]
    ·simp[a8,hd] at he
  ·rw[pq hc] at he;rw[oF hc];show c::rawT (bY r)=_;rw[vL n r _ hn he]
theorem Kj:∀(T:List Tk) (i:Nat),(∀t∈T,t.ok)->a8 (rawT T) i= .none/\bY (rawT T)=T
 |[],_,_=>⟨rfl,rfl⟩
 |t::T,i,h=>by
  have ih:=λi=>Kj T i (λt ht=>h t (List.mem_cons_of_mem _ ht));have ht:=h t z_;cases t with
  |one c=>
   show a8 (c::rawT T) i=_/\bY (c::rawT T)=_;rw[pq ht,oF ht,(ih _).1,(ih 0).2];exact⟨rfl,rfl⟩
  |two d=>
   show a8 (92::d::rawT T) i=_/\bY (92::d::rawT T)=_;rw[po ht,oE ht,(ih _).1,(ih 0).2];exact⟨rfl,rfl⟩
def zj (s:ω)(i:Nat)(T:List Tk):Prop:=i<=s.length/\a8 s 0=a8 (s.drop i) i/\bY s=T++bY (s.drop i)
theorem Ax (s:ω):zj s 0 []:=⟨Nat.zero_le _,rfl,rfl⟩
theorem lc {s:ω}{i:Nat}(h:i<s.length){c:UInt8}:s[i]=c↔(aa s i:Int)=c.toNat:=by
 have e:aa s i=s[i].toNat:=by simp[aa,List.getD,y_ h]
 rw[e,<-UInt8.toNat_inj];omega
theorem wN {s:ω}{i:Nat}{T:List Tk}(h:zj s i T)(hi:i<s.length)(hc:(aa s i:Int)≠92):zj s (i+1) (T++[.one s[i]]):=by
 obtain⟨_,h2,h3⟩:=h;have hc:s[i]≠92:=λk=>hc ((lc hi).1 k);rw[A_ hi] at h2 h3;rw[pq hc] at h2;rw[oF hc] at h3;exact⟨hi,h2,by rw[h3,An];rfl⟩
theorem m5 {s:ω}{i:Nat}{T:List Tk}(h:zj s i T)(hi:i+1<s.length)(hc:(aa s i:Int)=92)(hd:okE s[i+1]=true):zj s (i+2) (T++[.two s[i+1]]):=by
 obtain⟨_,h2,h3⟩:=h;have hc:s[i]=92:=(lc a_).2 hc;rw[A_ (by omega:i<s.length),A_ hi,hc] at h2 h3;rw[po hd] at h2;rw[oE hd] at h3;exact⟨hi,h2,by rw[h3,An];rfl⟩
theorem Aw {s:ω}{i:Nat}{T:List Tk}(h:zj s i T)(hi:i+1=s.length)(hc:(aa s i:Int)=92):a8 s 0= .atp 7 ((i:Int)+1):=by
 obtain⟨_,h2,_⟩:=h;have hc:s[i]=92:=(lc a_).2 hc;rw[A_ (by omega:i<s.length),List.drop_of_length_le a_,hc] at h2;rw[h2];rfl
theorem Ee {s:ω}{i:Nat}{T:List Tk}(h:zj s i T)(hi:i+1<s.length)(hc:(aa s i:Int)=92)(hd:okE s[i+1]=false):a8 s 0= .atp 3 ((i:Int)+1):=by
 obtain⟨_,h2,_⟩:=h;have hc:s[i]=92:=(lc a_).2 hc;rw[A_ (by omega:i<s.length),A_ hi,hc] at h2;rw[h2];simp[a8,hd]
theorem Ed {s:ω}{i:Nat}{T:List Tk}(h:zj s i T)(hi:s.length<=i):a8 s 0= .none/\bY s=T:=by
 obtain⟨_,h2,h3⟩:=h;rw[List.drop_of_length_le hi] at h2 h3;exact⟨h2,by simpa[bY] using h3⟩
end
section
def mo (at_:ω)(x:List ω×ω×ω):Tk->List ω×ω×ω
 |.one c=>if c∈at_ then(x.1++[x.2.1],[],x.2.2++[c]) else(x.1,x.2.1++[c],x.2.2)
 |.two d=>(x.1,x.2.1++[yN d],x.2.2)
def j8 (at_:ω)(T:List Tk):List ω×ω×ω:=T.foldl (mo at_) ([],[],[])
def jJ (c:UInt8)(x:List (List Tk)×List Tk):Tk->List (List Tk)×List Tk
 |.one b=>if b=c then(x.1++[x.2],[]) else(x.1,x.2++[.one b])
 |.two d=>(x.1,x.2++[.two d])
def jn (c:UInt8)(T:List Tk):List (List Tk)×List Tk:=T.foldl (jJ c) ([],[])
def oM (c:UInt8)(T:List Tk):List (List Tk):=(jn c T).1++[(jn c T).2]
def oK (c:UInt8)(x:List ω×ω×Bool)(b:UInt8):List ω×ω×Bool:=
 if b=c/\x.2.2=false then(x.1++[x.2.1],[],b==92&& !x.2.2) else(x.1,x.2.1++[b],b==92&& !x.2.2)
def HH (c:UInt8)(s:ω):List ω×ω×Bool:=s.foldl (oK c) ([],[],false)
def eQ (c:UInt8)(s:ω):List ω:=(HH c s).1++[(HH c s).2.1]
theorem lI (a:ω)(T:List Tk)(t:Tk):j8 a (T++[t])=mo a (j8 a T) t:=by unfold j8;rw[List.foldl_append];rfl
theorem jm (c:UInt8)(T:List Tk)(t:Tk):jn c (T++[t])=jJ c (jn c T) t:=by unfold jn;rw[List.foldl_append];rfl
theorem oL (c:UInt8)(s:ω)(b:UInt8):HH c (s++[b])=oK c (HH c s) b:=by unfold HH;rw[List.foldl_append];rfl
theorem SY (c:UInt8)(s:ω)(a b:UInt8):HH c (s++[a,b])=oK c (oK c (HH c s) a) b:=by unfold HH;rw[List.foldl_append];rfl
theorem Po (T:List Tk)(t:Tk):rawT (T++[t])=rawT T++t.raw:=by simp
theorem oC (T:List Tk)(t:Tk):jf (T++[t])=jf T++[t.val]:=by simp
theorem J6 {T:List Tk}{t:Tk}(h:∀x∈T++[t],x.ok):(∀x∈T,x.ok)/\t.ok:=⟨λx hx=>h x (List.mem_append_left _ hx),h t (by simp)⟩
theorem Us {c:UInt8}(hc:c≠92):∀T:List Tk,(∀t∈T,t.ok)->HH c (rawT T)=((jn c T).1.map rawT,rawT (jn c T).2,false):=by
 refine ij (λ_=>rfl) λT t ih h=> ?_;obtain⟨h1,h2⟩:=J6 h;have ih:=ih h1
 rw[Po,jm]
 cases t with
 |one b=>
  have h2:b≠92:=h2
  rw[show(Tk.one b).raw=[b] from rfl,oL,ih]
  unfold oK jJ
  by_cases hb:b=c
  ·subst hb
   simp[h2]
  ·simp[hb,h2,Tk.raw]
 |two d=>
  rw[show(Tk.two d).raw=[92,d] from rfl,SY,ih]
  unfold jJ
  by_cases hd:d=92
  ·simp[oK,hd,Ne.symm hc,Tk.raw]
  ·simp[oK,hd,Ne.symm hc,Tk.raw]
theorem V5 {c:UInt8}:∀T:List Tk,(∀t∈T,t.ok)->(∀T'∈(jn c T).1,∀t∈T',t.ok)/\∀t∈(jn c T).2,t.ok:=by
 refine ij (λ_=>⟨λ_ h=>by simp[jn] at h,λ_ h=>by simp[jn] at h⟩) λT t ih h=> ?_;obtain⟨h1,h2⟩:=J6 h;obtain⟨i1,i2⟩:=ih h1;rw[jm];have key:∀x∈(jn c T).2++[t],x.ok:=λx hx=>by
  rcases List.mem_append.1 hx with hx|hx
  ·exact i2 x hx
  ·rw[List.mem_singleton.1 hx];exact h2
 cases t with
 |one b=>
  unfold jJ;by_cases hb:b=c
  ·simp only[hb,aap];refine⟨λT' hT=> ?_,λx hx=>by cases hx⟩;rcases List.mem_append.1 hT with hT|hT
   ·exact i1 T' hT
   ·rw[List.mem_singleton.1 hT];exact i2
  ·simp only[hb,aaq];exact⟨i1,key⟩
 |two d=>exact⟨i1,key⟩
theorem S2 {c:UInt8}{T:List Tk}(h:∀t∈T,t.ok):∀T'∈oM c T,∀t∈T',t.ok:=by
 obtain⟨h1,h2⟩:=V5 (c:=c) T h;intro T' hT;rcases List.mem_append.1 hT with hT|hT
 ·exact h1 T' hT
 ·rw[List.mem_singleton.1 hT];exact h2
theorem Rn {c:UInt8}(hc:c≠92){T:List Tk}(h:∀t∈T,t.ok):eQ c (rawT T)=(oM c T).map rawT:=by
 unfold eQ oM;rw[Us hc T h,Nm];rfl
theorem S6:∀T:List Tk,j8 [] T=([],jf T,[]):=by
 refine ij rfl λT t ih=> ?_;rw[lI,ih,oC];cases t<;>simp[mo,Tk.val]
theorem J9 (c:UInt8):∀T:List Tk,(j8 [c] T).1=(jn c T).1.map jf/\(j8 [c] T).2.1=jf (jn c T).2:=by
 refine ij ⟨rfl,rfl⟩ λT t ih=> ?_;rw[lI,jm];cases t with
 |one b=>
  unfold mo jJ;by_cases hb:b=c
  ·simp[hb,ih.1,ih.2]
  ·simp[hb,ih.1,ih.2,Tk.val]
 |two d=>simp[mo,jJ,ih.1,ih.2,Tk.val]
def yj (out:List (List ω))(x:ω):List (List ω):=out.dropLast++[out.getLast?.getD []++[x]]
theorem nZ (out:List (List ω))(l:List ω)(x:ω):yj (out++[l]) x=out++[l++[x]]:=by simp[yj]
def qC (out:List (List ω))(c:UInt8×ω):List (List ω):=yj (if c.1=59 then out++[[]] else out) c.2
def F4 (l:List ω)(cuts:ω):List (List ω):=(cuts.zip l.tail).foldl qC [[l.headD []]]
theorem F3 (l:List ω)(hl:l≠[])(cuts:ω)(h:l.length=cuts.length+1)(c:UInt8)(x:ω):F4 (l++[x]) (cuts++[c])=qC (F4 l cuts) (c,x):=by
 cases l with
 |nil=>exact absurd rfl hl
 |cons a l=>
  have h:cuts.length=l.length:=by simpa using h.symm
  unfold F4;simp only[Lu,List.tail_cons,List.headD_cons];rw[List.zip_append h,List.foldl_append];rfl
def lstT (T:List Tk):List ω:=(oM 44 T).map jf
theorem vQ (T:List Tk):lstT T=(jn 44 T).1.map jf++[jf (jn 44 T).2]:=by simp[lstT,oM]
theorem Em (o:List (List ω))(x:ω):qC o (44,x)=yj o x:=rfl
theorem HF (o:List (List ω))(x:ω):qC o (59,x)=yj (o++[[]]) x:=rfl
theorem J8:∀T:List Tk,(j8 [44,59] T).1.length=(j8 [44,59] T).2.2.length/\(j8 [44,59] T).2.1=jf (jn 44 (jn 59 T).2).2/\
  ∀x,F4 ((j8 [44,59] T).1++[x]) (j8 [44,59] T).2.2=(jn 59 T).1.map lstT++[(jn 44 (jn 59 T).2).1.map jf++[x]]:=by
 refine ij ⟨rfl,rfl,λx=>rfl⟩ λT t ih=> ?_;obtain⟨h1,h2,h3⟩:=ih;rw[lI,jm];cases t with
 |one b=>
  by_cases hb:b=59
  ·subst hb;rw[show mo [44,59] (j8 [44,59] T) (.one 59)=((j8 [44,59] T).1++[(j8 [44,59] T).2.1],[],(j8 [44,59] T).2.2++[59]) from rfl,show jJ 59 (jn 59 T) (.one 59)=((jn 59 T).1++[(jn 59 T).2],[]) from rfl];refine⟨by simp[h1],rfl,λx=> ?_⟩;rw[F3 _ (by simp) _ (by simp[h1]),h3,h2];rw[HF,nZ,Nm,S_,vQ];simp[jn]
  ·by_cases hb2:b=44
   ·subst hb2;rw[show mo [44,59] (j8 [44,59] T) (.one 44)=((j8 [44,59] T).1++[(j8 [44,59] T).2.1],[],(j8 [44,59] T).2.2++[44]) from rfl,show jJ 59 (jn 59 T) (.one 44)=((jn 59 T).1,(jn 59 T).2++[.one 44]) from rfl];dsimp only
    rw[jm,show jJ 44 (jn 44 (jn 59 T).2) (.one 44)=((jn 44 (jn 59 T).2).1++[(jn 44 (jn 59 T).2).2],[]) from rfl];refine⟨by simp[h1],rfl,λx=> ?_⟩;rw[F3 _ (by simp) _ (by simp[h1]),h3,h2];rw[Em,nZ];simp
   ·have e1:mo [44,59] (j8 [44,59] T) (.one b)=((j8 [44,59] T).1,(j8 [44,59] T).2.1++[b],(j8 [44,59] T).2.2):=by simp[mo,hb,hb2]
    have e2:jJ 59 (jn 59 T) (.one b)=((jn 59 T).1,(jn 59 T).2++[.one b]):=by simp[jJ,hb]
    have e3:jn 44 ((jn 59 T).2++[.one b])=((jn 44 (jn 59 T).2).1,(jn 44 (jn 59 T).2).2++[.one b]):=by rw[jm];simp[jJ,hb2]
    rw[e1,e2];dsimp only
    rw[e3];exact⟨h1,by rw[h2,oC];rfl,h3⟩
 |two d=>
  have e2:jJ 59 (jn 59 T) (.two d)=((jn 59 T).1,(jn 59 T).2++[.two d]):=rfl;have e3:jn 44 ((jn 59 T).2++[.two d])=((jn 44 (jn 59 T).2).1,(jn 44 (jn 59 T).2).2++[.two d]):=by rw[jm];rfl
  rw[e2,show mo [44,59] (j8 [44,59] T) (.two d)=((j8 [44,59] T).1,(j8 [44,59] T).2.1++[yN d],(j8 [44,59] T).2.2) from rfl];dsimp only
  rw[e3];exact⟨h1,by rw[h2,oC];rfl,h3⟩
theorem T0 (T:List Tk):F4 ((j8 [44,59] T).1++[(j8 [44,59] T).2.1]) (j8 [44,59] T).2.2=(oM 59 T).map lstT:=by
 obtain⟨_,h2,h3⟩:=J8 T;rw[h3,h2,oM,Nm,S_,vQ];rfl
end
section
def qS (s:ω):Nat->Nat
 |0=>0
 |i+1=>if(aa s i:Int)=92 then qS s i+1 else 0
theorem JF (s:ω):∀i,qS s i<=i
 |0=>Nat.le_refl _
 |i+1=>by
  have:=JF s i
  unfold qS
  split<;>omega
theorem RM (s:ω):∀i n,n<qS s i->(aa s (i-n-1):Int)=92
 |0,n,h=>absurd h (Uf _)
 |i+1,n,h=>by
  unfold qS at h;split at h
  ·rename_i hb;cases n with
   |zero=>exact hb
   |succ n=>
    rw[show i+1-(n+1)-1=i-n-1 by omega];exact RM s i n a_
  ·exact absurd h (Uf _)
theorem GS (s:ω):∀i,qS s i=i\/(aa s (i-qS s i-1):Int)≠92
 |0=>.inl rfl
 |i+1=>by
  rcases GS s i with h|h
  ·unfold qS;split
   ·left;rw[h]
   ·rename_i hb;exact .inr hb
  ·unfold qS;split
   ·right;rw[show i+1-(qS s i+1)-1=i-qS s i-1 by omega];exact h
   ·rename_i hb;exact .inr hb
def G8 (s:ω)(c:UInt8)(i:Nat)(out:List ω)(fr:Nat):Prop:=i<=s.length/\fr<=i/\out.length<=i/\HH c (s.take i)=(out,(s.take i).drop fr,decide (qS s i%2=1))
theorem Np (s:ω)(c:UInt8):G8 s c 0 [] 0:=⟨Nat.zero_le _,Nat.le_refl _,Nat.le_refl _,rfl⟩
theorem Fk (s:ω){i:Nat}(h:i<s.length):(s[i]==92&& !decide (qS s i%2=1))=decide (qS s (i+1)%2=1):=by
 have e:(s[i]==92)=decide ((aa s i:Int)=92):=by
  rw[w_,aad,n_,lc h];rfl
 rw[e];rw[show qS s (i+1)=if(aa s i:Int)=92 then qS s i+1 else 0 from rfl];by_cases hb:(aa s i:Int)=92
 ·simp only[hb,decide_true,aae,aap];rw[w_];simp only[Bool.not_eq_true',aaf,n_];omega
 ·simp[hb]
theorem Rm {s:ω}{c:UInt8}{i fr:Nat}{out:List ω}(h:G8 s c i out fr)(hi:i<s.length)(hb:(aa s i:Int)=c.toNat)(he:qS s i%2=0):G8 s c (i+1) (out++[(s.take i).drop fr]) (i+1):=by
 obtain⟨_,h1,h0,h2⟩:=h;have hb:=(lc hi).2 hb;refine⟨hi,Nat.le_refl _,by simp;omega,?_⟩;rw[x_ hi,oL,h2];unfold oK;rw[if_pos ⟨hb,by simp[he]⟩];rw[Fk s hi];simp
theorem Ut {s:ω}{c:UInt8}{i fr:Nat}{out:List ω}(h:G8 s c i out fr)(hi:i<s.length)(hb:¬((aa s i:Int)=c.toNat/\qS s i%2=0)):G8 s c (i+1) out fr:=by
 obtain⟨_,h1,h0,h2⟩:=h;refine⟨hi,a_,a_,?_⟩;rw[x_ hi,oL,h2];unfold oK;rw[if_neg ?_]
 ·rw[Fk s hi,List.drop_append_of_le_length (by rw[i_];omega)]
 ·rintro⟨k1,k2⟩;refine hb ⟨(lc hi).1 k1,?_⟩;have:¬qS s i%2=1:=by simpa using k2
  omega
theorem Rk {s:ω}{c:UInt8}{i fr:Nat}{out:List ω}(h:G8 s c i out fr)(hi:s.length<=i):eQ c s=out++[s.drop fr]:=by
 obtain⟨_,h1,h0,h2⟩:=h;rw[u_ hi] at h2;unfold eQ;rw[h2]
end
section
theorem ZT (b:Int):aS [92,44,59,110,78] b=if b=92 then 0 else if b=44 then 1 else if b=59 then 2 else if b=110 then 3 else if b=78 then 4 else-1:=by
 unfold aS;simp only[kE];by_cases h1:b=92
 ·subst h1;rfl
 by_cases h2:b=44
 ·subst h2;rfl
 by_cases h3:b=59
 ·subst h3;rfl
 by_cases h4:b=110
 ·subst h4;rfl
 by_cases h5:b=78
 ·subst h5;rfl
 rw[if_neg h1,if_neg h2,if_neg h3,if_neg h4,if_neg h5,if_neg (λh=>h1 h.symm),if_neg (λh=>h2 h.symm),if_neg (λh=>h3 h.symm),if_neg (λh=>h4 h.symm),if_neg (λh=>h5 h.symm)]
def zp (s:ω):ω:=match a8 s 0 with
 |.none=>jf (bY s)
 |_=>[]
theorem Hr {s:ω}(h:a8 s 0= .none):zp s=jf (bY s):=by unfold zp;rw[h]
theorem Hs {s:ω}{e p:Int}(h:a8 s 0= .atp e p):zp s=[]:=by unfold zp;rw[h]
theorem PH {s:ω}{i:Nat}(h:i<s.length):okE s[i]=decide ((aa s i:Int)=92\/(aa s i:Int)=44\/(aa s i:Int)=59\/(aa s i:Int)=110\/(aa s i:Int)=78):=by
 unfold okE;simp only[lc h];rfl
theorem Jd {s:ω}{i:Nat}(h:i<s.length)(hb:(aa s i:Int)=110\/(aa s i:Int)=78):yN s[i]=10:=by
 unfold yN;rw[if_pos (hb.imp (lc (c:=110) h).2 (lc (c:=78) h).2)]
theorem un {s:ω}{i:Nat}(h:i<s.length)(hb:¬((aa s i:Int)=110\/(aa s i:Int)=78)):yN s[i]=s[i]:=by
 unfold yN;rw[if_neg (λk=>hb (k.imp (lc (c:=110) h).1 (lc (c:=78) h).1))]
theorem OE {s:ω}{i:Nat}(h:i<s.length):(s.take (i+1)).drop i=[s[i]]:=by
 rw[x_ h,List.drop_append_of_le_length (by rw[i_];omega),List.drop_of_length_le (by rw[i_];omega)];rfl
theorem Ss (T:List Tk):(jf T).length=T.length:=by simp
set_option maxHeartbeats 8000000
attribute [local irreducible] bJ au ax aR ab ad aa yN aS
theorem lj {G:Glo}(s:ω)(hl:s.length<=2000000):ai prog G 76 [.str s] (.tuple [.str (zp s),.agg [.int .i64 (a8 s 0).e,.int .i64 (a8 s 0).p]]):=by
 have hgd:=fb (G:=G);have hI:=λ(b:Int) h0 h1=>aK (G:=G) [92,44,59,110,78] b h0 h1
 refine aw func76 call76 λC hC hGL=> ?_
 refine je ?_
 intro bl
 intros
 refine lp hC hGL (λ(x:Nat×List Tk)=>[(0,.str s),(3,.own 0 (.pointer (some ⟨bl,0,none⟩))),(4,.str (jf x.2)),(5,.int .i64 (x.1:Nat))]) (λ_=>[.cells bl (some 25) [.int .i64 0,.int .i64 0]]) (λx=>zj s x.1 x.2/\x.2.length<=x.1) (λx=>s.length-x.1) (0,[]) ?_ ae rfl ?_
 ·exact⟨Ax s,Nat.le_refl _⟩
 rintro⟨i,T⟩ ⟨hT,hlT⟩
 have hT:zj s i T:=hT
 have hlT:T.length<=i:=hlT
 have hi:=hT.1
 have hv:=Ss T
 by_cases hA:i+1<s.length/\(aa s i:Int)=92
 ·obtain⟨hA1,hA2⟩:=hA
  have hbl:=bB s (i+1)
  have hJ:=hI (aa s (i+1):Int) a_ a_
  rw[ZT] at hJ
  have hok:=PH hA1
  repeat' split at hJ
  iterate 5
   ·have k1:= ‹(aa s (i+1):Int)=_›
    refine an ?_
    intros
    refine cQ (i+2,T++[.two s[i+1]]) ⟨m5 hT hA1 hA2 (by rw[hok];simp[k1]),by simp;omega⟩ (by show s.length-(i+2)<s.length-i;omega) ⟨rfl,rfl,?_,rfl,trivial⟩ rfl
    refine congrArg (λl=>some (AVal.str l)) ?_
    rw[oC]
    refine congrArg (jf T++ ·) ?_
    show[_]=[yN s[i+1]]
    first
     |rw[Jd hA1 a_]
     |rw[un hA1 a_,(lc hA1).2 (show _=((92:UInt8).toNat:Int) from k1)]
     |rw[un hA1 a_,(lc hA1).2 (show _=((44:UInt8).toNat:Int) from k1)]
     |rw[un hA1 a_,(lc hA1).2 (show _=((59:UInt8).toNat:Int) from k1)]
  rename_i k1 k2 k3 k4 k5
  have he:=Ee hT hA1 hA2 (by rw[hok];simp[k1,k2,k3,k4,k5])
  refine an ?_
  intros
  apply aj
  rw[Hs he,he]
  rfl
 ·refine xn ?_
  repeat' first|exact .n|apply Lc.mk
  all_goals intros
  ·have hlt:i<s.length:=by dsimp only at*;omega
   have hne:(aa s i:Int)≠92:=by assumption
   refine cQ (i+1,T++[.one s[i]]) ?_ ?_ ⟨rfl,rfl,?_,rfl,trivial⟩ rfl
   ·exact⟨wN hT hlt hne,by simp;omega⟩
   ·show s.length-(i+1)<s.length-i
    omega
   ·refine congrArg (λl=>some (AVal.str l)) ?_
    rw[oC]
    exact congrArg (jf T++ ·) (OE hlt)
  ·have he:=Aw hT (by dsimp only at*;omega) (by assumption)
   apply aj
   rw[Hs he,he]
   rfl
  ·exfalso
   dsimp only at*
   omega
  ·obtain⟨he,ht⟩:=Ed hT (by dsimp only at*;omega)
   apply aj
   rw[Hr he,he,ht]
   rfl
end
section
theorem XO {s:ω}{i n:Nat}(h:n<=qS s i)(hb:(aa s (i-n-1):Int)=92)(hi:n<i):n+1<=qS s i:=by
 rcases aaj n (qS s i) with k|k
 ·exact k
 ·have e:n=qS s i:=by omega
  rcases GS s i with h1|h1
  ·omega
  ·rw[<-e] at h1;exact absurd hb h1
theorem XP {s:ω}{i n:Nat}(h:n<=qS s i)(hb:(aa s (i-n-1):Int)≠92):n=qS s i:=by
 rcases aaj n (qS s i) with k|k
 ·exact absurd (RM s i n k) hb
 ·omega
theorem RL {s:ω}{i n:Nat}(h:n<=qS s i)(hi:i<=n):n=qS s i:=by
 have:=JF s i;omega
set_option maxHeartbeats 8000000
attribute [local irreducible] bJ au ax aR ab ad aa qS
theorem Kh {G:Glo}(s:ω)(c:UInt8)(hl:s.length<=2000000):ai prog G 134 [.str s,.int .u8 (c.toNat:Int)] (.list 1 (eQ c s).length (aB (eQ c s))):=by
  refine n7 (λa=>a) PX (aB (eQ c s)) (gt _) (cs:=bu (eQ c s)) (eT:=none) ?_;refine aw func134 call134 λC hC hGL=> ?_;refine an ?_;intros;refine jX 5 1 rfl ?_;refine lp hC hGL (λ(x:Nat×Nat×List ω×Value)=>[(0,.str s),(1,.int .u8 (c.toNat:Int)),(5,.own 0 x.2.2.2),(6,.int .i64 (x.2.1:Nat)),(10,.int .i64 (s.length:Nat)),(11,.int .i64 (x.1:Nat))]) (λx=>[.row x.2.2.2 none 1 x.2.2.1.length (bu x.2.2.1)]) (λx=>G8 s c x.1 x.2.2.1 x.2.1) (λx=>s.length-x.1) (0,0,[],.slice none 0 0) ?_ ae rfl ?_
  · exact Np s c
  rintro⟨i,fr,out,v⟩ hT;have hT:G8 s c i out fr:=hT;have h1:=hT.1;have h2:=hT.2.1;have h3:=hT.2.2.1;refine xn ?_;repeat' first|exact .n|apply Lc.mk
  all_goals intros
  · have hlt:i<s.length:=by dsimp only at*;omega
    refine lp hC hGL (λ(n:Nat)=>[(0,.str s),(1,.int .u8 (c.toNat:Int)),(5,.own 0 v),(6,.int .i64 (fr:Nat)),(7,.int .i64 (i:Nat)),(8,.int .i64 (n:Nat)),(10,.int .i64 (s.length:Nat)),(11,.int .i64 (i:Nat))]) (λ_=>[.row v none 1 out.length (bu out)]) (λn=>n<=qS s i) (λn=>i-n) 0 ?_ ae rfl ?_
    · exact Nat.zero_le _
    intro n hn;have hn:n<=qS s i:=hn;have hni:=JF s i;have e:0<(i:Int)-n->((i:Int)-n-1).toNat=i-n-1:=λ_=>by omega
    refine xw ?_;repeat' first|exact .n|apply Lc.mk
    all_goals intros
    · rename_i hb;rw[e a_] at hb;refine cQ (n+1) (XO hn hb a_) ?_ ⟨rfl,rfl,rfl,rfl,rfl,rfl,rfl,rfl,trivial⟩ rfl;show i-(n+1)<i-n;omega
    all_goals
      have en:n=qS s i:=by first|exact RL hn a_|(rw[e a_] at*;exact XP hn (by assumption))
      first
        | (refine cQ (i+1,i+1,out++[(s.take i).drop fr],.slice _ _ _) ?_ ?_ ⟨rfl,rfl,rfl,rfl,rfl,rfl,trivial⟩ ?_
           · exact Rm hT hlt (by assumption) (by rw[<-en];omega)
           · show s.length-(i+1)<s.length-i;omega
           · dsimp only
             rw[<-cg,d_];rfl)
        | (refine cQ (i+1,fr,out,v) ?_ ?_ ⟨rfl,rfl,rfl,rfl,rfl,rfl,trivial⟩ rfl
           · exact Ut hT hlt (by rw[<-en];omega)
           · show s.length-(i+1)<s.length-i;omega)
  · have h3p:(((i,fr,out,v):Nat×Nat×List ω×Value).2.2.1).length<=i:=h3;refine aH ?_;intros;have hlt:s.length<=i:=by dsimp only at*;omega
    refine⟨_,At _,0,_,rfl,?_⟩;dsimp only
    rw[Rk hT hlt,<-cg,d_];rfl
end
section
theorem J4 (c:UInt8):∀s:ω,(∀x∈(HH c s).1,x.length<=s.length)/\(HH c s).2.1.length<=s.length:=by
 refine ij ⟨λ_ h=>by simp[HH] at h,by simp[HH]⟩ λs b ih=> ?_;rw[oL];unfold oK;split
 ·refine⟨λx hx=> ?_,by simp⟩;rw[d_];rcases List.mem_append.1 hx with hx|hx
  ·have:=ih.1 x hx;omega
  ·rw[List.mem_singleton.1 hx];have:=ih.2;omega
 ·refine⟨λx hx=> ?_,?_⟩
  ·rw[d_];have:=ih.1 x hx;omega
  ·rw[d_,d_];have:=ih.2;simp;omega
theorem GA (c:UInt8)(s:ω){x:ω}(h:x∈eQ c s):x.length<=s.length:=by
 rcases List.mem_append.1 h with h|h
 ·exact(J4 c s).1 x h
 ·rw[List.mem_singleton.1 h];exact(J4 c s).2
theorem SZ (c:UInt8):∀s:ω,(HH c s).1.length<=s.length:=by
 refine ij (Nat.le_refl _) λs b ih=> ?_;rw[oL,d_];unfold oK;split
 ·simp;exact ih
 ·simp;omega
theorem GB (c:UInt8)(s:ω):(eQ c s).length<=s.length+1:=by
 have:=SZ c s;simp[eQ];exact this
theorem qm:∀(n:Nat) (s:ω) (i:Nat),s.length<=n->a8 s i= .none\/(∃p,a8 s i= .atp 7 p)\/∃p,a8 s i= .atp 3 p
 |_,[],_,_=>.inl rfl
 |0,c::r,_,hn=>by simp at hn
 |n+1,c::r,i,hn=>by
  have hn:r.length<=n:=by simpa using hn
  by_cases hc:c=92
  ·subst hc;cases r with
   |nil=>exact .inr (.inl ⟨_,rfl⟩)
   |cons d r=>
    by_cases hd:okE d=true
    ·rw[po hd];exact qm n r _ (by simp at hn;omega)
    ·exact .inr (.inr ⟨_,by simp[a8,hd];rfl⟩)
  ·rw[pq hc];exact qm n r _ hn
theorem Li {s:ω}(h:a8 s 0≠ .none):¬(a8 s 0).e=0:=by
 rcases qm s.length s 0 (Nat.le_refl _) with k|⟨p,k⟩|⟨p,k⟩
 ·exact absurd k h
 ·rw[k];exact(by decide:¬(7:Int)=0)
 ·rw[k];exact(by decide:¬(3:Int)=0)
def jF (s:ω):List ω:=match a8 s 0 with
 |.none=>lstT (bY s)
 |_=>[]
theorem CX {s:ω}(h:a8 s 0= .none):jF s=lstT (bY s):=by unfold jF;rw[h]
theorem KK {s:ω}(h:a8 s 0≠ .none):jF s=[]:=by
 unfold jF
 split
 ·rename_i h2;exact absurd h2 h
 ·rfl
theorem Ot {s:ω}(h:a8 s 0≠ .none):zp s=[]:=by
 unfold zp;split
 ·rename_i h2;exact absurd h2 h
 ·rfl
theorem tP {s:ω}{c:UInt8}(hc:c≠92)(h:a8 s 0= .none):eQ c s=(oM c (bY s)).map rawT/\∀T'∈oM c (bY s),a8 (rawT T') 0= .none/\bY (rawT T')=T':=by
 have hok:=Hx s.length s (Nat.le_refl _);have hraw:=vL s.length s 0 (Nat.le_refl _) h;refine⟨?_,λT' hT=>Kj T' 0 (S2 hok T' hT)⟩;have:=Rn hc hok;rwa [hraw] at this
theorem E8 {s:ω}{c:UInt8}(hc:c≠92)(h:a8 s 0= .none){k:Nat}(hk:k<(eQ c s).length):∃T',(oM c (bY s))[k]? =some T'/\(eQ c s).getD k []=rawT T'/\a8 ((eQ c s).getD k []) 0= .none/\bY ((eQ c s).getD k [])=T':=by
 obtain⟨h1,h2⟩:=tP hc h;have hk':k<(oM c (bY s)).length:=by rw[h1,C_] at hk;exact hk
 refine⟨(oM c (bY s))[k],y_ hk',?_⟩;have e:(eQ c s).getD k []=rawT (oM c (bY s))[k]:=by
  rw[h1,f_,List.getElem?_map,y_ hk'];rfl
 rw[e];exact⟨rfl,h2 _ (K_ hk')⟩
theorem qB {α β:Type}{l:List α}{k:Nat}{a:α}(f:α->β)(h:l[k]? =some a):(l.map f).take (k+1)=(l.map f).take k++[f a]:=by
 obtain⟨hlt,e⟩:=List.getElem?_eq_some_iff.1 h;rw[x_ (by simpa using hlt)];simp[e]
theorem Cw {sz:Nat}{f:Nat->AVal}{b:AVal}:BO (.ret (.tuple [.raw (.slice none 0 0),b])) [] (.tuple [.list sz 0 f,b]):=by
 rintro C R w e hm ⟨x,rfl,⟨ws,e2,u,t,e1,hu,h3⟩,h2⟩;refine⟨R,hm,x,rfl,⟨ws,e2,u,t,e1,⟨?_,?_⟩,h3⟩,h2⟩
 ·have hr:bn R (.raw (.slice none 0 0)) u:=hu;obtain rfl:=aq.1 hr;exact⟨none,0,rfl,Nat.le_refl _,.inl rfl⟩
 ·have hr:bn R (.raw (.slice none 0 0)) u:=hu;obtain rfl:=aq.1 hr;rfl
set_option maxHeartbeats 8000000
attribute [local irreducible] bJ au ax aR ab ad aa eQ zp a8 bY lstT jF
theorem np {G:Glo}(e p:Int):ai prog G 10 [.agg [.int .i64 e,.int .i64 p]] (.bool (bV e 0)):=by
 refine aw func10 call10 λC hC hGL=> ?_;exact bq
theorem EW {G:Glo}(s:ω)(hl:s.length<=2000000):ai prog G 77 [.str s] (.tuple [.list 1 (jF s).length (aB (jF s)),.agg [.int .i64 (a8 s 0).e,.int .i64 (a8 s 0).p]]):=by
 have hU:=lj (G:=G) s hl;have hF:=np (G:=G) (a8 s 0).e (a8 s 0).p;have hgd:=fb (G:=G);have hcut:=Kh (G:=G) s 44 hl;have hcc:=GB 44 s;by_cases he:a8 s 0= .none
 ·rw[he] at hU hF ⊢;rw[CX he];have hUp:=λk (hk:k<(eQ 44 s).length)=>lj (G:=G) ((eQ 44 s).getD k []) (aai (GA 44 s (by rw[f_,y_ hk];exact K_ hk)) hl);refine n7 (λa=>.tuple [a,.agg [.int .i64 (Err.none).e,.int .i64 (Err.none).p]]) (CS _) (aB (lstT (bY s))) (gt _) (cs:=bu (lstT (bY s))) (eT:=none) ?_;refine aw func77 call77 λC hC hGL=> ?_;refine je ?_;intro bl0 bl;intros;refine jX 6 1 rfl ?_;obtain⟨hp1,_⟩:=tP (c:=44) b_ he;have hn:(lstT (bY s)).length=(eQ 44 s).length:=by rw[hp1];unfold lstT;simp
  refine lp hC hGL (λ(y:List ω×Value)=>[(3,.own 0 (.pointer (some ⟨bl0,0,none⟩))),(6,.own 2 y.2),(21,.list 1 (eQ 44 s).length (aB (eQ 44 s))),(22,.int .i64 ((eQ 44 s).length:Nat)),(23,.int .i64 (y.1.length:Nat))]) (λy=>[.cells bl0 (some 25) [.int .i64 0,.int .i64 0],.cells bl (some 25) [.int .i64 (Err.none).e,.int .i64 (Err.none).p],.row y.2 none 1 y.1.length (bu y.1)]) (λy=>y.1.length<=(eQ 44 s).length/\y.1=(lstT (bY s)).take y.1.length) (λy=>(eQ 44 s).length-y.1.length) ([],.slice none 0 0) ?_ ae rfl ?_
  ·exact⟨Nat.zero_le _,rfl⟩
  rintro⟨ps,v⟩ ⟨h1,h2⟩;have h1:ps.length<=(eQ 44 s).length:=h1;have h2:ps=(lstT (bY s)).take ps.length:=h2;by_cases hlt:ps.length<(eQ 44 s).length
  ·obtain⟨T',k1,k2,k3,k4⟩:=E8 (c:=44) b_ he hlt;have hU1:=hUp ps.length hlt;rw[k3,Hr k3,k4] at hU1;have hU1:ai prog G 76 [aB (eQ 44 s) ps.length] (.tuple [.str (jf T'),.agg [.int .i64 (Err.none).e,.int .i64 (Err.none).p]]):=hU1;refine aH ?_;intros;refine fG (ps++[jf T'],.slice _ _ _) ?_ ?_ ⟨rfl,rfl,rfl,rfl,?_,trivial⟩ ?_
   ·refine⟨?_,?_⟩
    ·show(ps++[jf T']).length<=_;rw[d_,Rf];exact hlt
    ·show ps++[jf T']=(lstT (bY s)).take (ps++[jf T']).length;have e1:(lstT (bY s)).take (ps.length+1)=(lstT (bY s)).take ps.length++[jf T']:=by
      unfold lstT;exact qB jf k1
     rw[d_,Rf,e1,<-h2]
   ·show(eQ 44 s).length-(ps++[jf T']).length<(eQ 44 s).length-ps.length;rw[d_,Rf];omega
   ·show some (AVal.int .i64 (((ps.length:Nat):Int)+1))=some (AVal.int .i64 ((ps++[jf T']).length:Nat));rw[d_];rfl
   ·dsimp only
    rw[<-cg,d_];exact .cons_cons _ (.cons_cons _ (.cons_cons _ (Ug _)))
  ·refine aH ?_;intros;have h3:ps=lstT (bY s):=by rw[h2,u_ a_]
   subst h3;exact⟨_,.cons _ (.cons _ (.refl _)),2,v,rfl,rfl⟩
 ·have hne:=Li he;rw[Ot he] at hU;rw[KK he];refine dB (H:=[]) (Qf:=λr H=>r= .ret (.tuple [.raw (.slice none 0 0),.agg [.int .i64 (a8 s 0).e,.int .i64 (a8 s 0).p]])/\H=[]) ?_ (λr H h=>by obtain⟨rfl,rfl⟩:=h;exact Cw);refine aw func77 call77 λC hC hGL=> ?_;refine an ?_;intro bl0 bl;intros;refine a7 mixed hC hGL false (λ(_:Unit)=>[(2,.raw (.slice none 0 0)),(3,.own 0 (.pointer (some ⟨bl0,0,none⟩)))]) (λ_=>[.cells bl0 (some 25) [.int .i64 (a8 s 0).e,.int .i64 (a8 s 0).p],.cells bl (some 25) [.int .i64 (a8 s 0).e,.int .i64 (a8 s 0).p]]) (.t 1 (.b 0 (.b 2 .done))) be xu ?_;intro _;exact eK
end
section
def FC (l:List ω):AVal:=.list 1 l.length (aB l)
def gf (L:List (List ω)):List AVal:=L.map FC
def kx (L:List (List ω))(i:Nat):AVal:=FC (L.getD i [])
theorem Ku (L:List (List ω)):∀i,i<L.length->(kx L i).cells=((gf L).drop (i*1)).take 1/\(kx L i).plain=true:=by
 intro i hi;refine⟨?_,rfl⟩;rw[Nat.mul_one,A_ (by simpa[gf] using hi)];simp[kx,gf,AVal.cells,List.getD,y_ hi,FC]
theorem tN (L:List (List ω))(l:List ω):gf L++[FC l]=gf (L++[l]):=by simp[gf]
def qt (T:List Tk):List (List ω):=(oM 59 T).map lstT
def kw (s:ω):List (List ω):=match a8 s 0 with
 |.none=>qt (bY s)
 |_=>[]
theorem Kr {s:ω}(h:a8 s 0= .none):kw s=qt (bY s):=by unfold kw;rw[h]
theorem Ks {s:ω}(h:a8 s 0≠ .none):kw s=[]:=by
 unfold kw;split
 ·rename_i h2;exact absurd h2 h
 ·rfl
set_option maxHeartbeats 8000000
attribute [local irreducible] bJ au ax aR ab ad aa eQ zp a8 bY lstT jF qt kw
theorem Mu {G:Glo}(s:ω)(hl:s.length<=2000000):ai prog G 78 [.str s] (.tuple [.list 1 (kw s).length (kx (kw s)),.agg [.int .i64 (a8 s 0).e,.int .i64 (a8 s 0).p]]):=by
 have hU:=lj (G:=G) s hl;have hF:=np (G:=G) (a8 s 0).e (a8 s 0).p;have hgd:=fb (G:=G);have hcut:=Kh (G:=G) s 59 hl;have hcc:=GB 59 s;by_cases he:a8 s 0= .none
 ·rw[he] at hU hF ⊢;rw[Kr he];have hUp:=λk (hk:k<(eQ 59 s).length)=>EW (G:=G) ((eQ 59 s).getD k []) (aai (GA 59 s (by rw[f_,y_ hk];exact K_ hk)) hl);refine n7 (λa=>.tuple [a,.agg [.int .i64 (Err.none).e,.int .i64 (Err.none).p]]) (CS _) (kx (qt (bY s))) (Ku _) (cs:=gf (qt (bY s))) (eT:=none) ?_;refine aw func78 call78 λC hC hGL=> ?_;refine je ?_;intro bl0 bl;intros;refine jX 6 1 rfl ?_;obtain⟨hp1,_⟩:=tP (c:=59) b_ he;have hn:(qt (bY s)).length=(eQ 59 s).length:=by rw[hp1];unfold qt;simp
  refine lp hC hGL (λ(y:List (List ω)×Value)=>[(3,.own 0 (.pointer (some ⟨bl0,0,none⟩))),(6,.own 2 y.2),(21,.list 1 (eQ 59 s).length (aB (eQ 59 s))),(22,.int .i64 ((eQ 59 s).length:Nat)),(23,.int .i64 (y.1.length:Nat))]) (λy=>[.cells bl0 (some 25) [.int .i64 0,.int .i64 0],.cells bl (some 25) [.int .i64 (Err.none).e,.int .i64 (Err.none).p],.row y.2 none 1 y.1.length (gf y.1)]) (λy=>y.1.length<=(eQ 59 s).length/\y.1=(qt (bY s)).take y.1.length) (λy=>(eQ 59 s).length-y.1.length) ([],.slice none 0 0) ?_ ae rfl ?_
  ·exact⟨Nat.zero_le _,rfl⟩
  rintro⟨ps,v⟩ ⟨h1,h2⟩;have h1:ps.length<=(eQ 59 s).length:=h1;have h2:ps=(qt (bY s)).take ps.length:=h2;by_cases hlt:ps.length<(eQ 59 s).length
  ·obtain⟨T',k1,k2,k3,k4⟩:=E8 (c:=59) b_ he hlt;have hU1:=hUp ps.length hlt;rw[k3,CX k3,k4] at hU1;have hU1:ai prog G 77 [aB (eQ 59 s) ps.length] (.tuple [.list 1 (lstT T').length (aB (lstT T')),.agg [.int .i64 (Err.none).e,.int .i64 (Err.none).p]]):=hU1;refine aH ?_;intros;refine fG (ps++[lstT T'],.slice _ _ _) ?_ ?_ ⟨rfl,rfl,rfl,rfl,?_,trivial⟩ ?_
   ·refine⟨?_,?_⟩
    ·show(ps++[lstT T']).length<=_;rw[d_,Rf];exact hlt
    ·show ps++[lstT T']=(qt (bY s)).take (ps++[lstT T']).length;have e1:(qt (bY s)).take (ps.length+1)=(qt (bY s)).take ps.length++[lstT T']:=by
      unfold qt;exact qB lstT k1
     rw[d_,Rf,e1,<-h2]
   ·show(eQ 59 s).length-(ps++[lstT T']).length<(eQ 59 s).length-ps.length;rw[d_,Rf];omega
   ·show some (AVal.int .i64 (((ps.length:Nat):Int)+1))=some (AVal.int .i64 ((ps++[lstT T']).length:Nat));rw[d_];rfl
   ·dsimp only
    rw[<-tN,d_];exact .cons_cons _ (.cons_cons _ (.cons_cons _ (Ug _)))
  ·refine aH ?_;intros;have h3:ps=qt (bY s):=by rw[h2,u_ a_]
   subst h3;exact⟨_,.cons _ (.cons _ (.refl _)),2,v,rfl,rfl⟩
 ·have hne:=Li he;rw[Ot he] at hU;rw[Ks he];refine dB (H:=[]) (Qf:=λr H=>r= .ret (.tuple [.raw (.slice none 0 0),.agg [.int .i64 (a8 s 0).e,.int .i64 (a8 s 0).p]])/\H=[]) ?_ (λr H h=>by obtain⟨rfl,rfl⟩:=h;exact Cw);refine aw func78 call78 λC hC hGL=> ?_;refine an ?_;intro bl0 bl;intros;refine a7 mixed hC hGL false (λ(_:Unit)=>[(2,.raw (.slice none 0 0)),(3,.own 0 (.pointer (some ⟨bl0,0,none⟩)))]) (λ_=>[.cells bl0 (some 25) [.int .i64 (a8 s 0).e,.int .i64 (a8 s 0).p],.cells bl (some 25) [.int .i64 (a8 s 0).e,.int .i64 (a8 s 0).p]]) (.t 1 (.b 0 (.b 2 .done))) be xu ?_;intro _;exact eK
end
section
def Vl.no:Vl:=⟨0,[],[],Stm.no,0⟩
def om (s:ω)(k:Int):Vl×Err:=
 if k=1 then(⟨k,zp s,[],Stm.no,0⟩,a8 s 0)
 else if k=2 then(⟨k,[],[jF s],Stm.no,0⟩,a8 s 0)
 else if k=3 then(⟨k,[],kw s,Stm.no,0⟩,a8 s 0)
 else if k=4 then(⟨k,s,[],Stm.no,0⟩,gJ s)
 else if k=5 then(⟨k,[],[],(Ha s).1,0⟩,(Ha s).2)
 else if k=6 then(⟨k,[],[],Stm.no,(bN s).1⟩,ig s)
 else if k=7 then(⟨k,s,[],Stm.no,0⟩,dJ s)
 else(⟨k,s,[],Stm.no,0⟩,.none)
def nx (s:ω)(k:Int):Vl×Err:=
 if k<1\/9<=k then(Vl.no,.errno 1)
 else if fo false s=false then(Vl.no,.errno 3)
 else match (om s k).2 with
  |.none=>om s k
  |e=>(Vl.no,e)
end
section
structure LineS where
 t:ω
 a:Nat
 f:List Int
def uR (l:LineS):AVal:=.agg [.str l.t,.int .i64 l.a,.list 1 l.f.length (d8 l.f)]
def aN (L:List LineS):List AVal:=L.flatMap λl=>[.str l.t,.int .i64 l.a,.list 1 l.f.length (d8 l.f)]
def a6 (L:List LineS)(i:Nat):AVal:=uR (L.getD i ⟨[],0,[]⟩)
theorem gA (L:List LineS):(aN L).length=L.length*3:=by
 induction L with
 |nil=>rfl
 |cons l L ih=>
  have e:aN (l::L)=[.str l.t,.int .i64 l.a,.list 1 l.f.length (d8 l.f)]++aN L:=rfl;rw[e,d_,ih,j_];simp only[j_,E_];omega
theorem jY (L M:List LineS):aN (L++M)=aN L++aN M:=by simp[aN]
theorem qa (L:List LineS):∀i,i<L.length->(a6 L i).cells=((aN L).drop (i*3)).take 3/\(a6 L i).plain=true:=by
 intro i hi;refine⟨?_,rfl⟩;have h1:L=L.take i++L[i]::L.drop (i+1):=by rw[<-A_ hi,List.take_append_drop]
 have h2:aN L=aN (L.take i)++([.str L[i].t,.int .i64 L[i].a,.list 1 L[i].f.length (d8 L[i].f)]++aN (L.drop (i+1))):=by
  conv=>lhs;rw[h1,jY]
  rfl
 have h3:(aN (L.take i)).length=i*3:=by rw[gA,i_];omega
 rw[h2,List.drop_append_of_le_length a_,List.drop_eq_nil_of_le a_];simp[a6,uR,AVal.cells,List.getD,y_ hi]
def cU (p:ω):Bool:= !(p.length==0)&&(aa p 0==32||aa p 0==9)
def oi (L:List LineS)(p:ω)(a:Nat):Err×List LineS:=
 if cU p then match L.getLast? with
  |none=>(.atp 10 0,[])
  |some l=>if 1500<l.t.length+(p.length-1) then(.atp 4 l.a,[]) else(.none,L.dropLast++[⟨l.t++p.drop 1,l.a,l.f++[(l.t.length:Int)]⟩])
 else if 1500<p.length then(.atp 4 a,[]) else(.none,L++[⟨p,a,[]⟩])
def iO (t:ω)(i:Nat):Bool:=aa t i==13&&decide (i+1<t.length)&&aa t (i+1)==10
def cz (t:ω)(a:Nat)(L:List LineS):Err×List LineS:=
 if h:a<t.length then
  if fk (t.drop a)<0 then(.atp 7 t.length,[])
  else if iO t (a+(fk (t.drop a)).toNat) then
   match oi L ((t.drop a).take (fk (t.drop a)).toNat) a with
   |(.none,L')=>cz t (a+(fk (t.drop a)).toNat+2) L'
   |(e,_)=>(e,[])
  else(.atp 3 (a+fk (t.drop a)),[])
 else(.none,L)
termination_by t.length-a
def cA (t:ω):Err:=if 20000<t.length then .errno 4 else(cz t 0 []).1
def bD (t:ω):List LineS:=if 20000<t.length then[] else(cz t 0 []).2
theorem o0 {s:ω}:∀{n:Nat},n<=s.length->(∀j,j<n->aa s j≠10/\aa s j≠13)->Lib.NoAny s [13,10] n
 |0,_,_=>Lib.NoAny.zero _ _
 |n+1,hn,h=>Io (o0 a_ λj hj=>h j a_) a_ (h n a_)
theorem yX (s:ω):∀k,k<=s.length->(∀j,j<k->aa s j≠10/\aa s j≠13)\/∃n,n<k/\(aa s n=10\/aa s n=13)/\∀j,j<n->aa s j≠10/\aa s j≠13
 |0,_=>.inl λj h=>absurd h (Uf _)
 |k+1,hk=>by
  rcases yX s k a_ with h|⟨n,h1,h2⟩
  ·by_cases hb:aa s k=10\/aa s k=13
   ·exact .inr ⟨k,a_,hb,h⟩
   ·refine .inl λj hj=> ?_;by_cases e:j=k
    ·subst e;omega
    ·exact h j a_
  ·exact .inr ⟨n,a_,h2⟩
theorem yY (s:ω):(fk s= -1/\∀j,j<s.length->aa s j≠10/\aa s j≠13)\/∃n,n<s.length/\fk s=(n:Int)/\(aa s n=10\/aa s n=13)/\∀j,j<n->aa s j≠10/\aa s j≠13:=by
 rcases yX s s.length (Nat.le_refl _) with h|⟨n,h1,h2,h3⟩
 ·exact .inl ⟨GF (o0 (Nat.le_refl _) h),h⟩
 ·exact .inr ⟨n,h1,Ly (o0 a_ h3) h1 h2,h2,h3⟩
theorem Uu {s:ω}{n:Nat}(h1:n<s.length)(h2:aa s n=10\/aa s n=13)(h3:∀j,j<n->aa s j≠10/\aa s j≠13):fk s=n:=Ly (o0 a_ h3) h1 h2
theorem tX {t:ω}{a:Nat}{L:List LineS}(h:¬a<t.length):cz t a L=(.none,L):=by
 rw[cz,dif_neg h]
theorem ri {t:ω}{a:Nat}{L:List LineS}(h:a<t.length)(hc:fk (t.drop a)= -1):cz t a L=(.atp 7 t.length,[]):=by
 rw[cz,dif_pos h,if_pos a_]
theorem tY {t:ω}{a n:Nat}{L:List LineS}(h:a<t.length)(hc:fk (t.drop a)=(n:Int))(hb:iO t (a+n)=false):cz t a L=(.atp 3 ((a:Int)+n),[]):=by
 rw[cz,dif_pos h,if_neg a_,hc,B_,hb];rfl
theorem pc {t:ω}{a n:Nat}{L:List LineS}(h:a<t.length)(hc:fk (t.drop a)=(n:Int))(hb:iO t (a+n)=true):
  cz t a L=match oi L ((t.drop a).take n) a with
   |(.none,L')=>cz t (a+n+2) L'
   |(e,_)=>(e,[]):=by
 rw[cz,dif_pos h,if_neg a_,hc,B_,hb,if_pos rfl]
theorem GE (t:ω)(k:Nat)(hk:k<t.length):([13,10]:ω).isPrefixOf (t.drop k)=iO t k:=by
 unfold iO;rw[A_ hk]
 simp only[List.isPrefixOf]
 have e1:((13:UInt8)==t[k])=(aa t k==13):=by
  rw[bx hk,w_,aad,aad,<-UInt8.toNat_inj]
  exact eq_comm
 rw[e1]
 by_cases h2:k+1<t.length
 ·rw[A_ h2]
  have e2:((10:UInt8)==t[k+1])=(aa t (k+1)==10):=by
   rw[bx h2,w_,aad,aad,<-UInt8.toNat_inj]
   exact eq_comm
  simp[List.isPrefixOf,e2,h2]
 ·rw[List.drop_eq_nil_of_le a_]
  simp[List.isPrefixOf,h2]
theorem yr {p:ω}:cU p=true↔0<p.length/\(aa p 0=32\/aa p 0=9):=by
 unfold cU;simp[Nat.pos_iff_ne_zero]
theorem FV {p:ω}:cU p=false↔(p.length=0\/(aa p 0≠32/\aa p 0≠9)):=by
 rw[<-W_,yr];omega
theorem qd {p:ω}(h0:p.length≠0)(h:(aa p 0:Int)=32):cU p=true:=yr.2 ⟨a_,a_⟩
theorem qc {p:ω}(h0:p.length≠0)(h:(aa p 0:Int)=9):cU p=true:=yr.2 ⟨a_,a_⟩
theorem kD {p:ω}(h1:(aa p 0:Int)≠32)(h2:(aa p 0:Int)≠9):cU p=false:=FV.2 (.inr ⟨a_,a_⟩)
theorem iY {p:ω}(h0:p.length=0):cU p=false:=FV.2 (.inl h0)
theorem ip {p:ω}{a:Nat}(h:cU p=true):oi [] p a=(.atp 10 0,[]):=by
 unfold oi;rw[if_pos h];rfl
theorem gF {I:List LineS}{l:LineS}{p:ω}{a:Nat}(h:cU p=true)(hl:1500<l.t.length+(p.length-1)):oi (I++[l]) p a=(.atp 4 l.a,[]):=by
 unfold oi;rw[if_pos h];simp[hl]
theorem uB {I:List LineS}{l:LineS}{p:ω}{a:Nat}(h:cU p=true)(hl:¬1500<l.t.length+(p.length-1)):oi (I++[l]) p a=(.none,I++[⟨l.t++p.drop 1,l.a,l.f++[(l.t.length:Int)]⟩]):=by
 unfold oi;rw[if_pos h];simp[hl]
theorem gS {L:List LineS}{p:ω}{a:Nat}(h:cU p=false)(hl:1500<p.length):oi L p a=(.atp 4 a,[]):=by
 unfold oi;rw[h,if_neg b_,if_pos hl]
theorem jD {L:List LineS}{p:ω}{a:Nat}(h:cU p=false)(hl:¬1500<p.length):oi L p a=(.none,L++[⟨p,a,[]⟩]):=by
 unfold oi;rw[h,if_neg b_,if_neg hl]
end
section
attribute [local irreducible] bJ au aa ax aR ab ad dS Lv gj To
abbrev qZ (e p:Int):AVal:=.iface 92 (.agg [.int .i64 e,.int .i64 p])
theorem pV {G:Glo}(e p:Int):ad prog G 22 [.int .i64 e,.int .i64 p] [] (λr H=>r= .panic (qZ e p)/\H=[]):=by
 refine aw func22 call22 λC hC hGL=> ?_;refine aH ?_;exact Vg rfl
theorem xz {G:Glo}(b:Nat)(e p:Int)(x y:AVal):dS prog G 21 [.own 0 (.pointer (some ⟨b,0,none⟩))] (.pan (qZ e p)) [.cells b (some 25) [x,y]]
  (λr m H=>m= .rcv (qZ e p)/\r= .ret (.tuple [])/\H=[.cells b (some 25) [.int .i64 e,.int .i64 p]]):=by
 have hGL:ab G []:=al;refine Dk (rs:=[]) (GL:=[]) func21 rfl rfl rfl rfl rfl rfl hGL ?_;intro C hC;exact bq
theorem sd {G:Glo}(b:Nat)(x:HEnt):dS prog G 21 [.own 0 (.pointer (some ⟨b,0,none⟩))] .ret [x]
  (λr m H=>m= .ret/\r= .ret (.tuple [])/\H=[x]):=by
 have hGL:ab G []:=al;refine Dk (rs:=[]) (GL:=[]) func21 rfl rfl rfl rfl rfl rfl hGL ?_;intro C hC;exact bq
theorem gM {G:Glo}(e p:Int):ai prog G 10 [.agg [.int .i64 e,.int .i64 p]] (.bool (bV e 0)):=by
 refine aw func10 call10 λC hC hGL=> ?_;exact bq
end
section
def kZ (L:List LineS):List Int:=match L.getLast? with
 |none=>[]
 |some l=>l.f
def oq (L:List LineS)(i:Nat)(u:Value):List AVal:=match L.getLast? with
 |none=>[]
 |some l=>aN L.dropLast++[.str l.t,.int .i64 l.a,.own i u]
theorem n6 (I:List LineS)(l:LineS)(i:Nat)(u:Value):oq (I++[l]) i u=aN I++[.str l.t,.int .i64 l.a,.own i u]:=by
 simp[oq]
theorem nY (I:List LineS)(l:LineS):kZ (I++[l])=l.f:=by simp[kZ]
theorem Xc {A:List AVal}{x y z w:AVal}{N:Nat}(hA:A.length=N):(A++[x,y,z]).take (N+2)++[w]++(A++[x,y,z]).drop (N+2+1)=A++[x,y,w]:=by
 subst hA;simp[List.take_append,List.drop_append,u_,show A.length+2+1-A.length=3 by omega];omega
theorem Xd {A:List AVal}{x y z w:AVal}{N:Nat}(hA:A.length=N):(A++[x,y,z]).take (N+0)++[w]++(A++[x,y,z]).drop (N+0+1)=A++[w,y,z]:=by
 subst hA;simp[List.drop_append,show A.length+1-A.length=1 by omega]
theorem wS {A:List AVal}{x y z:AVal}{N k:Nat}(hA:A.length=N)(hk:k=N):((A++[x,y,z]).drop k).take 3=[x,y,z]:=by
 subst hA;subst hk;simp
theorem QI {A:List AVal}{l:List AVal}{N k:Nat}(hA:A.length=N):(A++l)[N+k]? =l[k]? :=by
 subst hA;rw[G_ a_,T_]
abbrev Ff (I:List LineS)(x:ω)(a:Nat)(u:Value):List AVal:=aN I++[.str x,.int .i64 a,.own 1 u]
theorem Bl (i:Nat)(u:Value):oq [] i u=[]:=rfl
theorem A8:kZ []=[]:=rfl
def rvA (b:Nat):Nat->Option Addr
 |0=>none
 |_+1=>some ⟨b,0,none⟩
def rvC (cap:Nat):Nat->Nat
 |0=>0
 |_+1=>cap
abbrev cM (b cap m:Nat):Value:=.slice (rvA b m) m (rvC cap m)
section
variable {C:Ctx} {n:Nat} {e:Env}
theorem Ef {v:Value}{p:ω}{a m:Nat}(hm:m=1):To C n e [.row v none 3 m [.str p,.int .i64 a,.raw (.slice none 0 0)]] e
  [.row v none 3 [(⟨p,a,[]⟩:LineS)].length (oq [⟨p,a,[]⟩] 1 (.slice none 0 0)),.row (.slice none 0 0) none 1 (kZ [⟨p,a,[]⟩]).length (gU (kZ [⟨p,a,[]⟩]))]:=by
 subst hm;refine ak (ep 1) ?_;exact iq (i:=0) (p:=2) (x:=.row v none 3 1 [.str p,.int .i64 a,.raw (.slice none 0 0)]) (a':=.own 1 (.slice none 0 0)) rfl (λR=>.row rfl λ_=>iy)
theorem J0 {v u:Value}{I:List LineS}{l:LineS}{p:ω}{a m:Nat}(hm:m=(I++[l]++[(⟨p,a,[]⟩:LineS)]).length):To C n e [.row v none 3 m (aN I++([.str l.t,.int .i64 l.a,.own 1 u]:List AVal)++([.str p,.int .i64 a,.raw (.slice none 0 0)]:List AVal)),.row u none 1 l.f.length (gU l.f)] e
  [.row v none 3 (I++[l]++[(⟨p,a,[]⟩:LineS)]).length (oq (I++[l]++[⟨p,a,[]⟩]) 1 (.slice none 0 0)),.row (.slice none 0 0) none 1 (kZ (I++[l]++[⟨p,a,[]⟩])).length (gU (kZ (I++[l]++[⟨p,a,[]⟩])))]:=by
 have hI:=gA I;rw[<-hm,nY];refine ak (ji (i:=1) (k:=0) (p:=I.length*3+2) (d8 l.f) rfl rfl (yu _) (λR hr=>.row (a:=.own 1 u) ?_ λ_=>ck hr)) ?_
 ·rw[An,G_ a_,hI,T_];rfl
 have e1:(aN I++([.str l.t,.int .i64 l.a,.own 1 u]:List AVal)++([.str p,.int .i64 a,.raw (.slice none 0 0)]:List AVal)).set (I.length*3+2) (.list 1 l.f.length (d8 l.f))=aN (I++[l])++[.str p,.int .i64 a,.raw (.slice none 0 0)]:=by
  rw[An,List.set_append_right _ _ a_,hI,T_,jY];simp[aN]
 rw[e1];refine ak (ep 1) ?_;have hI2:=gA (I++[l]);have e2:(aN (I++[l])++([.str p,.int .i64 a,.raw (.slice none 0 0)]:List AVal)).set ((I++[l]).length*3+2) (.own 1 (.slice none 0 0))=oq (I++[l]++[⟨p,a,[]⟩]) 1 (.slice none 0 0):=by
  rw[n6,List.set_append_right _ _ a_,hI2,T_];rfl
 rw[<-e2];refine iq (i:=0) (p:=(I++[l]).length*3+2) (x:=.row v none 3 m (aN (I++[l])++[.str p,.int .i64 a,.raw (.slice none 0 0)])) (a':=.own 1 (.slice none 0 0)) rfl (λR=>.row (a:=.raw (.slice none 0 0)) ?_ λ_=>iy);rw[G_ a_,hI2,T_];rfl
end
attribute [local irreducible] bJ au aa ax aR ab ad aN oq kZ cU oi fk iO To dS Lv
theorem I4 {G:Glo}(t:ω)(hl:t.length<=9223372036854775000):ad prog G 15 [.str t] [] (λr H=>(r= .ret (.tuple [.raw (.slice none 0 0),(cA t).A])/\bD t=[]/\H=[])\/
  ∃v u,r= .ret (.tuple [.own 0 v,(cA t).A])/\H=[.row v none 3 (bD t).length (oq (bD t) 1 u),.row u none 1 (kZ (bD t)).length (gU (kZ (bD t)))]):=by
 refine aw func15 call15 λC hC hGL=> ?_;have hI:=λa h=>sw (G:=G) (a:=13) (b:=10) b_ b_ (t.drop a) h;have hP:=λa=>yD (G:=G) (t.drop a) [13,10];refine xw ?_;repeat' first|exact .n|apply Lc.mk
 all_goals intros
 ·refine⟨[],Ug _,.inl ⟨?_,by unfold bD;rw[if_pos a_],rfl⟩⟩;unfold cA;rw[if_pos a_];rfl
 refine WT hC hGL (λ(x:Nat×List LineS×Nat×Nat×Value)=>[(0,.str t),(4,.own 0 (cM x.2.2.1 x.2.2.2.1 x.2.1.length)),(5,.int .i64 x.1)]) (λx=>[.row (cM x.2.2.1 x.2.2.2.1 x.2.1.length) none 3 x.2.1.length (oq x.2.1 1 x.2.2.2.2),.row x.2.2.2.2 none 1 (kZ x.2.1).length (gU (kZ x.2.1))])
  (λx=>x.2.1.length<=x.1/\cz t 0 []=cz t x.1 x.2.1/\∀l,x.2.1.getLast? =some l->l.t.length<=x.1/\l.f.length<=x.1) (λx=>t.length-x.1) (0,[],0,0,.slice none 0 0) ?_ ?_ ?_
 ·exact⟨Nat.le_refl _,rfl,λl h=>by cases h⟩
 ·dsimp only
  rw[Bl,A8];refine ak (Hz (k:=4) (i:=0) rfl rfl) (ak (ep 3) (ak (ep 1) (bi ⟨rfl,rfl,rfl,trivial⟩ (At _))))
 rintro⟨a,L,b,cap,u⟩ ⟨g1,g2,g3⟩;dsimp only at g1 g2 g3 ⊢;have hE:cA t=(cz t a L).1:=by unfold cA;rw[if_neg a_,g2]
 have hL:bD t=(cz t a L).2:=by unfold bD;rw[if_neg a_,g2]
 by_cases ha:a<t.length
 ·rcases yY (t.drop a) with⟨hc,_⟩|⟨n,hn,hc,hcb,hc0⟩
  ·have h1:=ri (L:=L) ha hc;have hI:=hI a (by rw[k_];omega);rw[show Lib.indexAny (t.drop a) [13,10]=fk (t.drop a) by unfold fk;rfl,hc] at hI;refine aH ?_;intros;refine⟨[],Ug _,.inl ⟨?_,by rw[hL,h1],rfl⟩⟩;rw[hE,h1];rfl
  ·rw[k_] at hn;have h1:=tY (L:=L) ha hc;have h2:=pc (L:=L) ha hc;have hI:=hI a (by rw[k_];omega);rw[show Lib.indexAny (t.drop a) [13,10]=fk (t.drop a) by unfold fk;rfl,hc] at hI;have hP:=hP (a+n);rw[GE t (a+n) a_] at hP;rw[show(t.drop a).take n=(t.take (a+n)).drop a by rw[List.drop_take,T_]] at h2;have hpl:((t.take (a+n)).drop a).length=n:=by rw[k_,i_];omega
   cases hk:iO t (a+n) with
   |false=>
    rw[hk] at hP h1;refine aH ?_;intros;refine⟨[],Ug _,.inl ⟨?_,by rw[hL,h1 rfl],rfl⟩⟩;rw[hE,h1 rfl];rfl
   |true=>
    rw[hk] at hP h2;have h2:=h2 rfl;clear h1;rcases List.eq_nil_or_concat L with rfl|⟨I,l,rfl⟩
    ·rw[Bl,A8];refine xw ?_;repeat' first|exact .n|apply Lc.mk
     all_goals intros
     iterate 2
      ·have hF:cU ((t.take (a+n)).drop a)=true:=by first|exact qd (by assumption) (by assumption)|exact qc (by assumption) (by assumption)
       refine⟨[],Ug _,.inl ⟨?_,by rw[hL,h2,ip hF],rfl⟩⟩;rw[hE,h2,ip hF];rfl
     ·rename_i va vk vc hva _ _ _ _ _ _ _;have hF:cU ((t.take (a+n)).drop a)=false:=by first|exact iY (by assumption)|exact kD (by assumption) (by assumption)
      obtain⟨bv,rfl,rfl⟩:=hva (by simp);refine aH ?_;intros;refine oP ⟨⟨_,rfl⟩,by simp,by simp⟩ ?_;refine yF (c:=[.str ((t.take (a+n)).drop a),.int .i64 a,.raw (.slice none 0 0)]) rfl ?_;refine xn ?_;repeat' first|exact .n|apply Lc.mk
      all_goals intros
      ·rename_i bl _;refine a7 mixed hC hGL false (λ(_:Unit)=>[(2,.raw (.slice none 0 0)),(3,th 4 a)]) (λ_=>[.row (.slice (some ⟨bv,0,none⟩) 1 vc) none 3 1 [.str ((t.take (a+n)).drop a),.int .i64 a,.raw (.slice none 0 0)],.row u none 1 0 [],.cells bl (some 45) [.str ((t.take (a+n)).drop a),.int .i64 a,.raw (.slice none 0 0)]]) .p11 be xu ?_
       ·intro _;refine an ?_;intros;refine⟨[],Ug _,.inl ⟨?_,by rw[hL,h2,gS hF a_],rfl⟩⟩;rw[hE,h2,gS hF a_];rfl
      ·refine DT (a+n+2,[⟨(t.take (a+n)).drop a,a,[]⟩],bv,vc,.slice none 0 0) ⟨by simp,?_,λl h=>by have e:(⟨(t.take (a+n)).drop a,a,[]⟩:LineS)=l:=(by simpa using h);subst e;exact⟨by show((t.take (a+n)).drop a).length<=_;omega,Nat.zero_le _⟩⟩ (by dsimp only;omega) ?_
       ·dsimp only
        rw[g2,h2,jD hF a_];rfl
       ·dsimp only
        refine ak (bi (e':=[(0,.str t),(4,.own 0 (.slice (some ⟨bv,0,none⟩) 1 vc)),(5,.int .i64 ((a+n+2:Nat):Int))]) (h':=[.row (.slice (some ⟨bv,0,none⟩) 1 vc) none 3 1 [.str ((t.take (a+n)).drop a),.int .i64 a,.raw (.slice none 0 0)]]) ⟨rfl,rfl,congrArg (λz=>some (AVal.int .i64 z)) a_,trivial⟩ (by exact V_ _ (Ug _))) (Ef rfl)
     ·rename_i va vk vc hva _ _ _;have hF:cU ((t.take (a+n)).drop a)=false:=by first|exact iY (by assumption)|exact kD (by assumption) (by assumption)
      obtain⟨bv,rfl,rfl⟩:=hva (by simp);refine aH ?_;intros;refine oP ⟨⟨_,rfl⟩,by simp,by simp⟩ ?_;refine yF (c:=[.str ((t.take (a+n)).drop a),.int .i64 a,.raw (.slice none 0 0)]) rfl ?_;refine xn ?_;repeat' first|exact .n|apply Lc.mk
      all_goals intros
      ·refine DT (a+n+2,[⟨(t.take (a+n)).drop a,a,[]⟩],bv,vc,.slice none 0 0) ⟨by simp,?_,λl h=>by have e:(⟨(t.take (a+n)).drop a,a,[]⟩:LineS)=l:=(by simpa using h);subst e;exact⟨by show((t.take (a+n)).drop a).length<=_;omega,Nat.zero_le _⟩⟩ (by dsimp only;omega) ?_
       ·dsimp only
        rw[g2,h2,jD hF a_];rfl
       ·dsimp only
        refine ak (bi (e':=[(0,.str t),(4,.own 0 (.slice (some ⟨bv,0,none⟩) 1 vc)),(5,.int .i64 ((a+n+2:Nat):Int))]) (h':=[.row (.slice (some ⟨bv,0,none⟩) 1 vc) none 3 1 [.str ((t.take (a+n)).drop a),.int .i64 a,.raw (.slice none 0 0)]]) ⟨rfl,rfl,congrArg (λz=>some (AVal.int .i64 z)) a_,trivial⟩ (by exact V_ _ (Ug _))) (Ef rfl)
    ·rw[List.concat_eq_append] at*
     have hll:(I++[l]).length=I.length+1:=by simp
     rw[n6,nY,hll];rw[hll] at g1;obtain⟨g4,g5⟩:=g3 l (by simp);have ke:(((t.take (a+n)).drop a).drop 1).length=n-1:=by rw[k_,hpl]
     have hI3:=gA I;have q2:(Ff I l.t l.a u)[I.length*3+2]? =some (.own 1 u):=QI hI3;have q0:∀u,(Ff I l.t l.a u)[I.length*3+0]? =some (.str l.t):=λu=>QI hI3;have q0':=q0 u;have ra:bZ (cM b cap (I.length+1)) b (I.length+1):=⟨cap,rfl⟩;have ra2:bZ (cM b cap (I.length+1)) b (I.length+1)/\I.length*3+2<(I.length+1)*3:=⟨ra,a_⟩;have ra0:bZ (cM b cap (I.length+1)) b (I.length+1)/\I.length*3+0<(I.length+1)*3:=⟨ra,a_⟩;have rb2:bZ (cM b cap (I.length+1)) b (I.length+1)/\I.length*3+2+1<=(I.length+1)*3/\0<I.length+1:=⟨ra,a_,a_⟩;have rb0:bZ (cM b cap (I.length+1)) b (I.length+1)/\I.length*3+0+1<=(I.length+1)*3/\0<I.length+1:=⟨ra,a_,a_⟩;refine xn ?_;repeat' first|exact .n|apply Lc.mk
     all_goals intros
     iterate 2
      ·have hF:cU ((t.take (a+n)).drop a)=true:=by first|exact qd (by assumption) (by assumption)|exact qc (by assumption) (by assumption)
       refine dC (e':=[(0,.str t),(4,.own 0 (cM b cap (I.length+1))),(5,.int .i64 a),(6,.int .i64 n),(7,.str ((t.take (a+n)).drop a)),(8,.own 0 (.pointer (some ⟨b,I.length*3,none⟩)))]) (bi ⟨rfl,rfl,rfl,rfl,rfl,congrArg (λz=>some (AVal.own 0 (.pointer (some ⟨b,z,none⟩)))) (show(((I.length+1:Nat):Int)-1).toNat*3=I.length*3 by omega),trivial⟩ (At _)) ?_;refine a7 mixed hC hGL false (λ(_:Option Addr×Nat×Nat)=>[(0,.str t),(4,.own 0 (cM b cap (I.length+1))),(5,.int .i64 a),(6,.int .i64 n),(7,.str ((t.take (a+n)).drop a)),(8,.own 0 (.pointer (some ⟨b,I.length*3,none⟩)))]) (λy=>[.row (cM b cap (I.length+1)) none 3 (I.length+1) ((Ff I l.t l.a u).take (I.length*3+2)++[.own 1 (.slice y.1 y.2.1 y.2.2)]++(Ff I l.t l.a u).drop (I.length*3+2+1)),.row (.slice y.1 y.2.1 y.2.2) none 1 (l.f.length+1) (gU l.f++[.int .i64 l.t.length])]) (.t 0 (.t 1 (.t 2 (.t 3 (.t 5 (.t 6 (.t 7 (.br 4 (.b 8 (.b 9 (.b 10 (.b 11 (.t 12 (.t 13 (.b 14 .done))))))) (.b 8 (.br 4 (.b 9 (.b 10 (.b 11 (.t 12 (.t 13 (.b 14 .done)))))) (.b 9 (.br 4 (.b 10 (.b 11 (.t 12 (.t 13 (.b 14 .done))))) (.b 10 (.b 4 (.b 11 (.t 12 (.t 13 (.b 14 .done)))))))))))))))))) be xu ?_
       ·rintro⟨va,vk,vc⟩;dsimp only
        rw[Xc hI3];have q0':=q0 (.slice va vk vc);refine an ?_;intros;refine a7 mixed hC hGL false (λ(_:Unit)=>[(0,.str t),(4,.own 0 (cM b cap (I.length+1))),(5,.int .i64 a),(6,.int .i64 n),(7,.str ((t.take (a+n)).drop a))]) (λ_=>[.row (cM b cap (I.length+1)) none 3 (I.length+1) ((Ff I l.t l.a (.slice va vk vc)).take (I.length*3+0)++[.str (l.t++((t.take (a+n)).drop a).drop 1)]++(Ff I l.t l.a (.slice va vk vc)).drop (I.length*3+0+1)),.row (.slice va vk vc) none 1 (l.f.length+1) (gU l.f++[.int .i64 l.t.length])]) (.t 0 (.t 1 (.t 2 (.t 4 (.t 5 (.b 3 (.t 6 (.t 7 (.t 8 (.b 9 .done)))))))))) be xu ?_
        ·intro _;rw[Xd hI3];refine an ?_;intros;refine oP ⟨ra,show(((I.length+1:Nat):Int)-1).toNat*3+3<=(I.length+1)*3 by omega,a_⟩ ?_;refine yF (c:=[.str (l.t++((t.take (a+n)).drop a).drop 1),.int .i64 l.a,.own 1 (.slice va vk vc)]) (wS hI3 (show(((I.length+1:Nat):Int)-1).toNat*3=I.length*3 by omega)) ?_;have hal:(l.t++((t.take (a+n)).drop a).drop 1).length=l.t.length+(n-1):=by rw[d_,ke]
         refine xn ?_;repeat' first|exact .n|apply Lc.mk
         all_goals intros
         ·rename_i bl _;refine a7 mixed hC hGL false (λ(_:Unit)=>[(2,.raw (.slice none 0 0)),(3,th 4 l.a)]) (λ_=>[.row (cM b cap (I.length+1)) none 3 (I.length+1) (aN I++[.str (l.t++((t.take (a+n)).drop a).drop 1),.int .i64 l.a,.own 1 (.slice va vk vc)]),.row (.slice va vk vc) none 1 (l.f.length+1) (gU l.f++[.int .i64 l.t.length]),.cells bl (some 45) [.str (l.t++((t.take (a+n)).drop a).drop 1),.int .i64 l.a,.own 1 (.slice va vk vc)]]) .p11 be xu ?_
          ·intro _;refine an ?_;intros;refine⟨[],Ug _,.inl ⟨?_,by rw[hL,h2,gF hF a_],rfl⟩⟩;rw[hE,h2,gF hF a_];rfl
         ·refine DT (a+n+2,I++[⟨l.t++((t.take (a+n)).drop a).drop 1,l.a,l.f++[(l.t.length:Int)]⟩],b,cap,(.slice va vk vc)) ⟨by simp only[d_,j_,E_];omega,?_,λl' h=>by have e:(⟨l.t++((t.take (a+n)).drop a).drop 1,l.a,l.f++[(l.t.length:Int)]⟩:LineS)=l':=(by simpa using h);subst e;exact⟨by show(l.t++((t.take (a+n)).drop a).drop 1).length<=_;omega,by show(l.f++[(l.t.length:Int)]).length<=_;rw[d_,j_,E_];omega⟩⟩ (by dsimp only;omega) ?_
          ·dsimp only
           rw[g2,h2,uB hF a_]
          ·dsimp only
           have hm:(I++[(⟨l.t++((t.take (a+n)).drop a).drop 1,l.a,l.f++[(l.t.length:Int)]⟩:LineS)]).length=I.length+1:=by simp
           rw[n6,nY,hm];refine bi ⟨rfl,rfl,congrArg (λz=>some (AVal.int .i64 z)) a_,trivial⟩ ?_;dsimp only
           rw[<-yv,d_];exact V_ _ (V_ _ (Ug _))
     ·rename_i va vk vc hva _ _ _ _ _ _ _;have hF:cU ((t.take (a+n)).drop a)=false:=by first|exact iY (by assumption)|exact kD (by assumption) (by assumption)
      obtain⟨bv,rfl,rfl⟩:=hva a_;refine aH ?_;intros;refine oP ⟨⟨_,rfl⟩,show(((I.length+1+1:Nat):Int)-1).toNat*3+3<=(I.length+1+1)*3 by omega,a_⟩ ?_;refine yF (c:=[.str ((t.take (a+n)).drop a),.int .i64 a,.raw (.slice none 0 0)]) (wS (A:=Ff I l.t l.a u) (N:=(I.length+1)*3) (by simp only[d_,hI3,j_,E_];omega) (show(((I.length+1+1:Nat):Int)-1).toNat*3=(I.length+1)*3 by omega)) ?_;refine xn ?_;repeat' first|exact .n|apply Lc.mk
      all_goals intros
      ·rename_i bl _;refine a7 mixed hC hGL false (λ(_:Unit)=>[(2,.raw (.slice none 0 0)),(3,th 4 a)]) (λ_=>[.row (.slice (some ⟨bv,0,none⟩) (I.length+1+1) vc) none 3 (I.length+1+1) (aN I++([.str l.t,.int .i64 l.a,.own 1 u]:List AVal)++([.str ((t.take (a+n)).drop a),.int .i64 a,.raw (.slice none 0 0)]:List AVal)),.row u none 1 l.f.length (gU l.f),.cells bl (some 45) [.str ((t.take (a+n)).drop a),.int .i64 a,.raw (.slice none 0 0)]]) .p11 be xu ?_
       ·intro _;refine an ?_;intros;refine⟨[],Ug _,.inl ⟨?_,by rw[hL,h2,gS hF a_],rfl⟩⟩;rw[hE,h2,gS hF a_];rfl
      ·refine DT (a+n+2,I++[l]++[⟨((t.take (a+n)).drop a),a,[]⟩],bv,vc,.slice none 0 0) ⟨by simp only[d_,j_,E_];omega,?_,λl h=>by have e:(⟨((t.take (a+n)).drop a),a,[]⟩:LineS)=l:=(by simpa using h);subst e;exact⟨by show(((t.take (a+n)).drop a)).length<=_;omega,Nat.zero_le _⟩⟩ (by dsimp only;omega) ?_
       ·dsimp only
        rw[g2,h2,jD hF a_]
       ·dsimp only
        have hm:I.length+1+1=(I++[l]++[(⟨((t.take (a+n)).drop a),a,[]⟩:LineS)]).length:=by simp
        refine ak (bi (e':=[(0,.str t),(4,.own 0 (cM bv vc (I++[l]++[(⟨((t.take (a+n)).drop a),a,[]⟩:LineS)]).length)),(5,.int .i64 ((a+n+2:Nat):Int))]) (h':=[.row (cM bv vc (I++[l]++[(⟨((t.take (a+n)).drop a),a,[]⟩:LineS)]).length) none 3 (I.length+1+1) (aN I++([.str l.t,.int .i64 l.a,.own 1 u]:List AVal)++([.str ((t.take (a+n)).drop a),.int .i64 a,.raw (.slice none 0 0)]:List AVal)),.row u none 1 l.f.length (gU l.f)]) ⟨rfl,by rw[<-hm];rfl,congrArg (λz=>some (AVal.int .i64 z)) a_,trivial⟩ (by rw[<-hm];exact V_ _ (V_ _ (Ug _)))) (J0 hm)
     ·rename_i va vk vc hva _ _ _;have hF:cU ((t.take (a+n)).drop a)=false:=by first|exact iY (by assumption)|exact kD (by assumption) (by assumption)
      obtain⟨bv,rfl,rfl⟩:=hva a_;refine aH ?_;intros;refine oP ⟨⟨_,rfl⟩,show(((I.length+1+1:Nat):Int)-1).toNat*3+3<=(I.length+1+1)*3 by omega,a_⟩ ?_;refine yF (c:=[.str ((t.take (a+n)).drop a),.int .i64 a,.raw (.slice none 0 0)]) (wS (A:=Ff I l.t l.a u) (N:=(I.length+1)*3) (by simp only[d_,hI3,j_,E_];omega) (show(((I.length+1+1:Nat):Int)-1).toNat*3=(I.length+1)*3 by omega)) ?_;refine xn ?_;repeat' first|exact .n|apply Lc.mk
      all_goals intros
      ·refine DT (a+n+2,I++[l]++[⟨((t.take (a+n)).drop a),a,[]⟩],bv,vc,.slice none 0 0) ⟨by simp only[d_,j_,E_];omega,?_,λl h=>by have e:(⟨((t.take (a+n)).drop a),a,[]⟩:LineS)=l:=(by simpa using h);subst e;exact⟨by show(((t.take (a+n)).drop a)).length<=_;omega,Nat.zero_le _⟩⟩ (by dsimp only;omega) ?_
       ·dsimp only
        rw[g2,h2,jD hF a_]
       ·dsimp only
        have hm:I.length+1+1=(I++[l]++[(⟨((t.take (a+n)).drop a),a,[]⟩:LineS)]).length:=by simp
        refine ak (bi (e':=[(0,.str t),(4,.own 0 (cM bv vc (I++[l]++[(⟨((t.take (a+n)).drop a),a,[]⟩:LineS)]).length)),(5,.int .i64 ((a+n+2:Nat):Int))]) (h':=[.row (cM bv vc (I++[l]++[(⟨((t.take (a+n)).drop a),a,[]⟩:LineS)]).length) none 3 (I.length+1+1) (aN I++([.str l.t,.int .i64 l.a,.own 1 u]:List AVal)++([.str ((t.take (a+n)).drop a),.int .i64 a,.raw (.slice none 0 0)]:List AVal)),.row u none 1 l.f.length (gU l.f)]) ⟨rfl,by rw[<-hm];rfl,congrArg (λz=>some (AVal.int .i64 z)) a_,trivial⟩ (by rw[<-hm];exact V_ _ (V_ _ (Ug _)))) (J0 hm)
 ·have h1:=tX (L:=L) ha;refine aH ?_;intros;refine⟨_,At _,.inr ⟨cM b cap L.length,u,?_,?_⟩⟩
  ·rw[hE,h1];rfl
  ·rw[hL,h1]
end
end Go.Proofs.YtgpjhbhdbjdlgaaGreatDoor
