/- Parts of the proof of jcardReads_card. -/
import Derived.Deep.DeepHandedRow
import Derived.Test.YtpgdnpielhfpgaaGreatDoorBap
set_option linter.unusedVariables false
set_option linter.unusedSimpArgs false
set_option linter.unusedSectionVars false
namespace Go.Proofs.YtpgdnpielhfpgaaGreatDoor
open Go Go.RowKit
open Go.Proofs.Tryz Go.Proofs.YtpgdnpielhfpgaaGreatDoor.Tryz
set_option maxRecDepth 20000
set_option maxHeartbeats 4000000
section
theorem Ud (n:List UInt8):(aS (al 65 90 32 n) (al 65 90 32 [98,101,103,105,110])||(aS (al 65 90 32 n) (al 65 90 32 [101,110,100])||aS (al 65 90 32 n) (al 65 90 32 [118,101,114,115,105,111,110])))=Kb n:=by
 rw[jj,jj,jj];rfl
theorem SZ (n:List UInt8):aS (al 65 90 32 n) (al 65 90 32 [116,121,112,101])=aS (al 97 122 (-32) n) nTYP:=by
 rw[jj];rfl
attribute [local irreducible] bN aw aa aC bg ab ae
attribute [local irreducible] al dI Pr.fit Ln.E Ln.T Vl.E Vl.T j9 ci iN
theorem TB {G:Glo}{m:Int}(hU:ab G utfTy)(hM:ab G (ct m))(hH:ab G shapesTy)(hP:fW G)(x:Vl)(hs:x.s.length<=10000)(hL:Small x.L)(hv:x.OK):aj prog G 124 [x.A] (.tuple [.str x.T,.int .i64 x.E.e]):=
 vO x (nw hU hM x hv (by omega) (iT hH x.st)) (vR x.s (by omega)) (yn x.L hL) (yg hH hP x.st) x.E_zero
theorem FG {G:Glo}{m:Int}(hU:ab G utfTy)(hM:ab G (ct m))(hH:ab G shapesTy)(hP:fW G)(v:Int)(x:Itm)(hx:x.OK 10000):aj prog G 74 [DL x,.int .i64 v] (.str (x.L v)):=by
 have h1:=TB hU hM hH hP x.2 hx.s hx.L hx.v;have h2:=yl hU x.ln (cm v 4) (Itm.fit hx)
 unfold Itm.L
 unfold Vl.A at h1
 unfold Ln.A at h2
 unfold DL
 obtain⟨⟨g,n,ps,vv⟩,u⟩:=x
 unfold Itm.ln at h2 ⊢
 dsimp only at*
 generalize Ln.E (cm v 4) ⟨g,n,ps,u.T⟩=eL at*
 generalize Ln.T (cm v 4) ⟨g,n,ps,u.T⟩=tL at*
 generalize u.E=eV at*
 generalize u.T=tV at*
 refine ao func74 call74 λC hC hGL=> ?_
 exact ba
theorem Jy {G:Glo}{m:Int}(hU:ab G utfTy)(hM:ab G (ct m))(hH:ab G shapesTy)(hP:fW G)(v:Int)(hv:v=3\/v=4)(x:Itm)(hx:x.OK 10000):aj prog G 40 [DL x,.int .i64 v] (.int .i64 (x.w v)):=by
 have h1:=pb hU x.p (cm v 4) hx.p.fit;have h4:=λe p=>ri (G:=G) e p;have hn:x.1.n.length<=10000:=hx.p.n;have hps:x.1.ps.length<=10000:=hx.p.ps;have hq:∀k,(x.1.ps.getD k Pr.z).n.length<=1100000/\(x.1.ps.getD k Pr.z).vs.length<=10000/\Lib.lens (x.1.ps.getD k Pr.z).vs<=10000:=hx.p.q;have hvl:∀k j,((x.1.ps.getD k Pr.z).vs.getD j []).length<=10000:=λk j=>by
  have:=eo (l:=(x.1.ps.getD k Pr.z).vs) (k:=j);have:=(hq k).2.2;omega
 have b1:=gY (G:=G) x.1.n [98,101,103,105,110] (by omega) (by decide);have b2:=gY (G:=G) x.1.n [101,110,100] (by omega) (by decide);have b3:=gY (G:=G) x.1.n [118,101,114,115,105,111,110] (by omega) (by decide);have hfr:=Ud x.1.n;generalize aS (al 65 90 32 x.1.n) (al 65 90 32 [98,101,103,105,110])=f1 at*
 generalize aS (al 65 90 32 x.1.n) (al 65 90 32 [101,110,100])=f2 at*
 generalize aS (al 65 90 32 x.1.n) (al 65 90 32 [118,101,114,115,105,111,110])=f3 at*
 have hve:dR v= .none:=by unfold dR;rw[if_pos hv]
 have hT:=Mn (G:=G) v x.1.n x.1.ps (by omega) (by omega) (λk=>by have:=(hq k).1;omega) (λk=>⟨by have:=(hq k).2.1;omega,by have:=hvl k 0;omega⟩);have hV:=nw hU hM x.2 hx.v (by have:=hx.s;omega) (iT hH x.2.st);have hR:=nx (G:=G) v x.1.n (by omega);have hrp:=Tz v x.1.n;have hlo:=FG hU hM hH hP v x hx;have hw:∀(_:x.p.E (cm v 4)= .none) (_:Kb x.1.n=false),(pI x.1.ps≠0->x.w v=pI x.1.ps)/\(pI x.1.ps=0->(x.k v≠x.2.t->x.w v=1)/\(x.k v=x.2.t->(x.2.E≠ .none->x.w v=x.2.E.e)/\(x.2.E= .none->x.w v=x.r v))):=λa b=>⟨Sf a b,λc=>⟨Sg a b c,λd=>⟨Se a b c d,w_r a b c d⟩⟩⟩;have hwl:=λa=>SS (v:=v) (x:=x) a;have hwf:=λa b=>Vm (v:=v) (x:=x) a b;have hz:=Vl.E_zero x.2;have hok:∀k,x.p.E (cm v 4)= .none->k<x.1.ps.length->isS (x.1.ps.getD k Pr.z).n=true:=λk h hk=>by
  have h1:kB (cm v 4) x.p.ps 0= .none:=by
   unfold Ln.E at h;split at h
   ·cases h
   ·split at h
    ·cases h
    ·cases hf:kB (cm v 4) x.p.ps 0 with
     |none=>rfl
     |errno e=>rw[hf] at h;cases h
     | «at» e q=>rw[hf] at h;cases h
  have h2:=wY h1 (x.1.ps.getD k Pr.z) (by rw[List.getD_eq_getElem?_getD,List.getElem?_eq_getElem hk];exact List.getElem_mem hk);cases hn:isS (x.1.ps.getD k Pr.z).n with
  |true=>rfl
  |false=>rw[C8 hn] at h2;cases h2
 rw[hve] at hT hR;generalize x.w v=W at*
 unfold Itm.r at hw;generalize x.L v=tL at*
 unfold Itm.k at hw;obtain⟨⟨g,n,ps,vv⟩,u⟩:=x;unfold DL at hlo ⊢;unfold Vl.A at hV;unfold Itm.p at h1 hw hwl hwf hok;dsimp only at*
 generalize j9 v n ps=K at*
 generalize ci v n=r at*
 unfold Rl.A at hR;obtain⟨r0,r1,r2,r3⟩:=r;dsimp only at*
 generalize u.E=eV at*
 generalize hE0:Ln.E (cm v 4) ⟨g,n,ps,[]⟩=e0 at*
 have hfin:e0≠ .none->e0.e≠0:=λh h2=>by
  have:=WN (v:=v) (x:=(⟨g,n,ps,vv⟩,u));unfold Itm.p at this;dsimp only at this;rw[hE0] at this;refine h (this ?_);rw[SS (by unfold Itm.p;dsimp only;rw[hE0];exact h)];unfold Itm.p;dsimp only
  rw[hE0];exact h2
 by_cases he:e0= .none
 ·subst he;simp only[Err.e,Err.p] at h1;have h4:=h4 0 (-1);cases hf:Kb n with
  |true=>
   rw[hwf rfl hf];rw[hf] at hfr;refine ao func40 call40 λC hC hGL=> ?_;refine xw ?_;repeat' first|exact .n|apply Lc.mk
   all_goals intros
   all_goals (first|exact ak rfl|(exfalso;revert hfr;simp[*];done))
  |false=>
   rw[hf] at hfr;have hw:=hw rfl hf;simp only[Bool.or_eq_false_iff] at hfr;obtain⟨rfl,rfl,rfl⟩:=hfr;refine ao func40 call40 λC hC hGL=> ?_;refine a6 ?_;intro b5;intros;refine lp hC hGL (λk:Nat=>[(1,.int .i64 v),(2,.rop (dG (⟨g,n,ps,vv⟩,u)) 0),(44,.list 2 ps.length (fH ps)),(45,.int .i64 (ps.length:Nat)),(46,.int .i64 (k:Nat))]) (λ_=>[.cells b5 (some 32) [.int .i64 0,.int .i64 (-1)]]) (λk=>k<=ps.length/\∀j,j<k->pE ps j=0) (λk=>ps.length-k) 0 ⟨Nat.zero_le _,λj h=>absurd h (Nat.not_lt_zero _)⟩ ad rfl ?_;rintro k ⟨k1,k2⟩;by_cases hk:k<ps.length
   ·have hqk:=hq k;have hfi:=Ms hP hM (ps.getD k Pr.z) (hok k rfl hk) (by omega) (by omega) (λj=>by have:=hvl k j;omega);have hsa:=gY (G:=G) (ps.getD k Pr.z).n [116,121,112,101] (by omega) (by decide);rw[SZ] at hsa;cases hf:(ps.getD k Pr.z).fit with
    |false=>
     rw[hf] at hfi;have e:=VF hf;rw[hw.1 (by rw[kX hk k2 (by rw[e];decide),e];decide),kX hk k2 (by rw[e];decide),e];exact ba
    |true=>
     rw[hf] at hfi;refine a6 ?_;intro b7;intros;refine lp hC hGL (λj:Nat=>[(1,.int .i64 v),(2,.rop (dG (⟨g,n,ps,vv⟩,u)) 0),(7,.own 1 (.pointer (some ⟨b7,0,none⟩))),(44,.list 2 ps.length (fH ps)),(45,.int .i64 (ps.length:Nat)),(46,.int .i64 (k:Nat)),(57,.list 2 k (fH ps)),(58,.int .i64 (k:Nat)),(59,.int .i64 (j:Nat))]) (λ_=>[.cells b5 (some 32) [.int .i64 0,.int .i64 (-1)],.cells b7 (some 75) [.str (ps.getD k Pr.z).n,.list 1 (ps.getD k Pr.z).vs.length (ay (ps.getD k Pr.z).vs)]]) (λj=>j<=k/\∀i,i<j->(aS (al 97 122 (-32) (ps.getD k Pr.z).n) (al 97 122 (-32) (ps.getD i Pr.z).n)&& !aS (al 97 122 (-32) (ps.getD k Pr.z).n) nTYP)=false) (λj=>k-j) 0 ⟨Nat.zero_le _,λj h=>absurd h (Nat.not_lt_zero _)⟩ ad rfl ?_;rintro j ⟨j1,j2⟩;by_cases hj:j<k
     ·have hqj:=hq j;have hss:=gY (G:=G) (ps.getD k Pr.z).n (ps.getD j Pr.z).n (by omega) (by omega);rw[jj] at hss;obtain⟨bt,hbt⟩:∃b,aS (al 97 122 (-32) (ps.getD k Pr.z).n) nTYP=b:=⟨_,rfl⟩;cases bt with
      |true=>
       rw[hbt] at hsa;have e:(aS (al 97 122 (-32) (ps.getD k Pr.z).n) (al 97 122 (-32) (ps.getD j Pr.z).n)&& !aS (al 97 122 (-32) (ps.getD k Pr.z).n) nTYP)=false:=by rw[hbt,Bool.not_true,Bool.and_false]
       obtain⟨bs,hsm⟩:∃b,aS (al 97 122 (-32) (ps.getD k Pr.z).n) (al 97 122 (-32) (ps.getD j Pr.z).n)=b:=⟨_,rfl⟩;cases bs with
       |true=>
        rw[hsm] at hss;refine a6 ?_;intros;exact cJ (j+1) ⟨hj,λi hi=>by
         rcases Nat.lt_or_eq_of_le (Nat.le_of_lt_succ hi) with g|rfl
         ·exact j2 i g
         ·exact e⟩ (by omega) ad an
       |false=>
        rw[hsm] at hss;refine a6 ?_;intros;exact cJ (j+1) ⟨hj,λi hi=>by
         rcases Nat.lt_or_eq_of_le (Nat.le_of_lt_succ hi) with g|rfl
         ·exact j2 i g
         ·exact e⟩ (by omega) ad an
      |false=>
       rw[hbt] at hsa;obtain⟨bs,hsm⟩:∃b,aS (al 97 122 (-32) (ps.getD k Pr.z).n) (al 97 122 (-32) (ps.getD j Pr.z).n)=b:=⟨_,rfl⟩;cases bs with
       |true=>
        rw[hsm] at hss;have hd:dI (ps.getD k Pr.z).n ps 0<(k:Int):=(zR hk).2 ⟨j,hj,(bx.1 hsm).symm⟩;have e:=VE hf (du.1 hbt) hd;rw[hw.1 (by rw[kX hk k2 (by rw[e];decide),e];decide),kX hk k2 (by rw[e];decide),e];exact ba
       |false=>
        rw[hsm] at hss;refine a6 ?_;intros;exact cJ (j+1) ⟨hj,λi hi=>by
         rcases Nat.lt_or_eq_of_le (Nat.le_of_lt_succ hi) with g|rfl
         ·exact j2 i g
         ·rw[hsm,Bool.false_and]⟩ (by omega) ad an
     ·obtain rfl:j=k:=by omega
      have e:pE ps j=0:=TL hf (λh=>by
       obtain⟨i,hi,hs⟩:=(zR hk).1 h.2;have:=j2 i hi;rw[bx.2 hs.symm,du.2 h.1] at this;cases this)
      refine a6 ?_;intros;exact cJ (j+1) ⟨by omega,aV k2 e⟩ (by omega) ad an
   ·have hw:=hw.2 (MC (by omega) k2);by_cases hK:K=u.t
    ·have hw:=hw.2 hK;by_cases hV0:eV.e=0
     ·obtain rfl:=hz hV0;have hw:=hw.2 rfl;simp only[Err.e] at hV;subst hw;by_cases ha:u.t=3/\0<r3/\r3≠(u.L.length:Int)
      ·rw[if_pos ha];obtain⟨a1,a2,a3⟩:=ha;have a4:r3≠0:=by omega
       exact ba
      ·rw[if_neg ha];by_cases a1:u.t=3
       ·by_cases a2:r3=0
        ·by_cases hl:1500<tL.length
         ·rw[if_pos hl];exact ba
         ·rw[if_neg hl];exact ba
        ·have a3:r3=(u.L.length:Int):=by omega
         by_cases hl:1500<tL.length
         ·rw[if_pos hl];exact ba
         ·rw[if_neg hl];exact ba
       ·by_cases hl:1500<tL.length
        ·rw[if_pos hl];exact ba
        ·rw[if_neg hl];exact ba
     ·rw[hw.1 (λh=>hV0 (by rw[h];rfl))];exact ba
    ·rw[hw.1 hK];exact ba
 ·have h0:=hfin he;rw[hwl he];have h4:=h4 e0.e e0.p;generalize e0.e=ee at*
  generalize e0.p=pp at*
  rw[show cm ee 0=false from fV.2 h0] at h4;refine ao func40 call40 λC hC hGL=> ?_;exact ba
end
section
attribute [local irreducible] bN aw aa aC bg ab ae
attribute [local irreducible] al ci iN aH Itm.w kn H8
theorem ze {G:Glo}(v:Int)(l:List Itm)(h70:l.length<=1000000)(ho:∀x∈l,Itm.OK 10000 x)(s:List UInt8)(hs:s.length<=1000000)(n:Nat)(hn:n<=l.length):aj prog G 41 [.str s,.int .i64 (n:Int),.rop [.int .i64 v,.list 15 l.length (eJ l)] 0] (.int .i64 (iN l (al 97 122 (-32) s) n:Nat)):=by
 have hGL:ab G []:=aG;refine sF func41 call41 rfl rfl rfl rfl hGL ?_;intro C hC;refine a6 ?_;intros;refine lp hC hGL (λk:Nat=>[(0,.str s),(6,.int .i64 (iN l (al 97 122 (-32) s) k:Nat)),(12,.list 15 n (eJ l)),(13,.int .i64 (n:Nat)),(14,.int .i64 (k:Nat))]) (λ_=>[]) (λk=>k<=n) (λk=>n-k) 0 (Nat.zero_le _) (by rw[zX];exact ad) rfl ?_;intro k k1;have k1:k<=n:=k1;have hcl:=ro l (al 97 122 (-32) s) k;by_cases hk:k<n
 ·have hkl:k<l.length:=by omega
  have hnl:(l.getD k Itm.z).1.n.length<=10000:=(sw ho hkl).p.n;have hS:=gY (G:=G) (l.getD k Itm.z).1.n s (by omega) (by omega);have hsu:=sO (s:=al 97 122 (-32) s) hkl;rw[jj] at hS;generalize al 97 122 (-32) s=U at*
  cases hb:aS (al 97 122 (-32) (l.getD k Itm.z).1.n) U with
  |true=>
   rw[hb] at hS hsu;rw[if_pos rfl] at hsu;have e:((iN l U k:Nat):Int)+1=((iN l U (k+1):Nat):Int):=by omega
   refine a6 ?_;intros;exact cJ (k+1) hk (by omega) (by refine⟨rfl,?_,rfl,rfl,rfl,trivial⟩;exact congrArg (λz=>some (AVal.int .i64 z)) e) an
  |false=>
   rw[hb] at hS hsu;rw[if_neg (by decide),Nat.add_zero] at hsu;refine a6 ?_;intros;exact cJ (k+1) hk (by omega) (by rw[hsu];exact ad) an
 ·obtain rfl:k=n:=by omega
  exact ba
theorem yo {G:Glo}{m:Int}(hU:ab G utfTy)(hM:ab G (ct m))(hH:ab G shapesTy)(hP:fW G)(c:Crd)(hf:c.ok):aj prog G 20 [c.A] (.agg [.int .i64 c.E.e,.int .i64 c.E.p]):=by
 obtain⟨v,l⟩:=c;obtain⟨h70,ho⟩:=hf;dsimp only at h70 ho;have q1:=call41;have hN:=yj (G:=G) v;have hB:=λe=>ja (G:=G) e;have hG:=fG (G:=G);by_cases hv:v=3\/v=4
 ·have hve:dR v= .none:=by unfold dR;rw[if_pos hv]
  rw[hve] at hN;simp only[Err.e] at hN;by_cases h60:60<l.length
  ·rw[SJ hv h60];have hB:=hB 4;simp only[Err.e,Err.p];refine ao func20 call20 λC hC hGL=> ?_;exact ba
  ·have hone:∀k,k<l.length->aj prog G 40 [DL (l.getD k Itm.z),.int .i64 v] (.int .i64 ((l.getD k Itm.z).w v)):=λk hk=>Jy hU hM hH hP v hv _ (sw ho hk);refine ao func20 call20 λC hC hGL=> ?_;refine a6 ?_;intro bl;intros;refine lp hC hGL (λk:Nat=>[(1,.rop [.int .i64 v,.list 15 l.length (eJ l)] 0),(2,.own 0 (.pointer (some ⟨bl,0,none⟩))),(3,.list 1 (aH v).length (ay (aH v))),(33,.list 15 l.length (eJ l)),(34,.int .i64 (l.length:Nat)),(35,.int .i64 (k:Nat))]) (λ_=>[.cells bl (some 32) [.int .i64 0,.int .i64 0]]) (λk=>k<=l.length/\∀j,j<k->(l.getD j Itm.z).w v=0) (λk=>l.length-k) 0 ⟨Nat.zero_le _,λj h=>absurd h (Nat.not_lt_zero _)⟩ ad rfl ?_;rintro k ⟨k1,k2⟩;by_cases hk:k<l.length
   ·have h1:=hone k hk;unfold DL at h1;by_cases hw:(l.getD k Itm.z).w v=0
    ·rw[hw] at h1;refine a6 ?_;intros;exact cJ (k+1) ⟨hk,aV k2 hw⟩ (by omega) ad an
    ·rw[SG hv h60 hk k2 hw];simp only[Err.e,Err.p];exact ba
   ·obtain rfl:k=l.length:=by omega
    refine a6 ?_;intros;refine lp hC hGL (λk:Nat=>[(1,.rop [.int .i64 v,.list 15 l.length (eJ l)] 0),(2,.own 0 (.pointer (some ⟨bl,0,none⟩))),(3,.list 1 (aH v).length (ay (aH v))),(8,.func (.func 41) [] [.rop [.int .i64 v,.list 15 l.length (eJ l)] 0]),(52,.list 15 l.length (eJ l)),(53,.int .i64 (l.length:Nat)),(54,.int .i64 (k:Nat))]) (λ_=>[.cells bl (some 32) [.int .i64 0,.int .i64 0]]) (λk=>k<=l.length/\∀j,j<k->kn v l j=0) (λk=>l.length-k) 0 ⟨Nat.zero_le _,λj h=>absurd h (Nat.not_lt_zero _)⟩ ad rfl ?_;rintro k ⟨k1,km⟩;by_cases hk:k<l.length
    ·have hnl:(l.getD k Itm.z).1.n.length<=10000:=(sw ho hk).p.n;have hR:=nx (G:=G) v (l.getD k Itm.z).1.n (by omega);have hA:=ze (G:=G) v l h70 ho (l.getD k Itm.z).1.n (by omega) k k1;have hcl:=ro l (al 97 122 (-32) (l.getD k Itm.z).1.n) k;have h9:=M3 (v:=v) (l:=l) (i:=k);have h0:=M4 (v:=v) (l:=l) (i:=k);have hcm:=λh=>SH (v:=v) hv h60 k2 hk km h;rw[hve] at hR;unfold Rl.A at hR;simp only[Err.e] at hR;generalize ci v (l.getD k Itm.z).1.n=r at*
     obtain⟨r0,r1,r2,r3⟩:=r;dsimp only at*
     generalize iN l (al 97 122 (-32) (l.getD k Itm.z).1.n) k=N at*
     by_cases hb:0<r2
     ·by_cases hc:r2<=(N:Int)
      ·have h9:=h9 hb hc;rw[h9] at hcm;rw[hcm (by decide)];simp only[Err.e,Err.p];refine az ?_;intros;refine eQ (aE (aK (i:=2) (k:=11) rfl rfl) (aK (i:=1) (k:=10) rfl rfl)) ?_;refine cR mixed hC hGL false (λ_:Unit=>[(1,.rop [.int .i64 v,.list 15 l.length (eJ l)] 0),(2,.own 0 (.pointer (some ⟨bl,0,none⟩))),(3,.list 1 (aH v).length (ay (aH v))),(8,.func (.func 41) [] [.rop [.int .i64 v,.list 15 l.length (eJ l)] 0]),(9,.int .i64 (k:Nat)),(52,.list 15 l.length (eJ l)),(53,.int .i64 (l.length:Nat)),(54,.int .i64 (k:Nat)),(79,.bool (!lx (N:Int) r2))]) (λ_=>[.cells bl (some 32) [.int .i64 0,.int .i64 0],fp,fp]) .p6 (by kernel_rfl) ?_ ?_
       ·refine xn ?_;repeat' first|exact .n|apply Lc.mk
        all_goals intros
        all_goals exact⟨(),ad,rfl⟩
       intro _;exact ba
      ·have h0:=h0 (λh=>hc h.2);refine az ?_;intros;refine eQ (aE (aK (i:=2) (k:=11) rfl rfl) (aK (i:=1) (k:=10) rfl rfl)) ?_;refine cR mixed hC hGL false (λ_:Unit=>[(1,.rop [.int .i64 v,.list 15 l.length (eJ l)] 0),(2,.own 0 (.pointer (some ⟨bl,0,none⟩))),(3,.list 1 (aH v).length (ay (aH v))),(8,.func (.func 41) [] [.rop [.int .i64 v,.list 15 l.length (eJ l)] 0]),(9,.int .i64 (k:Nat)),(52,.list 15 l.length (eJ l)),(53,.int .i64 (l.length:Nat)),(54,.int .i64 (k:Nat)),(79,.bool (!lx (N:Int) r2))]) (λ_=>[.cells bl (some 32) [.int .i64 0,.int .i64 0],fp,fp]) .p6 (by kernel_rfl) ?_ ?_
       ·refine xn ?_;repeat' first|exact .n|apply Lc.mk
        all_goals intros
        all_goals exact⟨(),ad,rfl⟩
       intro _;refine a6 ?_;intros;exact cJ (k+1) ⟨hk,aV km h0⟩ (by omega) ad an
     ·have h0:=h0 (λh=>hb h.1);refine az ?_;intros;refine eQ (aE (aK (i:=2) (k:=11) rfl rfl) (aK (i:=1) (k:=10) rfl rfl)) ?_;refine cR mixed hC hGL false (λ_:Unit=>[(1,.rop [.int .i64 v,.list 15 l.length (eJ l)] 0),(2,.own 0 (.pointer (some ⟨bl,0,none⟩))),(3,.list 1 (aH v).length (ay (aH v))),(8,.func (.func 41) [] [.rop [.int .i64 v,.list 15 l.length (eJ l)] 0]),(9,.int .i64 (k:Nat)),(52,.list 15 l.length (eJ l)),(53,.int .i64 (l.length:Nat)),(54,.int .i64 (k:Nat)),(79,.bool false)]) (λ_=>[.cells bl (some 32) [.int .i64 0,.int .i64 0],fp,fp]) .p6 (by kernel_rfl) ?_ ?_
      ·refine xn ?_;repeat' first|exact .n|apply Lc.mk
       all_goals intros
       all_goals exact⟨(),ad,rfl⟩
      intro _;refine a6 ?_;intros;exact cJ (k+1) ⟨hk,aV km h0⟩ (by omega) ad an
    ·obtain rfl:k=l.length:=by omega
     rw[SI hv h60 k2 km];refine a6 ?_;intros;refine lp hC hGL (λk:Nat=>[(1,.rop [.int .i64 v,.list 15 l.length (eJ l)] 0),(2,.own 0 (.pointer (some ⟨bl,0,none⟩))),(8,.func (.func 41) [] [.rop [.int .i64 v,.list 15 l.length (eJ l)] 0]),(83,.list 1 (aH v).length (ay (aH v))),(84,.int .i64 ((aH v).length:Nat)),(85,.int .i64 (k:Nat))]) (λ_=>[.cells bl (some 32) [.int .i64 0,.int .i64 0]]) (λk=>k<=(aH v).length/\∀j,j<k->H8 v l j=0) (λk=>(aH v).length-k) 0 ⟨Nat.zero_le _,λj h=>absurd h (Nat.not_lt_zero _)⟩ ad rfl ?_;rintro k ⟨k1,kl⟩;by_cases hk:k<(aH v).length
     ·have hnn:=Dq hk;have hnl:=zn v;have hR:=nx (G:=G) v ((aH v).getD k []) (by omega);have hA:=ze (G:=G) v l h70 ho ((aH v).getD k []) (by omega) l.length (Nat.le_refl _);have hcl:=ro l ((aH v).getD k []) l.length;have hB:=hB 7;rw[hnn.1] at hA;rw[hve] at hR;unfold Rl.A at hR;simp only[Err.e] at hR;have h7:=VX (v:=v) (l:=l) (i:=k);have h0:=VY (v:=v) (l:=l) (i:=k);have hf7:=λh=>uE (f:=H8 v l) hk kl h;generalize ci v ((aH v).getD k [])=r at*
      obtain⟨r0,r1,r2,r3⟩:=r;dsimp only at*
      generalize iN l ((aH v).getD k []) l.length=N at*
      by_cases hb:(N:Int)<r1
      ·have h7:=h7 hb;rw[h7] at hf7;rw[hf7 (by decide),if_neg (by decide)];simp only[Err.e,Err.p];refine az ?_;intros;refine eQ (aK (i:=1) (k:=15) rfl rfl) ?_;refine cR mixed hC hGL false (λ_:Unit=>[(1,.rop [.int .i64 v,.list 15 l.length (eJ l)] 0),(2,.own 0 (.pointer (some ⟨bl,0,none⟩))),(8,.func (.func 41) [] [.rop [.int .i64 v,.list 15 l.length (eJ l)] 0]),(83,.list 1 (aH v).length (ay (aH v))),(84,.int .i64 ((aH v).length:Nat)),(85,.int .i64 (k:Nat)),(104,.bool (lx (N:Int) r1))]) (λ_=>[.cells bl (some 32) [.int .i64 0,.int .i64 0],fp]) .p15 (by kernel_rfl) ?_ ?_
       ·refine xn ?_;repeat' first|exact .n|apply Lc.mk
        all_goals intros
        all_goals exact⟨(),ad,rfl⟩
       intro _;exact ba
      ·have h0:=h0 hb;refine az ?_;intros;refine eQ (aK (i:=1) (k:=15) rfl rfl) ?_;refine cR mixed hC hGL false (λ_:Unit=>[(1,.rop [.int .i64 v,.list 15 l.length (eJ l)] 0),(2,.own 0 (.pointer (some ⟨bl,0,none⟩))),(8,.func (.func 41) [] [.rop [.int .i64 v,.list 15 l.length (eJ l)] 0]),(83,.list 1 (aH v).length (ay (aH v))),(84,.int .i64 ((aH v).length:Nat)),(85,.int .i64 (k:Nat)),(104,.bool (lx (N:Int) r1))]) (λ_=>[.cells bl (some 32) [.int .i64 0,.int .i64 0],fp]) .p15 (by kernel_rfl) ?_ ?_
       ·refine xn ?_;repeat' first|exact .n|apply Lc.mk
        all_goals intros
        all_goals exact⟨(),ad,rfl⟩
       intro _;refine a6 ?_;intros;exact cJ (k+1) ⟨hk,aV kl h0⟩ (by omega) ad an
     ·obtain rfl:k=(aH v).length:=by omega
      rw[lT (f:=H8 v l) kl,if_pos rfl];simp only[Err.e,Err.p];exact ba
 ·rw[SK hv];have hve:dR v= .errno 1:=by unfold dR;rw[if_neg hv]
  rw[hve] at hN;have hB:=hB 1;simp only[Err.e,Err.p] at hN ⊢;refine ao func20 call20 λC hC hGL=> ?_;exact ba
end
section
theorem lX {a b:List UInt8}{k:Nat}(h:k<a.length):aa (a++10::b) k=aa a k:=by
 unfold aa;rw[List.getD_eq_getElem?_getD,List.getD_eq_getElem?_getD,List.getElem?_append_left h]
theorem sN {a b:List UInt8}{k:Nat}(h:k<=a.length):bH (a++10::b) k=bH a k:=by
 unfold bH;rcases Nat.lt_or_ge k a.length with g|g
 ·rw[lX g,decide_eq_true g,decide_eq_true (by rw[List.length_append,List.length_cons];omega)]
 ·obtain rfl:k=a.length:=by omega
  have e:aa (a++10::b) a.length=10:=by
   unfold aa;rw[List.getD_eq_getElem?_getD,List.getElem?_append_right (Nat.le_refl _),Nat.sub_self];rfl
  rw[e,decide_eq_false (show ¬a.length<a.length by omega)];simp
theorem QF {a b:List UInt8}(h:a.length≠0):aD (a++10::b)=aD a:=by
 have h0:=lX (b:=b) (show 0<a.length by omega);have c1:=sN (b:=b) (show 1<=a.length by omega);have hz:∀k,a.length<=k->bH a k=false:=λk hk=>by unfold bH;rw[decide_eq_false (by omega)];rfl
 unfold aD;rw[if_neg h,if_neg (by rw[List.length_append,List.length_cons];omega),h0];by_cases l1:a.length=1
 ·rw[c1,hz 1 (by omega)];simp
 ·have h1:=lX (b:=b) (show 1<a.length by omega);have c2:=sN (b:=b) (show 2<=a.length by omega);have e2:xq (a++10::b)=xq a:=by unfold xq;rw[h0,h1]
  rw[c1,c2,e2];by_cases l2:a.length=2
  ·rw[hz 2 (by omega)];simp
  ·have h2:=lX (b:=b) (show 2<a.length by omega);have c3:=sN (b:=b) (show 3<=a.length by omega);have e3:xp (a++10::b)=xp a:=by unfold xp;rw[h0,h1,h2]
   rw[c3,e3];by_cases l3:a.length=3
   ·rw[hz 3 (by omega)];simp
   ·have h3:=lX (b:=b) (show 3<a.length by omega);have e4:xo (a++10::b)=xo a:=by unfold xo;rw[h0,h1,h2,h3]
    rw[e4]
theorem OY:∀(n:Nat) (a b:List UInt8),a.length<=n->(gC (a++10::b)=none↔gC a=none/\gC b=none)
 |n,a,b,hn=>by
  by_cases h:a.length=0
  ·obtain rfl:=List.length_eq_zero_iff.1 h;rw[List.nil_append,iP (10::b) (by simp),rA [] rfl];rw[show aD (10::b)=(10,1) from rfl];simp
  ·rw[iP _ (by rw[List.length_append,List.length_cons];omega),iP a h,QF h];by_cases h2:(aD a).2=0
   ·rw[if_pos h2,if_pos h2];simp
   ·have h3:=(nB a).1;rw[if_neg h2,if_neg h2,List.drop_append_of_le_length h3,Option.map_eq_none_iff,Option.map_eq_none_iff];cases n with
    |zero=>omega
    |succ n=>exact OY n _ b (by rw[List.length_drop];omega)
theorem EA:∀l:List (List UInt8),gC (Lib.join l [10])=none↔∀k∈l,gC k=none
 |[]=>by simp[Lib.join,rA]
 |[x]=>by simp[Lib.join]
 |x::y::l=>by
  have e:Lib.join (x::y::l) [10]=x++10::Lib.join (y::l) [10]:=by simp[Lib.join,List.intercalate]
  rw[e,OY _ _ _ (Nat.le_refl _),EA (y::l)];simp
theorem OZ (s:List UInt8):0<=dy s↔gC s≠none:=by
 unfold dy;cases gC s with
 |none=>simp
 |some i=>simp
theorem KK (l:List (List UInt8)):0<=dy (Lib.join l [10])↔∃k∈l,0<=dy k:=by
 rw[OZ,ne_eq,EA];simp only[OZ];constructor
 ·intro h;refine Classical.byContradiction λh2=>h λk hk=>Classical.byContradiction λh3=>h2 ⟨k,hk,h3⟩
 ·rintro⟨k,hk,h⟩ h2;exact h (h2 k hk)
theorem J1 (l:List (List UInt8))(c:UInt8):(Lib.join l [c]).length<=Lib.lens l+l.length:=by
 induction l with
 |nil=>simp[Lib.join]
 |cons x l ih=>
  have e1:Lib.lens (x::l)=x.length+Lib.lens l:=by simp[Lib.lens]
  rw[e1,List.length_cons];cases l with
  |nil=>simp[Lib.join];omega
  |cons y l=>
   have e:Lib.join (x::y::l) [c]=x++c::Lib.join (y::l) [c]:=by simp[Lib.join,List.intercalate]
   rw[e,List.length_append,List.length_cons];omega
theorem AT {G:Glo}(s:List UInt8)(c:UInt8):aj prog G 29 [.str s,.str [c]] (.bool (decide (0<=Lib.indexByte s c))):=by
 refine bO rfl call29 ?_;rintro R args ⟨x,t,e,hx,y,t',e',hy,rfl⟩ w hG hs;obtain rfl:=aI.1 hx;obtain rfl:=aI.1 hy;subst e';obtain rfl:=fb e;refine(strings_Contains_one ⟨s.toArray⟩ c w).mono ?_;rintro e w' ⟨rfl,rfl⟩;exact⟨by simp[AVal.conc],Below.refl _ _⟩
def DU (x:Js):List UInt8:=if x.k=4\/x.k=5 then[116] else if x.k=6 then[108] else if x.k=7 then[107,108] else[]
abbrev Du (b:Nat):HEnt:=.mp b [(.int .i64 1,.str []),(.int .i64 2,.str []),(.int .i64 3,.str []),(.int .i64 4,.str [116]),(.int .i64 5,.str [116]),(.int .i64 6,.str [108]),(.int .i64 7,.str [107,108])]
attribute [local irreducible] bN aw aa aC bg ab ae
attribute [local irreducible] pL dy
theorem pc {G:Glo}(hU:ab G utfTy):∀(n d:Nat) (x:Js),n<=12->Js.le d x->Js.fit d x->aj prog G 10 [Js.R d x,.int .i64 (13-(n:Int))] (.int .i64 (kM n x))
 |0,d,x,hn,hd,hx=>by
  rw[show kM 0 x=4 from rfl];unfold Js.R;refine ao func10 call10 λC hC hGL=> ?_;exact ba
 |n+1,d,x,hn,hd,hx=>by
  unfold Js.R;obtain⟨f1,f2,f3,f4⟩:=rc hx;have hNum:=C1 (G:=G) x.t (by omega);have hBad:=ut (G:=G) hU x.t (by omega);have hjl:=J1 x.ks 10;have hJn:=strings_Join (G:=G) x.ks [10] (by omega) (by omega);have hBadK:=ut (G:=G) hU (Lib.join x.ks [10]) (by omega);have hbj:=KK x.ks;have hc1:=call30;have hc2:=call31;have hc3:=call32;have hc4:=call29;have hCo:∀(s:List UInt8) (c:UInt8) (b:Bool),decide (0<=Lib.indexByte s c)=b->aj prog G 29 [.str s,.str [c]] (.bool b):=λs c b h=>h▸AT s c;have q1:=hCo [] 116 false (by decide);have q2:=hCo [] 107 false (by decide);have q3:=hCo [] 108 false (by decide);have q4:=hCo [116] 116 true (by decide);have q5:=hCo [116] 107 false (by decide);have q6:=hCo [116] 108 false (by decide);have q7:=hCo [108] 116 false (by decide);have q8:=hCo [108] 107 false (by decide);have q9:=hCo [108] 108 true (by decide);have qa:=hCo [107,108] 116 false (by decide);have qb:=hCo [107,108] 107 true (by decide);have qc:=hCo [107,108] 108 true (by decide);clear hCo;refine fN func10 call10 λC hC hGL=> ?_;refine cut hC hGL [(1,.int .i64 (13-((n+1:Nat):Int))),(2,.rop (Js.C d x) 0)] [] True cx λ_=> ?_;refine cut hC hGL [(1,.int .i64 (13-((n+1:Nat):Int))),(2,.rop (Js.C d x) 0)] [] True cx λ_=> ?_;by_cases hk:¬(1<=x.k/\x.k<=7)
  ·rw[sv (.inl hk)];exact am hC hGL ba
  have hk:1<=x.k/\x.k<=7:=Decidable.not_not.1 hk;have hk7:x.k=1\/x.k=2\/x.k=3\/x.k=4\/x.k=5\/x.k=6\/x.k=7:=by omega
  have e1:x.t=[]↔x.t.length=0:=List.length_eq_zero_iff.symm;refine dU hC hGL (λb:Nat=>[(1,.int .i64 (13-((n+1:Nat):Int))),(2,.rop (Js.C d x) 0),(5,.own 0 (.map (some b)))]) (λb=>[Du b]) (λ_=>True) ?_ ?_
  ·refine az ?_;intro b;intros;exact cy b trivial
  intro b5 _;have hh:(DU x=[]/\(x.k=1\/x.k=2\/x.k=3))\/(DU x=[116]/\(x.k=4\/x.k=5))\/(DU x=[108]/\x.k=6)\/(DU x=[107,108]/\x.k=7):=by
   unfold DU;rcases hk7 with h|h|h|h|h|h|h<;>rw[h]<;>decide
  refine cut hC hGL [(1,.int .i64 (13-((n+1:Nat):Int))),(2,.rop (Js.C d x) 0),(6,.str (DU x)),(7,.bool true)] [Du b5] True ?_ λ_=> ?_
  ·rcases hk7 with h|h|h|h|h|h|h
   all_goals
    rw[show DU x=_ from by unfold DU;rw[h]];exact cx
  by_cases ha:oT x
  ·rw[sv ha];unfold oT at ha;have e2:x.ks=[]↔x.ks.length=0:=List.length_eq_zero_iff.symm;have e3:x.l=[]↔x.l.length=0:=List.length_eq_zero_iff.symm;simp only[ne_eq,e1,e2,e3] at ha;rcases hh with⟨h,h2⟩|⟨h,h2⟩|⟨h,h2⟩|⟨h,h2⟩
   all_goals
    rw[h];by_cases z1:x.t.length=0<;>by_cases z2:x.ks.length=0<;>by_cases z3:x.l.length=0<;>by_cases z4:x.ks.length=x.l.length
    all_goals first
     |(exfalso;omega)
     |exact am hC hGL ba
  refine cut hC hGL [(1,.int .i64 (13-((n+1:Nat):Int))),(2,.rop (Js.C d x) 0)] [Du b5] True ?_ λ_=> ?_
  ·have ha':=ha;unfold oT at ha';have e2:x.ks=[]↔x.ks.length=0:=List.length_eq_zero_iff.symm;have e3:x.l=[]↔x.l.length=0:=List.length_eq_zero_iff.symm;simp only[ne_eq,e1,e2,e3] at ha';rcases hh with⟨h,h2⟩|⟨h,h2⟩|⟨h,h2⟩|⟨h,h2⟩
   all_goals
    rw[h];by_cases z1:x.t.length=0<;>by_cases z2:x.ks.length=0<;>by_cases z3:x.l.length=0
    all_goals first
     |(exfalso;omega)
     |exact ba
  clear hh q1 q2 q3 q4 q5 q6 q7 q8 q9 qa qb qc hc4;by_cases hf:nJ x
  ·rw[uC ha hf];unfold nJ at hf;rw[<-hbj,e1] at hf;clear hbj;by_cases h4:x.k=4
   ·by_cases h6:pL x.t=x.t.length
    ·by_cases h5:x.t.length=0
     ·exact am hC hGL ba
     ·by_cases h7:0<=dy x.t
      ·exact am hC hGL ba
      ·have h8:0<=dy (Lib.join x.ks [10]):=by omega
       exact am hC hGL ba
    ·exact am hC hGL ba
   ·by_cases h7:0<=dy x.t
    ·exact am hC hGL ba
    ·have h8:0<=dy (Lib.join x.ks [10]):=by omega
     exact am hC hGL ba
  refine cut hC hGL [(1,.int .i64 (13-((n+1:Nat):Int))),(2,.rop (Js.C d x) 0)] [Du b5] True ?_ λ_=> ?_
  ·have hf':=hf;unfold nJ at hf';rw[<-hbj,e1] at hf';clear hbj;have h7:dy x.t<0:=by omega
   have h8:dy (Lib.join x.ks [10])<0:=by omega
   by_cases h4:x.k=4
   ·have h5:x.t.length≠0:=by omega
    have h6:pL x.t=x.t.length:=by omega
    exact ba
   ·exact ba
  clear hbj hBadK hBad hNum hJn hjl hc1 hc2 hc3;refine dU hC hGL (λ_:Unit=>[(1,.int .i64 (13-((n+1:Nat):Int))),(2,.rop (Js.C d x) 0)]) (λ_=>[Du b5]) (λ_=>u9 x.ks=false) ?_ ?_
  ·refine az ?_;intros;refine lp hC hGL (λk:Nat=>[(1,.int .i64 (13-((n+1:Nat):Int))),(2,.rop (Js.C d x) 0),(110,.list 1 x.ks.length (ay x.ks)),(111,.int .i64 (x.ks.length:Nat)),(112,.int .i64 (k:Nat))]) (λk=>[Du b5]) (λk=>k<=x.ks.length/\∀j,j<k->x.ks.getD j []∉x.ks.take j) (λk=>x.ks.length-k) 0 ⟨Nat.zero_le _,λj h=>absurd h (Nat.not_lt_zero _)⟩ ad rfl ?_;rintro k ⟨k1,k2⟩;by_cases h:k<x.ks.length
   ·have htw:=λhm=>Gc (n:=n) ha hf (LE h hm);have k3:=λhm=>bT (p:=λj=>x.ks.getD j []∉x.ks.take j) k2 hm;refine az ?_;intros;refine lp hC hGL (λm:Nat=>[(1,.int .i64 (13-((n+1:Nat):Int))),(2,.rop (Js.C d x) 0),(9,.str (x.ks.getD k [])),(110,.list 1 x.ks.length (ay x.ks)),(111,.int .i64 (x.ks.length:Nat)),(112,.int .i64 (k:Nat)),(120,.list 1 k (ay x.ks)),(121,.int .i64 (k:Nat)),(122,.int .i64 (m:Nat))]) (λm=>[Du b5]) (λm=>m<=k/\∀j,j<m->x.ks.getD k []≠x.ks.getD j []) (λm=>k-m) 0 ⟨Nat.zero_le _,λj h=>absurd h (Nat.not_lt_zero _)⟩ ad rfl ?_;rintro m ⟨m1,m2⟩;by_cases hm:m<k
    ·by_cases he:x.ks.getD k []=x.ks.getD m []
     ·have hin:x.ks.getD k []∈x.ks.take k:=by
       rw[he,List.mem_take_iff_getElem];exact⟨m,by omega,by rw[List.getD_eq_getElem?_getD,List.getElem?_eq_getElem (by omega)];rfl⟩
      rw[htw hin];exact cx
     ·refine az ?_;intros;exact cJ (m+1) ⟨hm,bT m2 he⟩ (by omega) ad an
    ·obtain rfl:m=k:=by omega
     have hni:x.ks.getD m []∉x.ks.take m:=by
      rw[List.mem_take_iff_getElem];rintro⟨j,hj,hj2⟩;refine m2 j (by omega) (hj2.symm.trans ?_);rw[List.getD_eq_getElem?_getD,List.getElem?_eq_getElem (by omega)];rfl
     refine az ?_;intros;exact cJ (m+1) ⟨h,k3 hni⟩ (by omega) ad an
   ·obtain rfl:k=x.ks.length:=by omega
    refine az ?_;intros;exact cy () (LD k2)
  intro _ ht;have hkd:=λk h h1 h2=>Gw (f:=λi=>kM n (aA x.l i)) (k:=k) (n:=x.l.length) h h1 h2;rw[Ge ha hf ht];have ih:=λe i h1 h2=>pc (G:=G) hU n e (aA x.l i) (by omega) h1 h2;have hK:=qW (f:=λi=>kM n (aA x.l i)) (n:=x.l.length);generalize KY (λi=>kM n (aA x.l i)) x.l.length=E at*
  refine am hC hGL (az ?_);intros;refine lp hC hGL (λk:Nat=>[(1,.int .i64 (13-((n+1:Nat):Int))),(132,.list 4 x.l.length (kR d x.l)),(133,.int .i64 (x.l.length:Nat)),(134,.int .i64 (k:Nat))]) (λk=>[Du b5]) (λk=>k<=x.l.length/\∀j,j<k->kM n (aA x.l j)=0) (λk=>x.l.length-k) 0 ⟨Nat.zero_le _,λj h=>absurd h (Nat.not_lt_zero _)⟩ ad rfl ?_;rintro k ⟨k1,k2⟩;by_cases h:k<x.l.length
  ·obtain⟨e,rfl,he⟩:=e8 hd h;have h1:=ih e k he (hx.2 k h);unfold Js.R at h1;rw[show(13-(n:Int))=13-((n+1:Nat):Int)+1 by omega] at h1;have hkd:=hkd k h k2;by_cases h0:kM n (aA x.l k)=0
   ·rw[h0] at h1;refine az ?_;intros;exact cJ (k+1) ⟨h,bT k2 h0⟩ (by omega) ad an
   ·rw[hkd h0];generalize kM n (aA x.l k)=E2 at*
    exact cx
  ·obtain rfl:k=x.l.length:=by omega
   rw[hK k2];exact cx
end
section
abbrev zL (b:Nat)(e p:Int):HEnt:=.cells b (some 32) [.int .i64 e,.int .i64 p]
abbrev Ow (b3:Nat):Deferred:={target:=.fn (.func 18) #[],args:=#[bX b3]}
abbrev Kv (b2 b3:Nat):Deferred:={target:=.fn (.func 16) #[bX b3,bX b2],args:=#[]}
theorem Wp {P:Program}[Tab P]{G:Glo}{f:FuncId}{avs:List AVal}{H:Heap}{K Kp:AVal->Heap->Prop}{x:Js}{a:Int}(hs:ae P G f avs [] (T8 x a))
  (k1:gM x= .none->K (DL (xU x)) H) (k2:gM x≠ .none->Kp (tz (gM x).e a) H):Cx P G f avs H K Kp:=by
 refine RB [] hs rfl ?_ ?_
 ·rintro v H1 ⟨rfl,⟨h,e⟩|⟨h,e⟩⟩
  ·cases e;exact⟨H,rfl,rfl,k1 h⟩
  ·cases e
 ·rintro v H1 ⟨rfl,⟨h,e⟩|⟨h,e⟩⟩
  ·cases e
  ·cases e;exact⟨H,rfl,rfl,k2 h⟩
theorem QJ {P:Program}[Tab P]{G:Glo}{n:Nat}{rs:List ResultVar}{env:Env}{H:Heap}{Qf:cz->Heap->Prop}(h:U4 P rs Qf .ret env H):Lv P G n rs env [] .ret H Qf:=by
 unfold Lv;rintro C R a w fn u D0 hC hrs hm hf rfl;obtain⟨vs,H'',hv,hs,q⟩:=h;obtain⟨y,hy,hr⟩:=ea (fn:=fn) hm hf (by rw[hrs];exact hv);exact⟨y,hy,_,H'',R,q,⟨y,rfl,hr⟩,hm.drop hs⟩
attribute [local irreducible] bN aw aa aC bg ab ae
attribute [local irreducible] Crd.E gM xU DK th jg oP qQ mf Js.fE Js.fC fH eF To fx Lv gk oZ
theorem JD {G:Glo}(b2 b3:Nat)(v:Int)(q:AVal)(e p:Int):fx prog G 16 [.own 1 (bX b3),.own 0 (bX b2)] .ret [mL b2 v q,zL b3 e p]
  (λr m H=>m= .ret/\r= .ret (.tuple [])/\H=[if e=0 then mL b2 v q else mL b2 0 ax,zL b3 e p]):=by
 have hGL:ab G []:=aG;have hI:=jI (G:=G) e p;refine Bs (rs:=[]) (GL:=[]) func16 rfl rfl rfl rfl hGL ?_;intro C hC;by_cases he:e=0
 ·rw[bP.2 he] at hI;rw[if_pos he];exact ba
 ·rw[fV.2 he] at hI;rw[if_neg he];exact ba
section
variable {G:Glo} {n:Nat} {env:Env} {Qf:cz->Heap->Prop} {b2 b3:Nat} {T:Heap} {q:AVal} {v e p:Int} {y z:AVal}
theorem oB (h2:Env.get env 2=some (.own 0 (bX b2)))(h3:Env.get env 3=some (.own 1 (bX b3)))(hq:Qf (.ret (.tuple [.agg [.int .i64 v,q],.agg [.int .i64 e,.int .i64 p]])) []):
  Lv prog G n [.cell 2 29,.cell 3 32] env [] .ret (mL b2 v q::zL b3 e p::T) Qf:=by
 refine QJ ⟨[.agg [.int .i64 v,q],.agg [.int .i64 e,.int .i64 p]],[],⟨_,_,rfl,⟨b2,0,_,_,_,.inr ⟨0,h2⟩,rfl,rfl,rfl,.inl ⟨rfl,rfl⟩⟩,_,_,rfl,⟨b3,1,_,_,_,.inr ⟨1,h3⟩,rfl,rfl,rfl,.inl ⟨rfl,rfl⟩⟩,rfl⟩,List.nil_sublist _,hq⟩
theorem Iu (h2:Env.get env 2=some (.own 0 (bX b2)))(h3:Env.get env 3=some (.own 1 (bX b3)))(hq:Qf (.ret (.tuple [if e=0 then .agg [.int .i64 v,q] else .agg [.int .i64 0,ax],.agg [.int .i64 e,.int .i64 p]])) []):
  Lv prog G n [.cell 2 29,.cell 3 32] env [Kv b2 b3] .ret (mL b2 v q::zL b3 e p::T) Qf:=by
 have h1:=JD (G:=G) b2 b3 v q e p;refine qL (GJ T h1) (λR=>⟨_,_,rfl,a7.2 ⟨rfl,rfl⟩,_,_,rfl,a7.2 ⟨rfl,rfl⟩,rfl⟩) call16 ?_;by_cases he:e=0
 ·rw[if_pos he] at hq ⊢;exact oB h2 h3 hq
 ·rw[if_neg he] at hq ⊢;exact oB h2 h3 hq
theorem Gx (h2:Env.get env 2=some (.own 0 (bX b2)))(h3:Env.get env 3=some (.own 1 (bX b3)))(he:e≠0)(hq:Qf (.ret (.tuple [.agg [.int .i64 0,ax],.agg [.int .i64 e,.int .i64 p]])) []):
  Lv prog G n [.cell 2 29,.cell 3 32] env [Ow b3,Kv b2 b3] (.pan (tz e p)) (mL b2 v q:: .cells b3 (some 32) [y,z]::T) Qf:=by
 refine qL (SF (i:=1) rfl (FI b3 e p y z)) (λR=>⟨_,_,rfl,a7.2 ⟨rfl,rfl⟩,rfl⟩) call18 ?_;exact Iu h2 h3 (by rw[if_neg he];exact hq)
theorem wV (h2:Env.get env 2=some (.own 0 (bX b2)))(h3:Env.get env 3=some (.own 1 (bX b3)))(hq:Qf (.ret (.tuple [if e=0 then .agg [.int .i64 v,q] else .agg [.int .i64 0,ax],.agg [.int .i64 e,.int .i64 p]])) []):
  Lv prog G n [.cell 2 29,.cell 3 32] env [Ow b3,Kv b2 b3] .ret (mL b2 v q::zL b3 e p::T) Qf:=by
 refine qL (SF (i:=0) rfl (AP b3 _)) (λR=>⟨_,_,rfl,a7.2 ⟨rfl,rfl⟩,rfl⟩) call18 ?_;exact Iu h2 h3 hq
end
theorem JE {G:Glo}{m:Int}(hU:ab G utfTy)(hM:ab G (ct m))(hH:ab G shapesTy)(hP:fW G)(d w:Nat)(x:Js)(hd:Js.le d x)(hs:Js.sz d x<=1048576)(ht:Js.thin (w+6) x):
  ae prog G 5 [Js.R d x] [] (OF x.fC (.agg [.int .i64 x.fE.e,.int .i64 x.fE.p])):=by
 have hGL:ab G []:=aG;have hf:=vj hd hs;have hB:=λe=>ja (G:=G) e;have hGd:=fG (G:=G);have hJ:=pc (G:=G) hU 12 d x (by decide) hd hf;rw[show(13-((12:Nat):Int))=1 by decide] at hJ;have hcB:=call11;unfold Js.R at hJ ⊢;refine Wb (rs:=[.cell 2 29,.cell 3 32]) func5 call5 rfl rfl rfl rfl ?_;intro C hC hD;refine cA (bW hC hGL (az ?_));intro b2 b3;refine cA (cA (bW hC hGL (az ?_)));refine cA (bW hC hGL (az ?_));by_cases hj:kM 12 x=0;case neg=>
  have e1:=Uk hj;have e2:=w9 (x:=x) (by rw[e1];exact λh=>by cases h);rw[e1,e2];generalize kM 12 x=j at*
  have hb4:=hB j;refine jl rfl (λhb=>bW hC hGL (az ?_)) (λhb=>absurd hb (by rw[fV.2 hj];decide));refine cR mixed hC hGL false (λ_:Unit=>[(2,.own 0 (bX b2)),(3,.own 1 (bX b3))]) (λ_=>[mL b2 0 ax,zL b3 j (-1)]) (.t 1 (.br 0 (.b 2 (.b 3 (.b 4 .done))) (.b 2 (.b 0 (.b 3 (.b 4 .done)))))) (by kernel_rfl) ?_ ?_
  ·refine xn ?_;repeat' first|exact .n|apply Lc.mk
   all_goals intros
   all_goals exact⟨(),ad,rfl⟩
  intro _;refine az ?_;rw[hD];exact oB rfl rfl ⟨ax,rfl,rfl,.inl ⟨rfl,rfl⟩⟩
 rw[hj] at hJ;refine jl rfl (λhb=>absurd hb (by rw[bP.2 hj];decide)) (λhb=>bW hC hGL (az ?_));have hstr:=λs=>Qm (G:=G) 0 s;have hcS:=call12;have hjk:=pi hj;by_cases hcr:ud x=true;case neg=>
  have hcr:ud x=false:=by cases h:ud x;rfl;exact absurd h hcr
  have e1:=Ul hj hcr;have e2:=w9 (x:=x) (by rw[e1];exact λh=>by cases h);rw[e1,e2];have hb4:=hB 3;have hcase:x.k≠6\/(x.k=6/\x.l.length≠2)\/∃e b,d=e+1/\x.k=6/\x.l.length=2/\aj prog G 12 [.agg (Js.C e (aA x.l 0)),.agg (Js.C 0 (sJ [118,99,97,114,100]))] (.bool b)/\(b=true->(aA x.l 1).k≠6):=by
   by_cases h6:x.k=6;case neg=>exact .inl h6
   by_cases h2:x.l.length=2;case neg=>exact .inr (.inl ⟨h6,h2⟩)
   obtain⟨e,rfl,hle,hfe⟩:=kA hf hd (show 0<x.l.length by omega);have hS:=wy (G:=G) 1048576 (by decide) e (aA x.l 0) 0 (sJ [118,99,97,114,100]) (uz hle hfe) rfl;rw[vz (uB (n:=10) (hjk.2.2 0 (by omega))).1] at hS;refine .inr (.inr ⟨e,_,rfl,h6,h2,hS,λhb h7=> ?_⟩);rw[By.2 ⟨h6,h2,hb,h7⟩] at hcr;cases hcr
  have hv:=hstr [118,99,97,114,100];have hcase2:(x.k≠6)\/(x.k=6/\x.l.length≠2)\/(∃e,d=e+1/\x.k=6/\x.l.length=2/\aj prog G 12 [.agg (Js.C e (aA x.l 0)),.agg (Js.C 0 (sJ [118,99,97,114,100]))] (.bool false))\/(∃e,d=e+1/\x.k=6/\x.l.length=2/\aj prog G 12 [.agg (Js.C e (aA x.l 0)),.agg (Js.C 0 (sJ [118,99,97,114,100]))] (.bool true)/\(aA x.l 1).k≠6):=by
   rcases hcase with h|h|⟨e,b,h1,h2,h3,h4,h5⟩
   ·exact .inl h
   ·exact .inr (.inl h)
   ·cases b
    ·exact .inr (.inr (.inl ⟨e,h1,h2,h3,h4⟩))
    ·exact .inr (.inr (.inr ⟨e,h1,h2,h3,h4,h5 rfl⟩))
  rcases hcase2 with h6|⟨h6,h2⟩|⟨e,rfl,h6,h2,hS⟩|⟨e,rfl,h6,h2,hS,h7⟩
  all_goals
   refine cA (cA (bW hC hGL (az ?_)));refine cR mixed hC hGL false (λ_:Unit=>[(2,.own 0 (bX b2)),(3,.own 1 (bX b3)),(39,.bool true)]) (λ_=>[mL b2 0 ax,zL b3 0 0]) .p16 (by kernel_rfl) ?_ ?_
   ·refine xn ?_;repeat' first|exact .n|apply Lc.mk
    all_goals intros
    all_goals first
     |(rw[fV.2 h7];exact⟨(),ad,rfl⟩)
     |exact⟨(),ad,rfl⟩
   intro _;refine jl rfl (λhb=>bW hC hGL (az ?_)) (λhb=>by cases hb);refine cR mixed hC hGL false (λ_:Unit=>[(2,.own 0 (bX b2)),(3,.own 1 (bX b3))]) (λ_=>[mL b2 0 ax,zL b3 3 (-1)]) .p5 (by kernel_rfl) ?_ ?_
   ·refine xn ?_;repeat' first|exact .n|apply Lc.mk
    all_goals intros
    all_goals exact⟨(),ad,rfl⟩
   intro _;refine az ?_;rw[hD];exact oB rfl rfl ⟨ax,rfl,rfl,.inl ⟨rfl,rfl⟩⟩
 obtain⟨h6,h2,hvb,h7⟩:=By.1 hcr;obtain⟨e,rfl,hle,hfe⟩:=kA hf hd (show 0<x.l.length by omega);have hS:=wy (G:=G) 1048576 (by decide) e (aA x.l 0) 0 (sJ [118,99,97,114,100]) (uz hle hfe) rfl;rw[vz (uB (n:=10) (hjk.2.2 0 (by omega))).1,show tT (aA x.l 0) [118,99,97,114,100]=true from hvb] at hS;have hv:=hstr [118,99,97,114,100];refine cA (cA (bW hC hGL (az ?_)));refine cR mixed hC hGL false (λ_:Unit=>[(1,.rop (Js.C (e+1) x) 0),(2,.own 0 (bX b2)),(3,.own 1 (bX b3)),(39,.bool false)]) (λ_=>[mL b2 0 ax,zL b3 0 0]) .p16 (by kernel_rfl) ?_ ?_
 ·refine xn ?_;repeat' first|exact .n|apply Lc.mk
  all_goals intros
  all_goals
   rw[bP.2 h7];exact⟨(),ad,rfl⟩
 intro _;refine jl rfl (λhb=>by cases hb) (λhb=>bW hC hGL (az ?_));clear hv hS hle hfe;have hy:=hd 1 (by omega);have hjy:=hjk.2.2 1 (by omega);have hty:=cp ht 1;have hfy:=hf.2 1 (by omega);have f3:=Wf hj hcr;have f4:=Wg hj hcr;have fno:=w9 (x:=x);have fok:=N5 (x:=x);have hl600:=hty.1.2.2.1;have htl:=cp hty;have hok:(jg (aA x.l 1).l).ok:=Bl (m:=w) (d:=e) htl (λi=>by
  by_cases hi:i<(aA x.l 1).l.length
  ·obtain⟨e',rfl, -,hfi⟩:=kA hfy hy hi;by_cases h1:1<(aA (aA x.l 1).l i).l.length
   ·obtain⟨e'',rfl, -,hfi2⟩:=kA hfi ((hy i hi)) h1;exact(rc hfi2).2.2.1
   ·rw[lh (by omega)];exact Nat.zero_le _
  ·rw[lh (show(aA x.l 1).l.length<=i by omega)];exact Nat.zero_le _) (by omega)
 have hCv:(jg (aA x.l 1).l).v=4:=by unfold jg;rfl
 have hyl:∀i,i<(aA x.l 1).l.length->∃e',e=e'+1/\Js.le e' (aA (aA x.l 1).l i)/\Js.fit e' (aA (aA x.l 1).l i):=λi hi=>kA hfy hy hi;have hfat:=λk=>It (l:=(aA x.l 1).l) (k:=k);have hfno:=Is (l:=(aA x.l 1).l);have hiK:=DJ (aA x.l 1).l;have hjr:=(pi hjy).2.2;refine ik hC hGL (λ_:Unit=>[(2,.own 0 (bX b2)),(3,.own 1 (bX b3)),(5,.list 4 (aA x.l 1).l.length (kR e (aA x.l 1).l))]) (λ_=>[mL b2 0 ax,zL b3 0 0]) (λ_=>True) ?_ ?_
 ·refine az ?_;intros;exact cy () trivial
 intro _ _;generalize x.fE=E at*
 generalize x.fC=Cc at*
 generalize jg (aA x.l 1).l=F at*
 clear hd hs ht hjk hf hcr h6 h2 hvb h7 hfy hy hty hjy hj hb hJ;generalize (aA x.l 1).l=l at*
 have hs1:=hstr [118,101,114,115,105,111,110];have hs2:=hstr [116,101,120,116];have hs3:=hstr [52,46,48];have hvr:=Ql (G:=G) 0;have hcase:(l.length≠0/\mf (aA l 0)=true)\/l.length=0\/(l.length≠0/\mf (aA l 0)=false):=by
  by_cases h:l.length=0
  ·exact .inr (.inl h)
  ·cases hv:mf (aA l 0) with
   |true=>exact .inl ⟨h,rfl⟩
   |false=>exact .inr (.inr ⟨h,rfl⟩)
 have hS2:l.length≠0->∃e',e=e'+1/\aj prog G 12 [.agg (Js.C e' (aA l 0)),.agg (Js.C 1 oL)] (.bool (mf (aA l 0))):=λh=>by
  obtain⟨e',rfl,hle,hfe⟩:=hyl 0 (by omega);have hS:=wy (G:=G) 1048576 (by decide) e' (aA l 0) 1 oL (uz hle hfe) (λi hi=>by
   rcases(show i=0\/i=1\/i=2\/i=3 by have:i<4:=hi;omega) with rfl|rfl|rfl|rfl<;>rfl)
  rw[S8 (n:=8) (hjr 0 (by omega)) hle] at hS;exact⟨e',rfl,hS⟩
 rcases hcase with⟨hn,hvr1⟩|hn|⟨hn,hvr0⟩
 rotate_left
 ·have f3:=f3 (.inl hn);subst f3;rw[fno (λh=>by cases h)];refine cA (cA (bW hC hGL (az ?_)));refine cR mixed hC hGL false (λ_:Unit=>[(2,.own 0 (bX b2)),(3,.own 1 (bX b3)),(62,.bool true)]) (λ_=>[mL b2 0 ax,zL b3 0 0]) .p7 (by kernel_rfl) ?_ ?_
  ·refine xn ?_;repeat' first|exact .n|apply Lc.mk
   all_goals intros
   all_goals exact⟨(),ad,rfl⟩
  intro _;refine jl rfl (λhb=>bW hC hGL (az ?_)) (λhb=>by cases hb);intros;rw[hD];exact oB rfl rfl ⟨ax,rfl,rfl,.inl ⟨rfl,rfl⟩⟩
 ·have f3:=f3 (.inr hvr0);obtain⟨e',rfl,hS⟩:=hS2 hn;rw[hvr0] at hS;subst f3;rw[fno (λh=>by cases h)];refine cA (cA (bW hC hGL (az ?_)));refine cR mixed hC hGL false (λ_:Unit=>[(2,.own 0 (bX b2)),(3,.own 1 (bX b3)),(62,.bool true)]) (λ_=>[mL b2 0 ax,zL b3 0 0]) .p7 (by kernel_rfl) ?_ ?_
  ·refine xn ?_;repeat' first|exact .n|apply Lc.mk
   all_goals intros
   all_goals exact⟨(),ad,rfl⟩
  intro _;refine jl rfl (λhb=>bW hC hGL (az ?_)) (λhb=>by cases hb);intros;rw[hD];exact oB rfl rfl ⟨ax,rfl,rfl,.inl ⟨rfl,rfl⟩⟩
 have f4:=f4 hn hvr1;clear f3;obtain⟨e',rfl,hS⟩:=hS2 hn;rw[hvr1] at hS;refine cA (cA (bW hC hGL (az ?_)));refine cR mixed hC hGL false (λ_:Unit=>[(2,.own 0 (bX b2)),(3,.own 1 (bX b3)),(5,.list 4 l.length (kR (e'+1) l)),(62,.bool false)]) (λ_=>[mL b2 0 ax,zL b3 0 0]) .p7 (by kernel_rfl) ?_ ?_
 ·refine xn ?_;repeat' first|exact .n|apply Lc.mk
  all_goals intros
  all_goals exact⟨(),ad,rfl⟩
 intro _;refine jl rfl (λhb=>by cases hb) (λhb=>bW hC hGL (az ?_));refine cA (bW hC hGL (az ?_));refine cA (oK hC hGL rfl (az ?_));refine⟨_,rfl,?_⟩;refine cA (oK hC hGL rfl (az ?_));refine⟨_,rfl,?_⟩;refine(λ(h:∀C2:Ctx,C2.G=G->C2.D=[Ow b3,Kv b2 b3]->gk prog C2 _ _ _ _ _)=>h (withD C (Ow b3::Kv b2 b3::C.D)) hC (by show Ow b3::Kv b2 b3::C.D=_;rw[hD])) ?_;clear hC hD C;intro C hC hD;have hit:=λi (hi:i<l.length)=>Ml (G:=G) hU hM hH e' 8 w (aA l i) (i:Nat) (by obtain⟨e2,h,g, -⟩:=hyl i hi;cases h;exact g) (htl i) (by obtain⟨e2,h, -,g⟩:=hyl i hi;cases h;exact g) (hjr i hi);refine cA (bW hC hGL (az ?_));refine ik hC hGL (λ_:Value=>[(2,.own 0 (bX b2)),(3,.own 1 (bX b3))]) (λv=>[mL b2 4 (.own 2 v),zL b3 0 (-1),.row v none 15 (l.length-1) (oP F.l)]) (λ_=>∀j,j<l.length-1->gM (aA l (j+1))= .none) ?_ ?_
 ·refine az ?_;intros;refine qM (aE (gQ 15) (jD (i:=0) (p:=1) (x:=mL b2 4 ax) (a':=.own 2 (.slice none 0 0)) rfl (λR=>.cells rfl λ_=>jK))) ?_;refine lp hC hGL (λz:Nat×Value=>[(2,.own 0 (bX b2)),(3,.own 1 (bX b3)),(5,.list 4 l.length (kR (e'+1) l)),(6,.int .i64 ((z.1+1:Nat):Int))]) (λz=>[mL b2 4 (.own 2 z.2),zL b3 0 (-1),.row z.2 none 15 z.1 (oP (qQ l z.1))]) (λz=>z.1<=l.length-1/\∀j,j<z.1->gM (aA l (j+1))= .none) (λz=>l.length-1-z.1) (0,.slice none 0 0) ⟨Nat.zero_le _,λj h=>absurd h (Nat.not_lt_zero _)⟩ ad (by unfold qQ;dsimp only;rw[List.take_zero];unfold oP;rfl) ?_;rintro⟨k,v⟩ ⟨k1,k2⟩;have k1:k<=l.length-1:=k1;have k2:∀j,j<k->gM (aA l (j+1))= .none:=k2;dsimp only
  by_cases hk:k<l.length-1;case neg=>
   obtain rfl:k=l.length-1:=by omega
   rw[hiK];refine az ?_;intros;exact cy v k2
  have hi:=hit (k+1) (by omega);unfold Js.R at hi;have hs:=Nz hk;have hfa:=λh=>hfat k (by omega) k2 h;refine az ?_;intros;refine Wl [(2,.own 0 (bX b2)),(3,.own 1 (bX b3))] (by kernel_rfl) mixed hC hGL false (λa h=>∃T:Heap,gM (aA l (k+1))≠ .none/\a=tz (gM (aA l (k+1))).e ((k+1:Nat):Int)/\h=mL b2 4 (.own 2 v)::zL b3 0 (-1)::T)
   (λ_:{x:Option Addr×Nat×Nat//gM (aA l (k+1))= .none}=>[(2,.own 0 (bX b2)),(3,.own 1 (bX b3)),(5,.list 4 l.length (kR (e'+1) l)),(6,.int .i64 ((k+1:Nat):Int))])
   (λx=>[mL b2 4 (.own 2 (.slice x.1.1 x.1.2.1 x.1.2.2)),zL b3 0 (-1),.row (.slice x.1.1 x.1.2.1 x.1.2.2) none 15 (k+1) (oP (qQ l k)++dG (xU (aA l (k+1))))])
   (.t 0 (.t 2 (.t 3 (.t 4 (.t 5 (.t 6 (.br 1 (.b 7 (.b 8 (.b 9 (.t 10 (.b 11 .done))))) (.b 7 (.br 1 (.b 8 (.b 9 (.t 10 (.b 11 .done)))) (.b 8 (.b 1 (.b 9 (.t 10 (.b 11 .done)))))))))))))) (by kernel_rfl) ?_ ?_ ?_
  ·refine xn ?_;repeat' first|exact .n|apply Lc.mk
   all_goals intros
   all_goals
    refine Wp hi (λh0=> ?_) (λh0=> ?_)
    ·refine xn ?_;repeat' first|exact .n|apply Lc.mk
     all_goals intros
     all_goals exact⟨⟨(_,_,_),h0⟩,ad,an⟩
    ·exact⟨⟨_,h0,rfl,rfl⟩,rfl,rfl,trivial⟩
  ·rintro⟨⟨va,vk,vc⟩,h0⟩;dsimp only
   refine az ?_;intros;refine cJ (k+1,.slice va vk vc) ⟨hk,aV k2 h0⟩ (by show l.length-1-(k+1)<l.length-1-k;omega) ad ?_;dsimp only
   rw[hs,<-zE];exact an
  ·rintro a h ⟨T,h0,rfl,rfl⟩
   (conv=>whnf)
   rw[hD];rw[f4,hfa h0] at fno ⊢;rw[fno (λh=>by cases h)];exact Gx rfl rfl (λg=>h0 (NC g)) ⟨ax,rfl,rfl,.inl ⟨rfl,rfl⟩⟩
 intro v hall;rw[hfno hall] at f4;clear hfat hfno hit hyl hjr htl;obtain⟨fv,fl⟩:=F;obtain rfl:fv=4:=hCv;have hCR:=yo hU hM hH hP ⟨4,fl⟩ hok;have hp:=λe p=>IH (c:=⟨4,fl⟩) (e:=e) (p:=p);have he0:=UC ⟨4,fl⟩;have hlF:fl.length=l.length-1:=by
  have h9:=wG (l:=l) (Nat.le_refl _);rw[hiK] at h9;exact h9
 unfold Crd.A at hCR;dsimp only at hCR hp ⊢;rw[<-hlF];refine O1 (jC (i:=2) (k:=0) (p:=1) (eJ fl) rfl rfl (Ie fl) (λR hr=>.cells (a:=.own 2 v) rfl λ_=>df hr)) ?_;subst f4;cases hce:Crd.E ⟨4,fl⟩ with
 |none=>
  rw[hce] at hCR fok;rw[fok rfl];simp only[Err.e,Err.p,PE] at hCR ⊢;refine bW hC hGL (az ?_);intros;refine cR mixed hC hGL false (λ_:Unit=>[(2,.own 0 (bX b2)),(3,.own 1 (bX b3))]) (λ_=>[mL b2 4 (.list 15 fl.length (eJ fl)),zL b3 0 (-1)]) .p1 (by kernel_rfl) ?_ ?_
  ·refine xn ?_;repeat' first|exact .n|apply Lc.mk
   all_goals intros
   all_goals exact⟨(),ad,rfl⟩
  intro _;refine az ?_;rw[hD];exact wV rfl rfl ⟨_,by rw[if_pos rfl],rfl,.inr rfl⟩
 |errno e1=>
  rw[hce] at hCR fno he0;rw[fno (λh=>by cases h)];have hne:e1≠0:=by
   rcases he0 with h|h
   ·cases h
   ·exact h.1
  simp only[Err.e,Err.p,PE] at hCR ⊢;refine bW hC hGL (az ?_);intros;refine cR mixed hC hGL false (λ_:Unit=>[(2,.own 0 (bX b2)),(3,.own 1 (bX b3))]) (λ_=>[mL b2 4 (.list 15 fl.length (eJ fl)),zL b3 e1 (-1)]) .p1 (by kernel_rfl) ?_ ?_
  ·refine xn ?_;repeat' first|exact .n|apply Lc.mk
   all_goals intros
   all_goals exact⟨(),ad,rfl⟩
  intro _;refine az ?_;rw[hD];exact wV rfl rfl ⟨ax,by rw[if_neg hne],rfl,.inl ⟨rfl,rfl⟩⟩
 | «at» e1 p1=>
  obtain⟨p2,p3⟩:=hp _ _ hce;rw[hce] at hCR fno he0;rw[fno (λh=>by cases h)];have hne:e1≠0:=by
   rcases he0 with h|h
   ·cases h
   ·exact h.1
  simp only[Err.e,Err.p,PE] at hCR ⊢;refine bW hC hGL (az ?_);intros;refine cR mixed hC hGL false (λ_:Unit=>[(2,.own 0 (bX b2)),(3,.own 1 (bX b3))]) (λ_=>[mL b2 4 (.list 15 fl.length (eJ fl)),zL b3 e1 (p1+1)]) .p1 (by kernel_rfl) ?_ ?_
  ·refine xn ?_;repeat' first|exact .n|apply Lc.mk
   all_goals intros
   all_goals exact⟨(),ad,rfl⟩
  intro _;refine az ?_;rw[hD];exact wV rfl rfl ⟨ax,by rw[if_neg hne],rfl,.inl ⟨rfl,rfl⟩⟩
theorem Mr {G:Glo}{m:Int}(hU:ab G utfTy)(hM:ab G (ct m))(hH:ab G shapesTy)(hP:fW G)(d w:Nat)(x:Js)(hd:Js.le d x)(hs:Js.sz d x<=1048576)(ht:Js.thin (w+6) x):
  aj prog G 5 [Js.R d x] (.tuple [x.fC.A,.agg [.int .i64 x.fE.e,.int .i64 x.fE.p]]):=dC (JE hU hM hH hP d w x hd hs ht) λ_ _ h=>En h
end
section
theorem Fh (t:Stm):yN [cm t.y t.y,cm t.m t.m,cm t.d t.d,cm t.h t.h,cm t.i t.i,cm t.s t.s,t.z==t.z,cm t.o t.o]=true:=by
 have e:∀x:Int,cm x x=true:=λx=>bP.2 rfl;simp only[yN,e,beq_self_eq_true,Bool.and_self]
attribute [local irreducible] bN aw aa aC bg ab ae
attribute [local irreducible] lA
end
section
attribute [local irreducible] bN aw aa aC bg ab ae
theorem o7 {G:Glo}(l:List (List UInt8))(hl:l.length<=2000000):aj prog G 28 [.list 1 l.length (ay l),.list 1 l.length (ay l)] (.bool true):=by
 refine ao func28 call28 λC hC hGL=> ?_;refine a6 ?_;intros;refine lp hC hGL (λk:Nat=>[(0,.list 1 l.length (ay l)),(1,.list 1 l.length (ay l)),(12,.int .i64 (l.length:Int)),(13,.int .i64 (k:Int))]) (λ_=>[]) (λk=>k<=l.length) (λk=>l.length-k) 0 (Nat.zero_le _) ?_ ?_ ?_
 ·exact ad
 ·rfl
 intro k hk;by_cases h:k<l.length
 ·refine a6 ?_;intros;exact cJ (k+1) h (by omega) ad an
 ·exact ba
abbrev SD (b:Nat):Value:=.pointer (some ⟨b,0,none⟩)
abbrev xX (x:Itm):List AVal:=[.int .i64 x.2.t,.str x.2.s,.list 1 x.2.L.length (eF x.2.L),.int .i64 x.2.st.y,.int .i64 x.2.st.m,.int .i64 x.2.st.d,.int .i64 x.2.st.h,.int .i64 x.2.st.i,.int .i64 x.2.st.s,.bool x.2.st.z,.int .i64 x.2.st.o,.int .i64 x.2.n]
abbrev rK (v:Int)(l:List Itm):AVal:=.rop [.int .i64 v,.list 15 l.length (eJ l)] 0
theorem JF {G:Glo}(c:Crd)(hf:c.ok):aj prog G 8 [c.A,c.A] (.bool true):=by
 obtain⟨v,l⟩:=c;obtain⟨h70,ho⟩:=hf;dsimp only at h70 ho;unfold Crd.A;dsimp only
 refine fN func8 call8 λC hC hGL=> ?_;refine cut hC hGL [(2,rK v l),(3,rK v l)] [] True ?_ λ_=> ?_
 ·exact cx
 refine cut hC hGL [(2,rK v l),(3,rK v l)] [] True ?_ λ_=> ?_
 ·exact cx
 have hcl:=call28;refine cut hC hGL [] [] True ?_ λ_=>am hC hGL cx
 refine az ?_
 intros
 refine lpA hC hGL (λk:Nat=>[(2,rK v l),(3,rK v l),(28,.int .i64 (l.length:Int)),(29,.int .i64 (k:Int))]) (λ_=>[]) (λk=>k<=l.length) (λk=>l.length-k) 0 (Nat.zero_le _) ad rfl ?_
 intro k hk
 by_cases h:k<l.length
 case neg=>exact am hC hGL cx
 have hO:=sw ho h
 have hL:=hO.L
 have hz:=Fh (l.getD k Itm.z).2.st
 refine fY (am hC hGL (az ?_))
 refine fY (am hC hGL (az ?_))
 intros
 refine fY (lY ?_)
 refine cut hC hGL [(2,rK v l),(3,rK v l),(28,.int .i64 (l.length:Int)),(29,.int .i64 (k:Int)),(5,.int .i64 (k:Int))] [] True cx λ_=> ?_
 refine yF (λ_:Unit=>[(2,rK v l),(3,rK v l),(28,.int .i64 (l.length:Int)),(29,.int .i64 (k:Int)),(6,.rop (dG (l.getD k Itm.z)) 0),(7,.rop (dG (l.getD k Itm.z)) 0)]) (λ_=>[]) (λ_=>True) (am hC hGL ?_) ?_
 ·refine az ?_
  refine cR mixed hC hGL false (λy:Bool×Nat×Nat=>[(2,rK v l),(3,rK v l),(28,.int .i64 (l.length:Int)),(29,.int .i64 (k:Int)),(6,if y.1 then .own 0 (SD y.2.1) else .own 1 (SD y.2.2)),(7,if y.1 then .own 1 (SD y.2.2) else .own 0 (SD y.2.1))]) (λy=>[.cells y.2.1 (some 58) (dG (l.getD k Itm.z)),.cells y.2.2 (some 58) (dG (l.getD k Itm.z))]) (.t 0 (.t 1 (.t 2 (.t 3 (.t 4 (.t 5 (.t 6 (.t 7 (.t 8 (.t 9 (.br 10 (.b 11 (.b 12 (.b 13 .done))) (.b 11 (.b 10 (.b 12 (.b 13 .done))))))))))))))) (by kernel_rfl) ?_ ?_
  ·refine xn ?_
   repeat' first|exact .n|apply Lc.mk
   all_goals intros
   all_goals first
    |exact⟨(true,_,_),⟨rfl,rfl,rfl,rfl,rfl,rfl,trivial⟩,rfl⟩
    |exact⟨(false,_,_),⟨rfl,rfl,rfl,rfl,rfl,rfl,trivial⟩,rfl⟩
  rintro⟨o,b6,b7⟩
  cases o
  ·exact BY () trivial (aE (aK (i:=1) (k:=6) rfl rfl) (aE (aK (i:=0) (k:=7) rfl rfl) (cQ ad an)))
  ·exact BY () trivial (aE (aK (i:=0) (k:=6) rfl rfl) (aE (aK (i:=1) (k:=7) rfl rfl) (cQ ad an)))
 intro _ _
 generalize l.getD k Itm.z=x at*
 refine yF (λ_:Unit=>[(2,rK v l),(3,rK v l),(28,.int .i64 (l.length:Int)),(29,.int .i64 (k:Int)),(6,.rop (dG x) 0),(7,.rop (dG x) 0),(8,.rop (xX x) 0),(9,.rop (xX x) 0)]) (λ_=>[]) (λ_=>True) (am hC hGL ?_) ?_
 ·refine az ?_
  refine cR mixed hC hGL false (λy:Bool×Nat×Nat=>[(2,rK v l),(3,rK v l),(28,.int .i64 (l.length:Int)),(29,.int .i64 (k:Int)),(6,.rop (dG x) 0),(7,.rop (dG x) 0),(8,if y.1 then .own 0 (SD y.2.1) else .own 1 (SD y.2.2)),(9,if y.1 then .own 1 (SD y.2.2) else .own 0 (SD y.2.1))]) (λy=>[.cells y.2.1 (some 56) (xX x),.cells y.2.2 (some 56) (xX x)]) (.t 0 (.t 1 (.t 2 (.t 3 (.br 4 (.b 5 (.b 6 (.b 7 .done))) (.b 5 (.b 4 (.b 6 (.b 7 .done))))))))) (by kernel_rfl) ?_ ?_
  ·refine xn ?_
   repeat' first|exact .n|apply Lc.mk
   all_goals intros
   all_goals first
    |exact⟨(true,_,_),⟨rfl,rfl,rfl,rfl,rfl,rfl,rfl,rfl,trivial⟩,rfl⟩
    |exact⟨(false,_,_),⟨rfl,rfl,rfl,rfl,rfl,rfl,rfl,rfl,trivial⟩,rfl⟩
  rintro⟨o,b6,b7⟩
  cases o
  ·exact BY () trivial (aE (aK (i:=1) (k:=8) rfl rfl) (aE (aK (i:=0) (k:=9) rfl rfl) (cQ ad an)))
  ·exact BY () trivial (aE (aK (i:=0) (k:=8) rfl rfl) (aE (aK (i:=1) (k:=9) rfl rfl) (cQ ad an)))
 intro _ _
 refine cut hC hGL [(2,rK v l),(3,rK v l),(28,.int .i64 (l.length:Int)),(29,.int .i64 (k:Int)),(6,.rop (dG x) 0),(7,.rop (dG x) 0),(8,.rop (xX x) 0),(9,.rop (xX x) 0)] [] True ?_ λ_=> ?_
 ·refine az ?_
  intros
  refine aP hC hGL (rS true rfl rfl rfl rfl (by kernel_rfl) (by kernel_rfl) (by kernel_rfl) rfl hz) rfl rfl ?_
  exact cx
 have hst:=λj=>o7 (G:=G) (x.2.L.getD j []) (hL.k j).1
 have hsp:=λj=>o7 (G:=G) (x.1.ps.getD j Pr.z).vs (by have:=(hO.p.q j).2.1;have:(x.1.ps.getD j Pr.z).vs.length<=10000:=this;omega)
 have hLn:=hL.n
 have hpn:x.1.ps.length<=10000:=hO.p.ps
 refine cut hC hGL [(2,rK v l),(3,rK v l),(28,.int .i64 (l.length:Int)),(29,.int .i64 (k:Int)),(6,.rop (dG x) 0),(7,.rop (dG x) 0)] [] True ?_ λ_=> ?_
 ·refine az ?_
  intros
  refine lp hC hGL (λj:Nat=>[(2,rK v l),(3,rK v l),(28,.int .i64 (l.length:Int)),(29,.int .i64 (k:Int)),(6,.rop (dG x) 0),(7,.rop (dG x) 0),(8,.rop (xX x) 0),(9,.rop (xX x) 0),(106,.int .i64 (x.2.L.length:Nat)),(107,.int .i64 (j:Nat))]) (λ_=>[]) (λj=>j<=x.2.L.length) (λj=>x.2.L.length-j) 0 (Nat.zero_le _) ad rfl ?_
  intro j hj
  by_cases hjl:j<x.2.L.length
  ·have hst:=hst j
   refine az ?_
   intros
   refine cR mixed hC hGL false (λ_:Unit=>[(2,rK v l),(3,rK v l),(28,.int .i64 (l.length:Int)),(29,.int .i64 (k:Int)),(6,.rop (dG x) 0),(7,.rop (dG x) 0),(8,.rop (xX x) 0),(9,.rop (xX x) 0),(106,.int .i64 (x.2.L.length:Nat)),(107,.int .i64 (j:Nat)),(121,.bool false)]) (λ_=>[]) (.t 0 (.t 1 (.t 2 (.t 3 (.t 4 (.t 5 (.t 6 (.t 7 (.t 8 (.t 9 (.b 10 (.t 11 .done)))))))))))) (by kernel_rfl) ?_ ?_
   ·refine xn ?_
    repeat' first|exact .n|apply Lc.mk
    all_goals intros
    all_goals exact⟨(),ad,rfl⟩
   intro _
   refine az ?_
   intros
   exact cJ (j+1) hjl (by omega) ad an
  ·exact cx
 refine am hC hGL (az ?_)
 intros
 refine lp hC hGL (λj:Nat=>[(2,rK v l),(3,rK v l),(28,.int .i64 (l.length:Int)),(29,.int .i64 (k:Int)),(6,.rop (dG x) 0),(7,.rop (dG x) 0),(125,.int .i64 (x.1.ps.length:Nat)),(126,.int .i64 (j:Nat))]) (λ_=>[]) (λj=>j<=x.1.ps.length) (λj=>x.1.ps.length-j) 0 (Nat.zero_le _) ad rfl ?_
 intro j hj
 by_cases hjl:j<x.1.ps.length
 ·have hsp:=hsp j
  refine az ?_
  intros
  refine cR mixed hC hGL false (λ_:Unit=>[(2,rK v l),(3,rK v l),(28,.int .i64 (l.length:Int)),(29,.int .i64 (k:Int)),(6,.rop (dG x) 0),(7,.rop (dG x) 0),(125,.int .i64 (x.1.ps.length:Nat)),(126,.int .i64 (j:Nat)),(157,.bool false)]) (λ_=>[]) (.t 0 (.t 1 (.t 2 (.t 3 (.t 4 (.t 5 (.t 6 (.t 7 (.t 8 (.t 9 (.t 10 (.t 11 (.t 12 (.t 13 (.t 14 (.t 15 (.t 16 (.t 17 (.t 18 (.t 19 (.t 20 (.t 21 (.t 22 (.t 23 (.t 24 (.t 25 (.b 26 (.t 27 (.t 28 .done))))))))))))))))))))))))))))) (by kernel_rfl) ?_ ?_
  ·refine xn ?_
   repeat' first|exact .n|apply Lc.mk
   all_goals intros
   all_goals exact⟨(),ad,rfl⟩
  intro _
  refine az ?_
  intros
  exact cJ (j+1) hjl (by omega) ad an
 ·refine az ?_
  intros
  refine am hC hGL (az ?_)
  intros
  trace_state
  exact cJ (k+1) h (by omega) ad an
end
section
theorem Rq {d w:Nat}{x:Js}(hd:Js.le d x)(hf:Js.fit d x)(ht:Js.thin (w+6) x):x.fC.ok:=by
 by_cases h:x.fE= .none;case neg=>
  rw[w9 h];exact⟨Nat.zero_le _,λx hx=>by cases hx⟩
 rw[N5 h];have hty:=cp ht 1;refine Bl (m:=w) (d:=0) (cp hty) (λi=> ?_) (by have:=hty.1.2.2.1;omega);by_cases h1:1<x.l.length
 ·obtain⟨e,rfl,hy,hfy⟩:=kA hf hd h1;by_cases hi:i<(aA x.l 1).l.length
  ·obtain⟨e',rfl,hy2,hfi⟩:=kA hfy hy hi;by_cases h2:1<(aA (aA x.l 1).l i).l.length
   ·obtain⟨e'',rfl, -,hfi2⟩:=kA hfi hy2 h2;exact(rc hfi2).2.2.1
   ·rw[lh (show(aA (aA x.l 1).l i).l.length<=1 by omega)];exact Nat.zero_le _
  ·rw[lh (show(aA x.l 1).l.length<=i by omega)];exact Nat.zero_le _
 ·rw[lh (show x.l.length<=1 by omega)];exact Nat.zero_le _
attribute [local irreducible] bN aw aa aC bg ab ae
attribute [local irreducible] Js.fE Js.fC eJ
theorem wo {G:Glo}{m:Int}(hU:ab G utfTy)(hE:ab G errTy)(hE2:rJ G)(hP:fW G)(hM:ab G (ct m))(hH:ab G shapesTy)(hS:rI G)(d:Nat)(x:Js)(hd:Js.le d x)(hs:Js.sz d x<=1048576):aj prog G 3 [Js.R d x] (.bool true):=by
 have hf:=vj hd hs;have h0:=JX (G:=G) d x hd hf;have h1:=λht:Js.thin 20 x=>Mr (G:=G) hU hM hH hP d 14 x hd hs ht;have h2:=λht:Js.thin 20 x=>QZ (G:=G) hE hE2 hU hP hM hS d 14 x hd hs ht;have h3:=λht:Js.thin 20 x=>JF (G:=G) x.fC (Rq (w:=14) hd hf ht);have hpl:=JK (G:=G) hE x.fE;have hc1:=call7;have hc2:=call8;unfold Crd.A Js.R at*
 generalize x.fE=e at*
 generalize x.fC=c at*
 refine ao func3 call3 λC hC hGL=> ?_;refine a6 ?_;intros;refine Bv h0 ?_;rintro _ ⟨b,rfl,hb⟩;cases b with
 |true=>exact ba
 |false=>
  have h1:=h1 (hb rfl);have h2:=h2 (hb rfl);have h3:=h3 (hb rfl);cases e<;>simp only[Err.A,Err.e,Err.p,fq,BJ] at h1 h2 hpl
  all_goals exact ba
end
section
open Go.ChangeShapes Go.WideShapes Go.ChangeAt Go.RowKit Go.WideMaps Go.WideElems
theorem OR {H:Type}(d:DataW H):1<=Rows.uptoBulk d:=by
 cases d with
 |lit l=>cases l<;>simp[Rows.uptoBulk]
 |_=>simp[Rows.uptoBulk]
theorem z6 {H:Type}:∀l:List (List UInt8),Rows.uptoBulkAll (H:=H) (l.map λs=>.lit (.string s))=Lib.lens l+l.length
 |[]=>rfl
 |s::r=>by
  have e1:Lib.lens (s::r)=s.length+Lib.lens r:=by simp[Lib.lens]
  have h:=z6 (H:=H) r;simp only[List.map_cons,Rows.uptoBulkAll,Rows.uptoBulk,h,e1,List.length_cons];omega
section
variable {H:Type} {enc:TypeId×Value->H} {W:World}
theorem Mj {m:Nat}{f:Nat->AVal}{a:Addr}{cap:Nat}(hm:m<=cap){V:Nat->Value}(hV:∀i,i<m->W.cell? (a.add i)=some (V i)/\bh (bi W W.heap.size) (f i) [V i]):
  bE (bi W W.heap.size) (.list 1 m f) (.slice (some a) m cap):=by
 refine⟨⟨some a,cap,rfl,hm,?_⟩,rfl⟩;rcases Nat.eq_zero_or_pos m with h0|h0
 ·exact .inl h0
 ·refine .inr ?_;obtain⟨b,o,sp⟩:=a;have h1:=(hV 0 h0).1;rw[show(⟨b,o,sp⟩:Addr).add 0=⟨b,o,sp⟩ from rfl] at h1;unfold World.cell? at h1;dsimp only at h1;cases hW:W.heap[b]? with
  |none=>rw[hW] at h1;cases h1
  |some ob=>
   cases ob with
   |cells C e fz=>
    rw[hW] at h1;cases sp with
    |some s=>simp at h1
    |none=>
     refine⟨b,o,C,e,fz,rfl,?_,λi hi=> ?_⟩
     ·unfold bi;rw[if_pos (Array.getElem?_eq_some_iff.1 hW).1];exact hW
     ·obtain⟨h2,h3⟩:=hV i hi;have ha:(⟨b,o,none⟩:Addr).add i=⟨b,o+i,none⟩:=by
       unfold Addr.add;split
       ·rename_i h;rw[h];rfl
       ·rfl
      rw[ha] at h2;have hci:C[o+i]? =some (V i):=by
       unfold World.cell? at h2;simpa[hW] using h2
      have hlt:o+i<C.toList.length:=by simpa using(Array.getElem?_eq_some_iff.1 hci).1
      have e1:(C.toList.drop (o+i*1)).take 1=[V i]:=by
       rw[Nat.mul_one,List.drop_eq_getElem_cons hlt,List.take_succ_cons,List.take_zero];have:C.toList[o+i]? =some (V i):=by rw[Array.getElem?_toList];exact hci
       rw[List.getElem?_eq_getElem hlt] at this;rw[Option.some.inj this]
      rw[e1];exact h3
   |_=>rw[hW] at h1;cases h1
end
end
section
open Go Go.ChangeShapes Go.WideShapes Go.ChangeAt Go.RowKit Go.WideMaps Go.WideElems
theorem Iw {α:Type}{l:List α}(h:l.length=4):∃a b c d,l=[a,b,c,d]:=by
 match l,h with
 |[a,b,c,d],_=>exact⟨a,b,c,d,rfl⟩
theorem EH (b o n:Nat):(⟨b,o,none⟩:Addr).add n=⟨b,o+n,none⟩:=by
 unfold Addr.add;split
 ·rename_i h;rw[h];rfl
 ·rfl
theorem Kz {W:World}{b o:Nat}{C:Array Value}{e:TypeId}{fz:Nat×Nat}(h:W.heap[b]? =some (.cells C e fz)):W.cell? ⟨b,o,none⟩=C[o]? :=by
 unfold World.cell?;simp[h]
section
variable {H:Type} {enc:TypeId×Value->H} {W:World}
theorem Jw {sz m:Nat}(hz:0<sz){f:Nat->AVal}{a:Addr}{cap:Nat}(hm:m<=cap){cs:Nat->List Value}(hV:∀i,i<m->W.cells? 0 (a.add (i*sz)) sz=some (cs i)/\bh (bi W W.heap.size) (f i) (cs i)):
  bE (bi W W.heap.size) (.list sz m f) (.slice (some a) m cap):=by
 refine⟨⟨some a,cap,rfl,hm,?_⟩,rfl⟩;rcases Nat.eq_zero_or_pos m with h0|h0
 ·exact .inl h0
 ·refine .inr ?_;obtain⟨b,o,sp⟩:=a;obtain⟨_,hl0,hc0⟩:=World.cells?_some (hV 0 h0).1;have h1:=hc0 0 hz;rw[Nat.zero_mul,show(⟨b,o,sp⟩:Addr).add 0=⟨b,o,sp⟩ from rfl,show(⟨b,o,sp⟩:Addr).add 0=⟨b,o,sp⟩ from rfl,List.getElem?_eq_getElem (by omega)] at h1;unfold World.cell? at h1;dsimp only at h1;cases hW:W.heap[b]? with
  |none=>rw[hW] at h1;cases h1
  |some ob=>
   cases ob with
   |cells C e fz=>
    rw[hW] at h1;cases sp with
    |some s=>simp at h1
    |none=>
     refine⟨b,o,C,e,fz,rfl,?_,λi hi=> ?_⟩
     ·unfold bi;rw[if_pos (Array.getElem?_eq_some_iff.1 hW).1];exact hW
     ·obtain⟨h2,h3⟩:=hV i hi;obtain⟨_,hl,hc⟩:=World.cells?_some h2;have e1:(C.toList.drop (o+i*sz)).take sz=cs i:=by
       refine List.ext_getElem? λk=> ?_;by_cases hk:k<sz
       ·have h4:=hc k hk;rw[EH,EH,Kz hW] at h4;rw[<-h4,List.getElem?_take_of_lt hk,List.getElem?_drop,Array.getElem?_toList]
       ·rw[List.getElem?_eq_none (by rw[List.length_take];omega),List.getElem?_eq_none (by omega)]
      rw[e1];exact h3
   |_=>rw[hW] at h1;cases h1
end
end
section
open Go Go.ChangeShapes Go.WideShapes Go.ChangeAt Go.RowKit Go.WideMaps Go.WideElems
instance:Inhabited Js:=⟨Js.z⟩
theorem GX {H:Type}(D:Nat->DataW H)(m:Nat):Rows.uptoBulkAll ((List.range m).map D)=tB m (λi=>Rows.uptoBulk (D i)):=by
 have h:∀l:List Nat,Rows.uptoBulkAll (l.map D)=(l.map λi=>Rows.uptoBulk (D i)).sum:=by
  intro l;induction l with
  |nil=>rfl
  |cons x l ih=>simp only[List.map_cons,Rows.uptoBulkAll,List.sum_cons,ih]
 exact h _
section
variable {H:Type} {enc:TypeId×Value->H} {W:World}
theorem Jv {fuel:Nat}{spare:Nat->Bool}{held:Bool}{v:Value}{x:DataW H×List MemPlace}(h:DataW.trod enc prog W 0 spare held fuel 22 [v]=some x):
  ∃l:List (List UInt8),bE (bi W W.heap.size) (.list 1 l.length (ay l)) v/\l.length+Lib.lens l+1<=Rows.uptoBulk x.1:=by
 rcases Go.Deep.open_strs underlying22 underlying9 (by kernel_rfl) h with⟨hv,rfl⟩|⟨a,len,cap,m,Sx,hv,_,hl,_,hm,rfl,hx⟩
 ·obtain rfl:v= .slice none 0 0:=by simpa using hv
  exact⟨[],⟨⟨none,0,rfl,Nat.le_refl _,.inl rfl⟩,rfl⟩,by simp[Rows.uptoBulk,Lib.lens]⟩
 ·obtain rfl:v= .slice (some a) len cap:=by simpa using hv
  have hlm:len<=m:=by rw[hm];split<;>omega
  let l:List (List UInt8):=(List.range len).map λi=>(Sx i).data.toList
  have hll:l.length=len:=by simp[l]
  have hget:∀i,i<len->l.getD i []=(Sx i).data.toList:=λi hi=>by simp[l,List.getD,hi]
  refine⟨l,?_,?_⟩
  ·rw[hll];refine Mj hl (V:=λi=>.string (Sx i)) (λi hi=>⟨(hx i (by omega)).1,?_⟩);have:=(aI (R:=bi W W.heap.size) (s:=l.getD i []) (v:=.string (Sx i))).2 (by rw[hget i hi,rR]);exact this.1
  ·have e1:((List.range len).map λi=>(DataW.lit (.string (Sx i).data.toList):DataW H))=l.map λs=>.lit (.string s):=by simp[l,List.map_map,Function.comp_def]
   have h1:=z6 (H:=H) l;simp only[Rows.uptoBulk];rw[e1,h1];omega
theorem za:∀(N:Nat) {fuel:Nat} {spare:Nat->Bool} {held:Bool} {cs:List Value} {x:DataW H×List MemPlace},DataW.trod enc prog W 0 spare held fuel 25 cs=some x->Rows.uptoBulk x.1<=N->
  ∃j:Js,bh (bi W W.heap.size) (Js.R N j) cs/\Js.le N j/\Js.sz N j<=Rows.uptoBulk x.1
 |0,fuel,spare,held,cs,x,h,hb=>by have:=OR x.1;omega
 |N+1,fuel,spare,held,cs,x,h,hb=>by
  obtain⟨xs,n,_,hx,hl,hxl,hf⟩:=DataW.trod_struct underlying25 h;have hc:prog.cellsOf 25=4:=by kernel_rfl
  have hci:prog.cellsOf 3=1:=by kernel_rfl
  have hcs:prog.cellsOf 9=1:=by kernel_rfl
  have hck:prog.cellsOf 22=1:=by kernel_rfl
  have hcl:prog.cellsOf 23=1:=by kernel_rfl
  rw[hc] at hl;have hxl:xs.length=4:=hxl;obtain⟨x0,x1,x2,x3,rfl⟩:=Iw hxl;obtain⟨u0,u1,u2,u3,rfl⟩:=Iw hl;have g0:DataW.trod enc prog W 0 spare held n 3 (([u0,u1,u2,u3].drop 0).take (prog.cellsOf 3))=some x0:=hf 0 _ rfl;have g1:DataW.trod enc prog W 0 spare held n 9 (([u0,u1,u2,u3].drop 1).take (prog.cellsOf 9))=some x1:=hf 1 _ rfl;have g2:DataW.trod enc prog W 0 spare held n 22 (([u0,u1,u2,u3].drop 2).take (prog.cellsOf 22))=some x2:=hf 2 _ rfl;have g3:DataW.trod enc prog W 0 spare held n 23 (([u0,u1,u2,u3].drop 3).take (prog.cellsOf 23))=some x3:=hf 3 _ rfl;rw[hci] at g0;rw[hcs] at g1;rw[hck] at g2;rw[hcl] at g3;simp only[List.drop_zero,List.drop_succ_cons,List.take_succ_cons,List.take_zero] at g0 g1 g2 g3;rw[hx] at hb ⊢;simp only[List.map_cons,List.map_nil,Rows.uptoBulk,Rows.uptoBulkAll] at hb ⊢;obtain⟨n0,q0,_,_⟩:=DataW.trod_int underlying3 g0;obtain⟨s1,q1,e1,_⟩:=DataW.trod_string underlying9 g1;obtain⟨ks,r2,h2⟩:=Jv g2;rw[e1] at hb ⊢;simp only[Rows.uptoBulk] at hb ⊢;obtain rfl:=List.singleton_inj.1 q0;obtain rfl:=List.singleton_inj.1 q1;rcases Go.Deep.open_slice underlying23 g3 with⟨hv,rfl⟩|⟨a,len,cap,m,n',D,Pl,hv,_,hlc,_,hm,rfl,hx3⟩
  ·obtain rfl:u3= .slice none 0 0:=by simpa using hv
   refine⟨.mk n0 s1.data.toList ks [],?_,λi hi=>absurd hi (Nat.not_lt_zero _),?_⟩
   ·exact⟨_,_,rfl,rfl,_,_,rfl,by(show bh _ (.str s1.data.toList) _);rw[bh,rR],_,_,rfl,bA r2 rfl,_,_,rfl,⟨none,0,rfl,Nat.le_refl _,.inl rfl⟩,rfl⟩
   ·rw[qi];show s1.data.toList.length+ks.length+Lib.lens ks+1+0<=_;omega
  ·obtain rfl:u3= .slice (some a) len cap:=by simpa using hv
   rw[hc] at hx3;have hlm:len<=m:=by rw[hm];split<;>omega
   simp only[Rows.uptoBulk,GX] at hb ⊢;have hD:∀i,i<len->Rows.uptoBulk (D i)<=N:=λi hi=>by
    have:=Hq (g:=λi=>Rows.uptoBulk (D i)) hi;omega
   obtain⟨Cx,hCx⟩:=Go.Deep.choose_lt (α:=List Value) (n:=len) (p:=λi cs=>W.cells? 0 (a.add (i*4)) 4=some cs/\DataW.trod enc prog W 0 spare held n' 25 cs=some (D i,Pl i)) (λi hi=>hx3 i (by omega));obtain⟨Lx,hLx⟩:=Go.Deep.choose_lt (α:=Js) (n:=len) (p:=λi q=>bh (bi W W.heap.size) (Js.R N q) (Cx i)/\Js.le N q/\Js.sz N q<=Rows.uptoBulk (D i)) (λi hi=>za N (hCx i hi).2 (hD i hi))
   let L:List Js:=(List.range len).map Lx
   have hll:L.length=len:=by simp[L]
   have hget:∀i,i<len->aA L i=Lx i:=λi hi=>by simp[L,List.getD,hi]
   have r3:bE (bi W W.heap.size) (.list 4 L.length (kR (N+1) L)) (.slice (some a) len cap):=by
    rw[hll];refine Jw (by decide) hlc (cs:=Cx) (λi hi=>⟨(hCx i hi).1,?_⟩);rw[Gb,hget i hi];exact(hLx i hi).1
   refine⟨.mk n0 s1.data.toList ks L,?_,?_,?_⟩
   ·exact⟨_,_,rfl,rfl,_,_,rfl,by(show bh _ (.str s1.data.toList) _);rw[bh,rR],_,_,rfl,bA r2 rfl,_,_,rfl,bA r3 rfl,rfl⟩
   ·intro i hi;have hi:i<L.length:=hi;show Js.le N (aA L i);rw[hget i (by omega)];exact(hLx i (by omega)).2.1
   ·rw[qi];show s1.data.toList.length+ks.length+Lib.lens ks+1+tB L.length (λi=>Js.sz N (aA L i))<=_;rw[hll];have h4:tB len (λi=>Js.sz N (aA L i))<=tB len (λi=>Rows.uptoBulk (D i)):=Hp λi hi=>by rw[hget i hi];exact(hLx i hi).2.2
    omega
end
end
section
open Go Go.ChangeShapes Go.WideShapes
theorem xz {W:World}{a:Addr}{v:Value}(h:W.cell? a=some v):∃b o C e fz,a=⟨b,o,none⟩/\W.heap[b]? =some (.cells C e fz):=by
 obtain⟨b,o,sp⟩:=a;unfold World.cell? at h;dsimp only at h;cases hW:W.heap[b]? with
 |none=>rw[hW] at h;cases h
 |some ob=>
  cases ob with
  |cells C e fz=>
   rw[hW] at h;cases sp with
   |some s=>simp at h
   |none=>exact⟨b,o,C,e,fz,rfl,hW⟩
  |_=>rw[hW] at h;cases h
theorem EI (b o i:Nat):(⟨b,o,none⟩:Addr).add i=⟨b,o+i,none⟩:=by
 unfold Addr.add;split
 ·rename_i h;rw[h];rfl
 ·rfl
theorem RI {W:World}{b o:Nat}{C:Array Value}{e:TypeId}{fz:Nat×Nat}(hW:W.heap[b]? =some (.cells C e fz)):W.cell? ⟨b,o,none⟩=C.toList[o]? :=by
 unfold World.cell?;simp[hW]
theorem GS {W:World}{base b o n:Nat}{C:Array Value}{e:TypeId}{fz:Nat×Nat}(hW:W.heap[b]? =some (.cells C e fz)){cs:List Value}(h:W.cells? base ⟨b,o,none⟩ n=some cs):(C.toList.drop o).take n=cs:=by
 obtain⟨_,hl,hi⟩:=World.cells?_some h;have hx:∀i,i<n->C.toList[o+i]? =cs[i]? :=λi k=>by
  have:=hi i k;rwa [EI,RI hW] at this
 apply List.ext_getElem?;intro i;by_cases k:i<n
 ·rw[List.getElem?_take_of_lt k,List.getElem?_drop,hx i k]
 ·rw[List.getElem?_eq_none (by rw[List.length_take];omega),List.getElem?_eq_none (by omega)]
theorem CX {R:Seal}{x y z:List UInt8}{cs:List Value}{s0 s1 s2:ByteArray}(h:cs=[.string s0,.string s1,.string s2])(h0:s0.data.toList=x)(h1:s1.data.toList=y)(h2:s2.data.toList=z):bh R (.agg [.str x,.str y,.str z]) cs:=by
 subst h h0 h1 h2;exact⟨_,_,rfl,by rw[bh,rR],_,_,rfl,by rw[bh,rR],_,_,rfl,by rw[bh,rR],rfl⟩
theorem LK {α:Type}{l:List α}(h:l.length=3):∃a b c,l=[a,b,c]:=by
 match l,h with
 |[a,b,c],_=>exact⟨a,b,c,rfl⟩
def vC {H:Type}(i:Nat):DataW H:=.agg [.lit (.string (iY i)),.lit (.string (aU i)),.lit (.string (aT i))]
theorem CB {W:World}{laid:List (String×DataW Unit)}(hL:laidMetH prog laid W)(hm:("visitingcard/visitingcardref.shapes",Rows.laid_visitingcard_visitingcardref_shapes)∈laid):dz (bi W W.heap.size) 1 0 [.list 3 7 jE]:=by
 obtain⟨C0,e0,fz0,fuel,p,hW0,hd⟩:=mD hL hm (by kernel_rfl) (g:=1) (t:=193) (by kernel_rfl) (by kernel_rfl)
 rcases Go.Deep.open_slice underlying193 hd with⟨_,hx⟩|⟨a,len,cap,m,n,D,Pl,hv,_,hl,_,hm2,hx,hi⟩
 ·cases hx
 have e1:(List.range 7).map (fun i=>(vC i:DataW Unit))=(List.range len).map D:=by
  have:=(DataW.slice.inj (Prod.mk.inj hx).1).1
  rw[←this]
  rfl
 have hlen:len=7:=by
  have:=congrArg List.length e1
  simpa using this.symm
 subst hlen
 have hD:∀i,i<7→D i=vC i:=fun i k=>by
  have h1:((List.range 7).map D)[i]? =some (D i):=by simp[k]
  have h2:((List.range 7).map (fun i=>(vC i:DataW Unit)))[i]? =some (vC i):=by simp[k]
  rw[e1,h1] at h2
  exact Option.some.inj h2
 have hm7:7≤m:=by rw[hm2];split<;>omega
 have hc3:prog.cellsOf 194=3:=by kernel_rfl
 have hc1:prog.cellsOf 9=1:=by kernel_rfl
 rw[hc3] at hi
 obtain⟨c0,hc0,_⟩:=hi 0 (by omega)
 have hcell:∃v,W.cell? a=some v:=by
  obtain⟨_,h1,h2⟩:=World.cells?_some hc0
  have h3:=h2 0 (by decide)
  rw[Nat.zero_mul,show(a.add 0).add 0=a from rfl,List.getElem?_eq_getElem (by omega)] at h3
  exact⟨_,h3⟩
 obtain⟨v,hv0⟩:=hcell
 obtain⟨b,o,C,e,fz,rfl,hWb⟩:=xz hv0
 refine gV (nW hW0) hW0 ?_
 rw[hv]
 refine⟨_,_,rfl,⟨some ⟨b,o,none⟩,cap,rfl,hl,.inr ⟨b,o,C,e,fz,rfl,?_,fun i k=> ?_⟩⟩,rfl⟩
 ·unfold bi
  rw[if_pos (nW hWb)]
  exact hWb
 ·obtain⟨cs,h1,h2⟩:=hi i (by omega)
  rw[EI] at h1
  have h3:=GS hWb h1
  rw[h3]
  rw[hD i k] at h2
  obtain⟨y0,y1,y2,n2,hy,hcl,g0,g1,g2⟩:=Go.Deep.trod_struct3 underlying194 h2
  rw[hc3] at hcl
  obtain⟨s0,q0,r0,_⟩:=DataW.trod_string underlying9 g0
  obtain⟨s1,q1,r1,_⟩:=DataW.trod_string underlying9 g1
  obtain⟨s2,q2,r2,_⟩:=DataW.trod_string underlying9 g2
  have hy1:=(Prod.mk.inj hy).1
  rw[r0,r1,r2] at hy1
  unfold vC at hy1
  simp only[DataW.agg.injEq,List.cons.injEq,DataW.lit.injEq,Lit.string.injEq,and_true] at hy1
  refine CX (s0:=s0) (s1:=s1) (s2:=s2) ?_ hy1.1.symm hy1.2.1.symm hy1.2.2.symm
  obtain⟨u0,u1,u2,rfl⟩:=LK hcl
  have q0:([u0,u1,u2].drop 0).take (prog.cellsOf 9)=[.string s0]:=q0
  have q1:([u0,u1,u2].drop 1).take (prog.cellsOf 9)=[.string s1]:=q1
  have q2:([u0,u1,u2].drop 2).take (prog.cellsOf 9)=[.string s2]:=q2
  rw[hc1] at q0 q1 q2
  simp at q0 q1 q2
  rw[q0,q1,q2]
theorem RH {W:World}{g:Nat}{v:Value}(h:W.cell? ⟨g,0,none⟩=some v):g<W.heap.size:=by
 obtain⟨b,o,C,e,fz,ha,hW⟩:=xz h;cases ha;exact nW hW
end
section
open Go Go.ChangeShapes Go.WideShapes
def Sw:Glo:=⟨λR=>∃e fz,R 2=some (.cells (Lib.asciiSpaceTab.map λz=>Value.int .u8 z).toArray e fz),λ_ _ hle ⟨e,fz,h⟩=>⟨e,fz,hle _ _ h⟩⟩
theorem P3 {W:World}{k:Nat}(hk:2<k){laid:List (String×DataW Unit)}(hL:laidMetH prog laid W)(hm:("strings.asciiSpace",Rows.laid_strings_asciiSpace)∈laid):Sw.p (bi W k):=by
 obtain⟨C,e,fz,fuel,p,hW,hd⟩:=mD hL hm (by kernel_rfl) (g:=2) (t:=205) (by kernel_rfl) (by kernel_rfl)
 have e0:(Rows.laid_strings_asciiSpace:DataW Unit)= .agg (((List.range 256).map fun i=>if Lib.isSp (UInt8.ofNat i) then 1 else 0).map fun x:Nat=>.lit (.int .u8 (x:Int))):=by kernel_rfl
 rw[e0] at hd
 have hc:=rN (n:=256) underlying205 underlying5 (by kernel_rfl) (by kernel_rfl) hd (by rw[List.length_map,List.length_range])
 have e1:C=(Lib.asciiSpaceTab.map fun z=>Value.int .u8 z).toArray:=by
  apply Array.ext'
  rw[hc]
  kernel_rfl
 refine⟨e,fz,?_⟩
 unfold bi
 rw[if_pos hk,hW,e1]
end
section
open Go Go.ChangeShapes Go.WideShapes Go.ChangeAt Go.RowKit Go.WideMaps Go.WideElems
theorem LI {H:Type}{enc:TypeId×Value->H}{P:Program}{W:World}{base:Nat}{spare:Nat->Bool}{fuel:Nat}{t:TypeId}{ms:Array (String×TypeId)}{cs:List Value}{nm:String}{x:DataW H}{p:List MemPlace}(ht:P.underlying t=some (.interface ms))(h:DataW.trod enc P W base spare false fuel t cs=some (.iface nm x,p)):∃u v,cs=[.iface u v]:=by
 cases fuel with
 |zero=>simp[DataW.trod] at h
 |succ n=>
  rcases cs with _|⟨c,_|⟨c2,r⟩⟩
  ·simp[DataW.trod,ht] at h
  ·cases c with
   |iface u v=>exact⟨_,_,rfl⟩
   |_=>simp[DataW.trod,ht] at h
  ·simp[DataW.trod,ht] at h
theorem Ec {W:World}{laid:List (String×DataW Unit)}(hL:laidMetH prog laid W){n nm:String}{x:DataW Unit}(hm:(n,.iface nm x)∈laid)(hn:(DataW.iface nm x).handleName?.isNone=true){g:Nat}(hg:prog.globalNamed n=some g)(ht:(prog.globals[g]?).map (·.type)=some 36):Aj g (bi W W.heap.size):=by
 obtain⟨C,e,fz,fuel,p,hW,hd⟩:=mD hL hm hn hg ht;obtain⟨u,v,h⟩:=LI underlying36 hd;refine⟨u,v,e,fz,?_⟩;unfold bi;rw[if_pos (nW hW),hW];obtain⟨l⟩:=C;obtain rfl:=h;rfl
def Re:Glo:=⟨λR=>Aj 8 R/\Aj 9 R,λ_ _ hle ⟨⟨t,v,e,fz,h⟩,⟨t2,v2,e2,fz2,h2⟩⟩=>⟨⟨t,v,e,fz,hle _ _ h⟩,⟨t2,v2,e2,fz2,hle _ _ h2⟩⟩⟩
noncomputable def tg (m:Int):Glo:=Bh (Sy (utfTy++errTy++ct m++shapesTy)) (Bh NU (Bh Re Sw))
theorem UD {m:Int}:ab (tg m) utfTy:=qT (oy λx h=>List.mem_append_left _ (List.mem_append_left _ (List.mem_append_left _ h)))
theorem UH {m:Int}:ab (tg m) errTy:=qT (oy λx h=>List.mem_append_left _ (List.mem_append_left _ (List.mem_append_right _ h)))
theorem UG {m:Int}:ab (tg m) (ct m):=qT (oy λx h=>List.mem_append_left _ (List.mem_append_right _ h))
theorem UE {m:Int}:ab (tg m) shapesTy:=qT (oy λx h=>List.mem_append_right _ h)
theorem UF {m:Int}:fW (tg m):=λ_ h=>h.2.1
theorem RE {m:Int}:rJ (tg m):=λ_ h=>h.2.2.1
theorem Wq {m:Int}:rI (tg m):=λ_ h=>h.2.2.2
theorem T9 {W:World}{m:Int}(hm:W.cell? ⟨3,0,none⟩=some (.int .i64 m)){laid:List (String×DataW Unit)}(h0:("unicode/utf8.first",Rows.laid_unicode_utf8_first)∈laid)(h4:("unicode/utf8.acceptRanges",Rows.laid_unicode_utf8_acceptRanges)∈laid)(h1:("errors.errorType",Rows.laid_errors_errorType)∈laid)
  (h3:("visitingcard/visitingcardref.shapes",Rows.laid_visitingcard_visitingcardref_shapes)∈laid) (h2:("strings.asciiSpace",Rows.laid_strings_asciiSpace)∈laid) (h5:("internal/strconv.uint64pow10",Rows.laid_internal_strconv_uint64pow10)∈laid) (h6:("strconv.ErrSyntax",Rows.laid_strconv_ErrSyntax)∈laid) (h7:("strconv.ErrRange",Rows.laid_strconv_ErrRange)∈laid) (hL:laidMetH prog laid W):(tg m).p (bi W W.heap.size):=by
 refine⟨fun x hx=> ?_,Mz (uA hL h5 (by kernel_rfl) (g:=10) (t:=369) (by kernel_rfl) (by kernel_rfl)) hL h5,⟨Ec hL h6 (by kernel_rfl) (by kernel_rfl) (by kernel_rfl),Ec hL h7 (by kernel_rfl) (by kernel_rfl) (by kernel_rfl)⟩,P3 (uA hL h2 (by kernel_rfl) (g:=2) (t:=205) (by kernel_rfl) (by kernel_rfl)) hL h2⟩
 simp only[List.cons_append,List.nil_append,List.mem_cons,List.not_mem_nil,or_false] at hx
 rcases hx with rfl|rfl|rfl|rfl|hx
 ·exact GA (uA hL h0 (by kernel_rfl) (g:=5) (t:=205) (by kernel_rfl) (by kernel_rfl)) hL h0
 ·exact EJ (uA hL h4 (by kernel_rfl) (g:=6) (t:=280) (by kernel_rfl) (by kernel_rfl)) hL h4
 ·exact GG (Ur hL h1) hL h1
 ·exact FX (RH hm) hm
 ·obtain rfl:=List.mem_singleton.1 (show x∈[(1,[AVal.list 3 7 jE])] from hx)
  exact CB hL h3
end
end Go.Proofs.YtpgdnpielhfpgaaGreatDoor
