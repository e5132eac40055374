/- Parts of the proof of jcardTells_card: Cro, Crs, Jtd, Crq, Crv, Cre. -/
import Derived.Test.YtdpbejofgemloaaGreatDoorBao
import Derived.Test.YtdpbejofgemloaaGreatDoorBaj
import Derived.Test.YtdpbejofgemloaaGreatDoorBak
import Derived.Test.YtdpbejofgemloaaGreatDoorBah
set_option linter.unusedVariables false
set_option linter.unusedSimpArgs false
set_option linter.unusedSectionVars false
namespace Go.Proofs.YtdpbejofgemloaaGreatDoor
set_option maxRecDepth 20000
set_option maxHeartbeats 4000000
section
open Go Go.RowKit
attribute [local irreducible] AWp AOps aa aA OrOk ad ah
attribute [local irreducible] aj a7 Pr.fit Ln.E Ln.T Vl.E Vl.T eX bf cntI
theorem uT {G:Glo}(s:List UInt8)(hs:s.length≤1000000):FnIs Tryz.prog G 87 [.str s] (.bool (frB s)):=by
 have h1:=dN (G:=G) s (by omega)
 unfold frB
 generalize aj 97 122 (-32) s=u at*
 have hGL:ad G []:=ab
 refine fn_x Tryz.func87 Tryz.call87 rfl rfl rfl rfl hGL ?_
 intro C hC
 refine xw ?_
 repeat' (first|exact Le.n|refine Lc.mk ?_ ?_)
 all_goals intros
 all_goals
  apply ak
  refine congrArg AVal.bool ?_
  rw[Bool.eq_iff_iff]
  simp only[Bool.or_eq_true,aY]
  simp[*]
theorem sK {G:Glo}{m:Int}(hE:ad G errTy)(hM:ad G (bW m))(x:Vl)(hs:x.s.length≤2500)(hL:Small x.L)(hv:x.OK):FnIs Tryz.prog G 31 [x.A] (.tuple [.str x.T,x.E.A]):=
 sI x (ml hE hM x hv) (mn x.s (by omega) (jt _)) (nB x.L hL) (vw hM x.st)
theorem Am {G:Glo}{m:Int}(hE:ad G errTy)(hM:ad G (bW m))(v:Int)(x:Itm)(hx:x.OK 2500):FnIs Tryz.prog G 90 [itR x,.int .i64 v] (.tuple [x.ln.A,x.2.E.A]):=by
 have h1:=sK hE hM x.2 hx.s hx.L hx.v
 generalize x.2.E=e at*
 unfold Vl.A at h1
 rcases e with _|e|⟨e,p⟩
 ·simp only[Err.A] at h1 ⊢
  have hGL:ad G []:=ab
  refine fn_x Tryz.func90 Tryz.call90 rfl rfl rfl rfl hGL ?_
  intro C hC
  exact xw0
 ·simp only[Err.A,errA] at h1 ⊢
  have hGL:ad G []:=ab
  refine fn_x Tryz.func90 Tryz.call90 rfl rfl rfl rfl hGL ?_
  intro C hC
  exact xw0
 ·simp only[Err.A,atA] at h1 ⊢
  have hGL:ad G []:=ab
  refine fn_x Tryz.func90 Tryz.call90 rfl rfl rfl rfl hGL ?_
  intro C hC
  exact xw0
theorem CS {G:Glo}{m:Int}(hE:ad G errTy)(hE2:lz G)(hP:cQ G)(hM:ad G (bW m))(hS:SpIs G)(v:Int)(hv:v=3∨v=4)(x:Itm)(hx:x.OK 2500):FnIs Tryz.prog G 47 [itR x,.int .i64 v] (.int .i64 (x.w v)):=by
 have q1:=Tryz.call86
 have q2:=Tryz.call85
 have q3:=Tryz.call91
 have hc:=uU (G:=G) v
 have h1:=oh (G:=G) x.p (eqB v 4) hx.p.fit
 have h4:=o5 (G:=G) hE (x.p.E (eqB v 4))
 have hn:x.1.n.length≤2500:=hx.p.n
 have hps:x.1.ps.length≤2500:=hx.p.ps
 have hq:∀k,(x.1.ps.getD k Pr.z).n.length≤2500∧(x.1.ps.getD k Pr.z).vs.length≤2500∧Lib.lens (x.1.ps.getD k Pr.z).vs≤2500:=hx.p.q
 have hvl:∀k j,((x.1.ps.getD k Pr.z).vs.getD j []).length≤2500:=fun k j=>by
  have:=cL (l:=(x.1.ps.getD k Pr.z).vs) (k:=j);have:=(hq k).2.2;omega
 have hF:=uT (G:=G) x.1.n (by omega)
 have hve:verE v= .none:=by unfold verE;rw[if_pos hv]
 have hT:=vS (G:=G) hS v x.1.n x.1.ps (by omega) (by omega) (fun k=>by have:=(hq k).1;omega) (fun k=>⟨by have:=(hq k).2.1;omega,by have:=hvl k 0;omega⟩)
 have hV:=ml hE hM x.2 hx.v
 have h5:=o5 (G:=G) hE x.2.E
 have hR:=kG (G:=G) hS v x.1.n (by omega)
 have hpr:=Am (G:=G) hE hM v x hx
 have hLP:=wu (G:=G) x.ln (eqB v 4) (Itm.fit hx)
 have hw:∀(_:x.p.E (eqB v 4)= .none) (_:frB x.1.n=false),(parE x.1.ps≠0→x.w v=parE x.1.ps)∧(parE x.1.ps=0→(x.k v≠x.2.t→x.w v=1)∧(x.k v=x.2.t→(x.2.E≠ .none→x.w v=x.2.E.e)∧(x.2.E= .none→x.w v=x.r v))):=fun a b=>⟨ES a b,fun c=>⟨ET a b c,fun d=>⟨ER a b c d,w_r a b c d⟩⟩⟩
 have hwl:=fun a=>w_ln (v:=v) (x:=x) a
 have hwf:=fun a b=>w_fr (v:=v) (x:=x) a b
 have hln:x.2.E= .none→x.p.E (eqB v 4)= .none→x.ln.E (eqB v 4)= .none:=fun _ b=>Ln.E_v (p:=x.ln) b (Vl.T_hd _)
 rw[hve] at hT hR
 generalize x.w v=W at*
 unfold Itm.r Itm.L at hw
 unfold Itm.k at hw
 obtain⟨⟨g,n,ps,vv⟩,u⟩:=x
 unfold itR at hpr ⊢
 unfold Vl.A at hV
 unfold Itm.p at h1 h4 hw hwl hwf hln
 unfold Itm.ln at hpr hLP hln hw
 dsimp only at*
 generalize Ln.E (eqB v 4) ⟨g,n,ps,u.T⟩=eL at*
 generalize Ln.T (eqB v 4) ⟨g,n,ps,u.T⟩=tL at*
 generalize eX v n ps=K at*
 generalize bf v n=r at*
 unfold Rl.A at hR
 obtain⟨r0,r1,r2,r3⟩:=r
 dsimp only at*
 generalize u.E=eV at*
 generalize u.T=tV at*
 generalize hE0:Ln.E (eqB v 4) ⟨g,n,ps,[]⟩=e0 at*
 rcases e0 with _|e|⟨e,p⟩
 ·simp only[Err.A] at h1
  cases hfr:frB n with
  |true=>
   rw[hwf rfl hfr]
   rw[hfr] at hF
   have hGL:ad G []:=ab
   refine fn_x Tryz.func47 Tryz.call47 rfl rfl rfl rfl hGL ?_
   intro C hC
   exact xw0
  |false=>
   rw[hfr] at hF
   have hw:=hw rfl hfr
   have hGL:ad G []:=ab
   refine fn_x Tryz.func47 Tryz.call47 rfl rfl rfl rfl hGL ?_
   intro C hC
   refine xw1 ?_
   intros
   refine lp hC hGL (fun k:Nat=>[(1,.int .i64 v),(2,.rop (bh (⟨g,n,ps,vv⟩,u)) 0),(35,.list 2 ps.length (prF ps)),(36,.int .i64 (ps.length:Nat)),(37,.int .i64 (k:Nat))]) (fun _=>[]) (fun k=>k≤ps.length∧∀j,j<k→pE ps j=0) (fun k=>ps.length-k) 0 ⟨Nat.zero_le _,fun j h=>absurd h (Nat.not_lt_zero _)⟩ ae rfl ?_
   rintro k ⟨k1,k2⟩
   by_cases hk:k<ps.length
   ·have hqk:=hq k
    have hfi:=vU hE2 hP hM (ps.getD k Pr.z) (by omega) (by omega) (fun j=>by have:=hvl k j;omega)
    have hsa:=jb (G:=G) (ps.getD k Pr.z).n nTYP (by omega) (by decide)
    rw[show aj 97 122 (-32) nTYP=nTYP by decide+kernel] at hsa
    have hfd:=gE (G:=G) ps (ps.getD k Pr.z).n (by omega) (fun k=>by have:=(hq k).1;omega) (by omega)
    cases hf:(ps.getD k Pr.z).fit with
    |false=>
     rw[hf] at hfi
     have e:=pE_3 hf
     rw[hw.1 (by rw[fx hk k2 (by rw[e];decide),e];decide),fx hk k2 (by rw[e];decide),e]
     exact xw0
    |true=>
     rw[hf] at hfi
     cases hty:seqB (aj 97 122 (-32) (ps.getD k Pr.z).n) nTYP with
     |true=>
      rw[hty] at hsa
      have e:=pE_0 hf (fun h=>h.1 (aY.1 hty))
      refine xw1 ?_
      intros
      exact nxs (k+1) ⟨by omega,aQ k2 e⟩ (by omega) ae aB
     |false=>
      rw[hty] at hsa
      by_cases hd:a7 (ps.getD k Pr.z).n ps 0<(k:Int)
      ·have e:=pE_9 hf (ip.1 hty) hd
       rw[hw.1 (by rw[fx hk k2 (by rw[e];decide),e];decide),fx hk k2 (by rw[e];decide),e]
       exact xw0
      ·have e:=pE_0 hf (fun h=>hd h.2)
       refine xw1 ?_
       intros
       exact nxs (k+1) ⟨by omega,aQ k2 e⟩ (by omega) ae aB
   ·have hw:=hw.2 (BE (by omega) k2)
    by_cases hK:K=u.t
    ·have hw:=hw.2 hK
     rcases eV with _|e|⟨e,p⟩
     ·have hw:=hw.2 rfl
      have hln:=hln rfl rfl
      subst hln
      simp only[Err.A] at hV hpr hLP
      subst hw
      obtain rfl:=hK
      by_cases ha:u.t=3∧0<r3∧r3≠(u.L.length:Int)
      ·rw[if_pos ha]
       obtain⟨a1,a2,a3⟩:=ha
       have a4:(u.L.length:Int)≠r3:=fun h=>a3 h.symm
       exact xw0
      ·rw[if_neg ha]
       by_cases a1:u.t=3
       ·by_cases a2:0<r3
        ·have a3:(u.L.length:Int)=r3:=by
          apply Classical.byContradiction
          intro h
          exact ha ⟨a1,a2,fun k=>h k.symm⟩
         by_cases hl:1500<tL.length
         ·rw[if_pos hl]
          refine xn1 ?_
          intros
          rename_i b11 b13 _ _ _ _ _
          refine ig (bn (i:=1) (k:=13) rfl rfl) ?_
          refine dw_p mixed hC hGL false (fun _:Unit=>[(15,.str tL)]) (fun _=>[.cells b11 (some 82) [.int .i64 r0,.int .i64 r1,.int .i64 r2,.int .i64 r3],ck]) (.take 0 (.take 1 (.br 2 (.br 3 (.take 4 (.take 5 (.take 6 (.take 7 (.take 8 (.done)))))) (.nil)) (.nil)))) (by kernel_rfl) ?_ ?_
          ·refine xn ?_
           repeat' (first|exact Le.n|refine Lc.mk ?_ ?_)
           all_goals intros
           all_goals exact⟨(),ae,rfl⟩
          intro _
          exact xw0
         ·rw[if_neg hl]
          refine xn1 ?_
          intros
          rename_i b11 b13 _ _ _ _ _
          refine ig (bn (i:=1) (k:=13) rfl rfl) ?_
          refine dw_p mixed hC hGL false (fun _:Unit=>[(15,.str tL)]) (fun _=>[.cells b11 (some 82) [.int .i64 r0,.int .i64 r1,.int .i64 r2,.int .i64 r3],ck]) (.take 0 (.take 1 (.br 2 (.br 3 (.take 4 (.take 5 (.take 6 (.take 7 (.take 8 (.done)))))) (.nil)) (.nil)))) (by kernel_rfl) ?_ ?_
          ·refine xn ?_
           repeat' (first|exact Le.n|refine Lc.mk ?_ ?_)
           all_goals intros
           all_goals exact⟨(),ae,rfl⟩
          intro _
          exact xw0
        ·have a2':¬0<r3:=a2
         by_cases hl:1500<tL.length
         ·rw[if_pos hl]
          refine xn1 ?_
          intros
          rename_i b11 b13 _ _ _ _
          refine ig (bn (i:=1) (k:=13) rfl rfl) ?_
          refine dw_p mixed hC hGL false (fun _:Unit=>[(15,.str tL)]) (fun _=>[.cells b11 (some 82) [.int .i64 r0,.int .i64 r1,.int .i64 r2,.int .i64 r3],ck]) (.take 0 (.take 1 (.br 2 (.br 3 (.take 4 (.take 5 (.take 6 (.take 7 (.take 8 (.done)))))) (.nil)) (.nil)))) (by kernel_rfl) ?_ ?_
          ·refine xn ?_
           repeat' (first|exact Le.n|refine Lc.mk ?_ ?_)
           all_goals intros
           all_goals exact⟨(),ae,rfl⟩
          intro _
          exact xw0
         ·rw[if_neg hl]
          refine xn1 ?_
          intros
          rename_i b11 b13 _ _ _ _
          refine ig (bn (i:=1) (k:=13) rfl rfl) ?_
          refine dw_p mixed hC hGL false (fun _:Unit=>[(15,.str tL)]) (fun _=>[.cells b11 (some 82) [.int .i64 r0,.int .i64 r1,.int .i64 r2,.int .i64 r3],ck]) (.take 0 (.take 1 (.br 2 (.br 3 (.take 4 (.take 5 (.take 6 (.take 7 (.take 8 (.done)))))) (.nil)) (.nil)))) (by kernel_rfl) ?_ ?_
          ·refine xn ?_
           repeat' (first|exact Le.n|refine Lc.mk ?_ ?_)
           all_goals intros
           all_goals exact⟨(),ae,rfl⟩
          intro _
          exact xw0
       ·by_cases hl:1500<tL.length
        ·rw[if_pos hl]
         refine xn1 ?_
         intros
         rename_i b11 b13 _ _ _
         refine ig (bn (i:=1) (k:=13) rfl rfl) ?_
         refine dw_p mixed hC hGL false (fun _:Unit=>[(15,.str tL)]) (fun _=>[.cells b11 (some 82) [.int .i64 r0,.int .i64 r1,.int .i64 r2,.int .i64 r3],ck]) (.take 0 (.take 1 (.br 2 (.br 3 (.take 4 (.take 5 (.take 6 (.take 7 (.take 8 (.done)))))) (.nil)) (.nil)))) (by kernel_rfl) ?_ ?_
         ·refine xn ?_
          repeat' (first|exact Le.n|refine Lc.mk ?_ ?_)
          all_goals intros
          all_goals exact⟨(),ae,rfl⟩
         intro _
         exact xw0
        ·rw[if_neg hl]
         refine xn1 ?_
         intros
         rename_i b11 b13 _ _ _
         refine ig (bn (i:=1) (k:=13) rfl rfl) ?_
         refine dw_p mixed hC hGL false (fun _:Unit=>[(15,.str tL)]) (fun _=>[.cells b11 (some 82) [.int .i64 r0,.int .i64 r1,.int .i64 r2,.int .i64 r3],ck]) (.take 0 (.take 1 (.br 2 (.br 3 (.take 4 (.take 5 (.take 6 (.take 7 (.take 8 (.done)))))) (.nil)) (.nil)))) (by kernel_rfl) ?_ ?_
         ·refine xn ?_
          repeat' (first|exact Le.n|refine Lc.mk ?_ ?_)
          all_goals intros
          all_goals exact⟨(),ae,rfl⟩
         intro _
         exact xw0
     ·rw[hw.1 (fun h=>by cases h)]
      simp only[Err.A,Err.e,errA] at hV h5 ⊢
      exact xw0
     ·rw[hw.1 (fun h=>by cases h)]
      simp only[Err.A,Err.e,atA] at hV h5 ⊢
      exact xw0
    ·rw[hw.1 hK]
     exact xw0
 ·rw[hwl (fun h=>by cases h)]
  simp only[Err.A,Err.e,errA] at h1 h4 ⊢
  have hGL:ad G []:=ab
  refine fn_x Tryz.func47 Tryz.call47 rfl rfl rfl rfl hGL ?_
  intro C hC
  exact xw0
 ·rw[hwl (fun h=>by cases h)]
  simp only[Err.A,Err.e,atA] at h1 h4 ⊢
  have hGL:ad G []:=ab
  refine fn_x Tryz.func47 Tryz.call47 rfl rfl rfl rfl hGL ?_
  intro C hC
  refine xn1 ?_
  intros
  refine dw_p mixed hC hGL false (fun _:Unit=>[(5,atA e p)]) (fun _=>[]) (.take 0 (.take 1 (.take 2 (.take 3 (.take 4 (.take 5 (.take 6 (.take 7 (.br 8 (.br 9 (.take 10 (.done)) (.nil)) (.nil)))))))))) (by kernel_rfl) ?_ ?_
  ·refine xn ?_
   repeat' (first|exact Le.n|refine Lc.mk ?_ ?_)
   all_goals intros
   all_goals exact⟨(),ae,rfl⟩
  intro _
  exact xw0
end
section
open Go Go.RowKit
theorem fc (s:List UInt8){z:Nat→Prop}{f:AVal×AVal→List (AVal×AVal)→(Nat→Prop)→Nat→Prop}{L:List (List UInt8×Int)}(h:f (.str s,.int .i64 (numL s L)) [] (fun _=>True) 0)
  (hf:∀t n r ih i,(seqB s t=true→f (.str s,.int .i64 n) [] (fun _=>True) 0)→(seqB s t=false→ih (i+1))→f (.str t,.int .i64 n) r ih i:=by exact fun _ _ _ _ _ h1 h2=>(⟨fun e=>(h1 e).1 (aY.2 rfl),h2⟩:Sc _ _ _))
  (hz:f (.str s,.int .i64 0) [] (fun _=>True) 0→∀i,z i:=by exact fun h _=>h.1 (aY.2 rfl)):List.rec (motive:=fun _=>Nat→Prop) z f (mapE L) 0:=by
 have h1:∀(L:List (List UInt8×Int)) (i:Nat),(match bP s L i with|some (_,n)=>f (.str s,.int .i64 n) [] (fun _=>True) 0|none=>∀i,z i)→List.rec (motive:=fun _=>Nat→Prop) z f (mapE L) i:=by
  intro L
  induction L with
  |nil=>exact fun i h=>h i
  |cons x L ih=>
   intro i h
   refine hf x.1 x.2 (mapE L) _ i (fun e=> ?_) (fun e=> ?_)
   ·simp only[bP,e,if_true] at h
    exact h
   ·simp only[bP,e,Bool.false_eq_true,if_false] at h
    exact ih (i+1) h
 refine h1 L 0 ?_
 unfold numL at h
 cases hl:bP s L 0 with
 |none=>rw[hl] at h;exact hz h
 |some y=>rw[hl] at h;exact h
theorem rL (s:List UInt8){z:Nat→Prop}{f:AVal×AVal→List (AVal×AVal)→(Nat→Prop)→Nat→Prop}{L:List (List UInt8×Int)}(h1:∀j n,bP s L 0=some (j,n)→f (.str s,.int .i64 n) [] (fun _=>True) j)(h2:bP s L 0=none→∀i,z i)
  (hf:∀t n r ih i,(seqB s t=true→f (.str s,.int .i64 n) [] (fun _=>True) i)→(seqB s t=false→ih (i+1))→f (.str t,.int .i64 n) r ih i:=by exact fun _ _ _ _ _ h1 h2=>(⟨fun e=>(h1 e).1 (aY.2 rfl),h2⟩:Sc _ _ _)):List.rec (motive:=fun _=>Nat→Prop) z f (mapE L) 0:=by
 have g:∀(L:List (List UInt8×Int)) (i:Nat),(∀j n,bP s L i=some (j,n)→f (.str s,.int .i64 n) [] (fun _=>True) j)→(bP s L i=none→∀i,z i)→List.rec (motive:=fun _=>Nat→Prop) z f (mapE L) i:=by
  intro L
  induction L with
  |nil=>exact fun i _ h=>h rfl i
  |cons x L ih=>
   intro i k1 k2
   refine hf x.1 x.2 (mapE L) _ i (fun e=> ?_) (fun e=> ?_)
   ·exact k1 i x.2 (by simp only[bP,e,if_true])
   ·refine ih (i+1) (fun j n hj=>k1 j n ?_) (fun hj=>k2 ?_)
    ·simp only[bP,e,Bool.false_eq_true,if_false];exact hj
    ·simp only[bP,e,Bool.false_eq_true,if_false];exact hj
 exact g L 0 h1 h2
theorem vB (s:List UInt8):(aj 97 122 (-32) s).length=s.length:=by unfold aj;rw[List.length_map]
theorem Ff {v:Int}{l:List Itm}(hv:v=3∨v=4)(h:60<l.length):Crd.E ⟨v,l⟩= .errno 4:=by unfold Crd.E;rw[if_pos hv,if_pos h]
theorem Fg {v:Int}{l:List Itm}(hv:¬(v=3∨v=4)):Crd.E ⟨v,l⟩= .errno 1:=by unfold Crd.E;rw[if_neg hv]
theorem Fc {v:Int}{l:List Itm}(hv:v=3∨v=4)(h:¬60<l.length){k:Nat}(hk:k<l.length)(hj:∀j,j<k→(l.getD j Itm.z).w v=0)(hb:(l.getD k Itm.z).w v≠0):Crd.E ⟨v,l⟩= .at ((l.getD k Itm.z).w v) k:=by
 unfold Crd.E
 rw[if_pos hv,if_neg h,k7 (f:=fun i=>(l.getD i Itm.z).w v) hk hj hb]
theorem Fd {v:Int}{l:List Itm}(hv:v=3∨v=4)(h:¬60<l.length)(hw:∀j,j<l.length→(l.getD j Itm.z).w v=0){k:Nat}(hk:k<l.length)(hj:∀j,j<k→fy v l j=0)(hb:fy v l k≠0):Crd.E ⟨v,l⟩= .at (fy v l k) k:=by
 unfold Crd.E
 rw[if_pos hv,if_neg h,dO (f:=fun i=>(l.getD i Itm.z).w v) hw]
 dsimp only
 rw[k7 hk hj hb]
theorem Fe {v:Int}{l:List Itm}(hv:v=3∨v=4)(h:¬60<l.length)(hw:∀j,j<l.length→(l.getD j Itm.z).w v=0)(hm:∀j,j<l.length→fy v l j=0):Crd.E ⟨v,l⟩=if fstN (leE v l) (ar v).length=0 then .none else .errno 7:=by
 unfold Crd.E
 rw[if_pos hv,if_neg h,dO (f:=fun i=>(l.getD i Itm.z).w v) hw]
 dsimp only
 rw[dO hm]
theorem BR {v:Int}{l:List Itm}{i:Nat}(h:0<(bf v (l.getD i Itm.z).1.n).b)(h2:(bf v (l.getD i Itm.z).1.n).b≤(cntI l (aj 97 122 (-32) (l.getD i Itm.z).1.n) i:Int)):fy v l i=9:=by unfold fy;rw[if_pos ⟨h,h2⟩]
theorem BS {v:Int}{l:List Itm}{i:Nat}(h:¬(0<(bf v (l.getD i Itm.z).1.n).b∧(bf v (l.getD i Itm.z).1.n).b≤(cntI l (aj 97 122 (-32) (l.getD i Itm.z).1.n) i:Int))):fy v l i=0:=by unfold fy;rw[if_neg h]
theorem le_7 {v:Int}{l:List Itm}{i:Nat}(h:(cntI l ((ar v).getD i []) l.length:Int)<(bf v ((ar v).getD i [])).a):leE v l i=7:=by unfold leE;rw[if_pos h]
theorem le_0 {v:Int}{l:List Itm}{i:Nat}(h:¬(cntI l ((ar v).getD i []) l.length:Int)<(bf v ((ar v).getD i [])).a):leE v l i=0:=by unfold leE;rw[if_neg h]
theorem Ey {l:List Itm}{k:Nat}(hk:k<l.length){L:List (List UInt8×Int)}(h:∀s,numL s L=cntI l s k):∀s,numL s (updL (aj 97 122 (-32) (l.getD k Itm.z).1.n) (numL (aj 97 122 (-32) (l.getD k Itm.z).1.n) L+1) L)=cntI l s (k+1):=by
 intro s
 rw[BN,mf hk,h,h]
 cases hs:seqB s (aj 97 122 (-32) (l.getD k Itm.z).1.n) with
 |true=>
  have:=aY.1 hs
  rw[if_pos rfl,←this,if_pos (aY.2 rfl)]
  omega
 |false=>
  rw[if_neg (by decide),if_neg (fun h=>absurd (aY.2 (aY.1 h).symm) (by rw[hs];decide))]
  omega
attribute [local irreducible] AWp AOps aa aA OrOk ad ah
attribute [local irreducible] aj bf cntI mapE bP numL updL ar Itm.w fy leE
theorem xq {G:Glo}{m:Int}(hE:ad G errTy)(hE2:lz G)(hP:cQ G)(hM:ad G (bW m))(hS:SpIs G)(c:Crd)(hf:c.ok):FnIs Tryz.prog G 23 [c.A] c.E.A:=by
 obtain⟨v,l⟩:=c
 obtain⟨h70,ho⟩:=hf
 dsimp only at h70 ho
 have hN:=tq (G:=G) v
 by_cases hv:v=3∨v=4
 ·have hve:verE v= .none:=by unfold verE;rw[if_pos hv]
  rw[hve] at hN
  simp only[Err.A] at hN
  by_cases h60:60<l.length
  ·rw[Ff hv h60]
   have hGL:ad G []:=ab
   refine fn_x Tryz.func23 Tryz.call23 rfl rfl rfl rfl hGL ?_
   intro C hC
   exact xw0
  ·have hone:∀k,k<l.length→FnIs Tryz.prog G 47 [itR (l.getD k Itm.z),.int .i64 v] (.int .i64 ((l.getD k Itm.z).w v)):=fun k hk=>CS hE hE2 hP hM hS v hv _ (iF ho hk)
   have hGL:ad G []:=ab
   refine fn_x Tryz.func23 Tryz.call23 rfl rfl rfl rfl hGL ?_
   intro C hC
   refine xw1 ?_
   intros
   refine lp hC hGL (fun k:Nat=>[(1,.rop [.int .i64 v,.list 15 l.length (itsF l)] 0),(3,.list 1 (ar v).length (aq (ar v))),(33,.list 15 l.length (itsF l)),(34,.int .i64 (l.length:Nat)),(35,.int .i64 (k:Nat))]) (fun _=>[]) (fun k=>k≤l.length∧∀j,j<k→(l.getD j Itm.z).w v=0) (fun k=>l.length-k) 0 ⟨Nat.zero_le _,fun j h=>absurd h (Nat.not_lt_zero _)⟩ ae rfl ?_
   rintro k ⟨k1,k2⟩
   by_cases hk:k<l.length
   ·have h1:=hone k hk
    unfold itR at h1
    by_cases hw:(l.getD k Itm.z).w v=0
    ·rw[hw] at h1
     refine xw1 ?_
     intros
     exact nxs (k+1) ⟨hk,aQ k2 hw⟩ (by omega) ae aB
    ·rw[Fc hv h60 hk k2 hw]
     simp only[Err.A,atA]
     exact xw0
   ·obtain rfl:k=l.length:=by omega
    refine xw1 ?_
    intro bl
    intros
    refine lp hC hGL (fun z:Nat×List (List UInt8×Int)=>[(1,.rop [.int .i64 v,.list 15 l.length (itsF l)] 0),(3,.list 1 (ar v).length (aq (ar v))),(8,.own 0 (.map (some bl))),(54,.list 15 l.length (itsF l)),(55,.int .i64 (l.length:Nat)),(56,.int .i64 (z.1:Nat))]) (fun z=>[.mp bl (mapE z.2)]) (fun z=>z.1≤l.length∧(∀s,numL s z.2=cntI l s z.1)∧∀j,j<z.1→fy v l j=0) (fun z=>l.length-z.1) (0,[]) ⟨Nat.zero_le _,fun s=>by rw[qD];unfold numL;simp only[bP];rfl,fun j h=>absurd h (Nat.not_lt_zero _)⟩ ae (by unfold mapE;rfl) ?_
    rintro⟨k,L⟩ ⟨k1,kL,km⟩
    dsimp only at k1 kL km ⊢
    by_cases hk:k<l.length
    ·have hnl:(l.getD k Itm.z).1.n.length≤2500:=(iF ho hk).p.n
     have hU:=dN (G:=G) (l.getD k Itm.z).1.n (by omega)
     have hul:=vB (l.getD k Itm.z).1.n
     have hR:=kG (G:=G) hS v (aj 97 122 (-32) (l.getD k Itm.z).1.n) (by omega)
     have hcnt:=kL (aj 97 122 (-32) (l.getD k Itm.z).1.n)
     have hcl:=lj l (aj 97 122 (-32) (l.getD k Itm.z).1.n) k
     have hupd:=Ey hk kL
     have h9:=BR (v:=v) (l:=l) (i:=k)
     have h0:=BS (v:=v) (l:=l) (i:=k)
     have hsc:=hupd (aj 97 122 (-32) (l.getD k Itm.z).1.n)
     have hsu:=mf (s:=aj 97 122 (-32) (l.getD k Itm.z).1.n) hk
     rw[if_pos (aY.2 rfl)] at hsu
     rw[DF,hve] at hR
     unfold Rl.A at hR
     simp only[Err.A] at hR
     refine xw1 ?_
     intros
     have hcm:=fun h=>Fd (v:=v) hv h60 k2 hk km h
     generalize bf v (l.getD k Itm.z).1.n=r at*
     obtain⟨r0,r1,r2,r3⟩:=r
     dsimp only at*
     generalize aj 97 122 (-32) (l.getD k Itm.z).1.n=U at*
     refine fc U ?_
     generalize numL U L=NN at*
     generalize cntI l U k=cn at*
     by_cases hb:0<r2
     ·by_cases hc:r2≤(cn:Int)
      ·have h9:=h9 hb hc
       rw[h9] at hcm
       rw[hcm (by decide)]
       simp only[Err.A,atA]
       refine xw1 ?_
       intros
       refine rL U (fun j n hl=> ?_) (fun hl i=> ?_)
       ·have eL:(mapE L).set j (AVal.str U,AVal.int .i64 (NN+1))=mapE (updL U (NN+1) L):=by rw[og];unfold updL;rw[hl]
        refine xw1 ?_
        intros
        rw[eL]
        refine fc U ?_
        generalize numL U (updL U (NN+1) L)=N2 at*
        exact xw0
       ·have eL:mapE L++[(AVal.str U,AVal.int .i64 (NN+1))]=mapE (updL U (NN+1) L):=by rw[lV];unfold updL;rw[hl]
        refine xw1 ?_
        intros
        rw[eL]
        refine fc U ?_
        generalize numL U (updL U (NN+1) L)=N2 at*
        exact xw0
      ·have h0:=h0 (fun h=>hc h.2)
       refine xw1 ?_
       intros
       refine rL U (fun j n hl=> ?_) (fun hl i=> ?_)
       ·have eL:(mapE L).set j (AVal.str U,AVal.int .i64 (NN+1))=mapE (updL U (NN+1) L):=by rw[og];unfold updL;rw[hl]
        refine xw1 ?_
        intros
        rw[eL]
        refine fc U ?_
        have hsc2:=hsc
        generalize numL U (updL U (NN+1) L)=N2 at hsc2 ⊢
        refine xw1 ?_
        intros
        exact nxs (k+1,updL U (NN+1) L) ⟨hk,hupd,aQ km h0⟩ (by dsimp only;omega) ae aB
       ·have eL:mapE L++[(AVal.str U,AVal.int .i64 (NN+1))]=mapE (updL U (NN+1) L):=by rw[lV];unfold updL;rw[hl]
        refine xw1 ?_
        intros
        rw[eL]
        refine fc U ?_
        have hsc2:=hsc
        generalize numL U (updL U (NN+1) L)=N2 at hsc2 ⊢
        refine xw1 ?_
        intros
        exact nxs (k+1,updL U (NN+1) L) ⟨hk,hupd,aQ km h0⟩ (by dsimp only;omega) ae aB
     ·have h0:=h0 (fun h=>hb h.1)
      refine xw1 ?_
      intros
      refine rL U (fun j n hl=> ?_) (fun hl i=> ?_)
      ·have eL:(mapE L).set j (AVal.str U,AVal.int .i64 (NN+1))=mapE (updL U (NN+1) L):=by rw[og];unfold updL;rw[hl]
       refine xw1 ?_
       intros
       rw[eL]
       exact nxs (k+1,updL U (NN+1) L) ⟨hk,hupd,aQ km h0⟩ (by dsimp only;omega) ae aB
      ·have eL:mapE L++[(AVal.str U,AVal.int .i64 (NN+1))]=mapE (updL U (NN+1) L):=by rw[lV];unfold updL;rw[hl]
       refine xw1 ?_
       intros
       rw[eL]
       exact nxs (k+1,updL U (NN+1) L) ⟨hk,hupd,aQ km h0⟩ (by dsimp only;omega) ae aB
    ·obtain rfl:k=l.length:=by omega
     rw[Fe hv h60 k2 km]
     refine xw1 ?_
     intros
     refine lp hC hGL (fun k:Nat=>[(1,.rop [.int .i64 v,.list 15 l.length (itsF l)] 0),(8,.own 0 (.map (some bl))),(91,.list 1 (ar v).length (aq (ar v))),(92,.int .i64 ((ar v).length:Nat)),(93,.int .i64 (k:Nat))]) (fun _=>[.mp bl (mapE L)]) (fun k=>k≤(ar v).length∧∀j,j<k→leE v l j=0) (fun k=>(ar v).length-k) 0 ⟨Nat.zero_le _,fun j h=>absurd h (Nat.not_lt_zero _)⟩ ae rfl ?_
     rintro k ⟨k1,kl⟩
     by_cases hk:k<(ar v).length
     ·have hnn:=tY hk
      have hnl:=qb v
      have hR:=kG (G:=G) hS v ((ar v).getD k []) (by omega)
      have hcl:=lj l ((ar v).getD k []) l.length
      have hcnt:=kL ((ar v).getD k [])
      rw[hve] at hR
      unfold Rl.A at hR
      simp only[Err.A] at hR
      have h7:=le_7 (v:=v) (l:=l) (i:=k)
      have h0:=le_0 (v:=v) (l:=l) (i:=k)
      have hf7:=fun h=>nf (f:=leE v l) hk kl h
      generalize bf v ((ar v).getD k [])=r at*
      obtain⟨r0,r1,r2,r3⟩:=r
      dsimp only at*
      generalize cntI l ((ar v).getD k []) l.length=N at*
      by_cases hb:(N:Int)<r1
      ·have h7:=h7 hb
       rw[h7] at hf7
       rw[hf7 (by decide),if_neg (by decide)]
       simp only[Err.A,errA]
       refine xw1 ?_
       intros
       refine fc ((ar v).getD k []) ?_
       rw[hcnt]
       exact xw0
      ·have h0:=h0 hb
       refine xw1 ?_
       intros
       refine fc ((ar v).getD k []) ?_
       rw[hcnt]
       refine xw1 ?_
       intros
       exact nxs (k+1) ⟨hk,aQ kl h0⟩ (by omega) ae aB
     ·obtain rfl:k=(ar v).length:=by omega
      rw[gg (f:=leE v l) kl,if_pos rfl]
      simp only[Err.A]
      exact xw0
 ·rw[Fg hv]
  have hve:verE v= .errno 1:=by unfold verE;rw[if_neg hv]
  rw[hve] at hN
  simp only[Err.A,errA] at hN ⊢
  have hGL:ad G []:=ab
  refine fn_x Tryz.func23 Tryz.call23 rfl rfl rfl rfl hGL ?_
  intro C hC
  exact xw0
end
section
open Go Go.RowKit
theorem yI {f:Nat→Int}:∀{n:Nat},fstE f n= .none→∀j,j<n→f j=0
 |0,_,j,h=>absurd h (Nat.not_lt_zero _)
 |n+1,h,j,hj=>by
  rw[fstE] at h
  cases he:fstE f n with
  |none=>
   rw[he] at h
   dsimp only at h
   rcases Nat.lt_or_ge j n with g|g
   ·exact yI he j g
   ·obtain rfl:j=n:=by omega
    split at h
    ·assumption
    ·cases h
  |errno e=>rw[he] at h;cases h
  | «at» e p=>rw[he] at h;cases h
theorem yV {c:Crd}(h:c.E= .none):(c.v=3∨c.v=4)∧c.l.length≤60∧∀k,k<c.l.length→(c.l.getD k Itm.z).w c.v=0:=by
 unfold Crd.E at h
 split at h
 ·rename_i hv
  split at h
  ·cases h
  ·rename_i h60
   cases he:fstE (fun i=>(c.l.getD i Itm.z).w c.v) c.l.length with
   |none=>exact⟨hv,by omega,yI he⟩
   |errno e=>rw[he] at h;cases h
   | «at» e p=>rw[he] at h;cases h
 ·cases h
theorem yi {x:Vl}(h:x.E= .none)(ht:x.t=2):x.L.length=1:=by
 unfold Vl.E at h
 split at h
 ·cases h
 ·rw[if_pos (.inl ht)] at h
  unfold ptsE at h
  split at h
  ·cases h
  ·rename_i g
   omega
def toQ (d:Nat)(T:Js)(x:AVal)(r:ARes)(H:Heap):Prop:=H=[]∧∃q1 q2,r= .ret (.tuple [.agg [.int .i64 T.k,.str T.t,q1,q2],x])∧((q1=jN∧q2=jN∧T.ks=[]∧T.l=[])∨(q1= .list 1 T.ks.length (aq T.ks)∧q2= .list 4 T.l.length (jsF d T.l)))
theorem xR {d:Nat}{T:Js}{x:AVal}{r:ARes}{H:Heap}(h:toQ d T x r H):Fi r H (.tuple [.agg (Js.C d T),x]):=by
 obtain⟨rfl,q1,q2,rfl,h⟩:=h
 rintro C R w e hm ⟨y,rfl,hx⟩
 refine⟨R,hm,y,rfl,lB (Seal.le_refl R) hx fun u hu=> ?_⟩
 rcases h with⟨rfl,rfl,h1,h2⟩|⟨rfl,rfl⟩
 ·exact yw h1 h2 hu
 ·exact hu
theorem nA {d:Nat}{x v:AVal}{H:Heap}{T:Js}(hT:T=Js.z)(e:v= .tuple [.agg [.int .i64 0,.str [],jN,jN],x]):Rt (toQ d T x) v H:=⟨[],List.nil_sublist _,by subst hT e;exact⟨rfl,jN,jN,rfl,.inl ⟨rfl,rfl,rfl,rfl⟩⟩⟩
theorem EV {d:Nat}{x v:AVal}{H:Heap}{T:Js}(e:v= .tuple [.agg (Js.C d T),x]):Rt (toQ d T x) v H:=⟨[],List.nil_sublist _,by subst e;exact⟨rfl,_,_,rfl,.inr ⟨rfl,rfl⟩⟩⟩
abbrev jL (b i:Nat)(v:Value):HEnt:=.cells b (some 29) [.int .i64 6,.str [],jN,.own i v]
abbrev jRw (d n:Nat)(v:Value)(l:List Js):HEnt:=.row v none 4 n (jsC d l)
attribute [local irreducible] AWp AOps aa aA OrOk ad ah
attribute [local irreducible] Crd.E Itm.w a7 cP aj Vl.T Vl.E itJ parJ verJ
theorem F5 {G:Glo}{m:Int}(hE:ad G errTy)(hE2:lz G)(hP:cQ G)(hM:ad G (bW m))(hS:SpIs G)(c:Crd)(hf:c.ok):ah Tryz.prog G 6 [c.A] [] (toQ 5 c.jT c.jE.A):=by
 have hR:=xq hE hE2 hP hM hS c hf
 by_cases h0:c.E= .none
 case neg=>
  rw[qn (by rw[rR h0];exact h0),rR h0]
  unfold Crd.A at hR ⊢
  cases he:c.E with
  |none=>exact absurd he h0
  |errno e=>
   rw[he] at hR
   simp only[Err.A,errA] at hR ⊢
   have hGL:ad G []:=ab
   refine fn_x Tryz.func6 Tryz.call6 rfl rfl rfl rfl hGL ?_
   intro C hC
   refine xn1 ?_
   intros
   exact nA rfl rfl
  | «at» e p=>
   rw[he] at hR
   simp only[Err.A,atA] at hR ⊢
   have hGL:ad G []:=ab
   refine fn_x Tryz.func6 Tryz.call6 rfl rfl rfl rfl hGL ?_
   intro C hC
   refine xn1 ?_
   intros
   exact nA rfl rfl
 rw[h0] at hR
 by_cases hv:c.v=4
 case neg=>
  rw[qn (by rw[rQ h0 hv];exact fun h=>by cases h),rQ h0 hv]
  unfold Crd.A at hR ⊢
  simp only[Err.A,errA] at hR ⊢
  have hGL:ad G []:=ab
  refine fn_x Tryz.func6 Tryz.call6 rfl rfl rfl rfl hGL ?_
  intro C hC
  refine xn1 ?_
  intros
  exact nA rfl rfl
 obtain⟨-,h60,hw⟩:=yV h0
 have hok:=hf.2
 have hJ:=Ce h0 hv
 generalize hje:c.jE=E at*
 generalize hjt:c.jT=T at*
 obtain⟨v,l⟩:=c
 obtain rfl:v=4:=hv
 dsimp only at*
 unfold Crd.A at hR ⊢
 dsimp only[Err.A] at hR ⊢
 have t1:=fun s=>eG (G:=G) 2 s
 have hver:=F3 (G:=G) 2
 have hAR:=fun a n c=>zW (G:=G) a n c
 have hGL:ad G []:=ab
 refine fn_a Tryz.func6 Tryz.call6 rfl rfl rfl rfl ?_
 intro C hC
 refine cuty hC hGL (fun b:Nat=>[(1,.rop [.int .i64 4,.list 15 l.length (itsF l)] 0),(2,.own 0 (jAt b)),(3,.raw .nilIface)]) (fun b=>[jZ b]) (fun _=>True) ?_ ?_
 ·refine xn1 ?_
  intro b
  intros
  exact cy b trivial
 intro b2 _
 refine cut hC hGL [(1,.rop [.int .i64 4,.list 15 l.length (itsF l)] 0),(2,.own 0 (jAt b2)),(3,.raw .nilIface)] [jZ b2] True xn0 fun _=> ?_
 refine cut hC hGL [(1,.rop [.int .i64 4,.list 15 l.length (itsF l)] 0),(2,.own 0 (jAt b2)),(3,.raw .nilIface)] [jZ b2] True xn0 fun _=> ?_
 refine cutA (fun x:Nat×Value=>[(1,.rop [.int .i64 4,.list 15 l.length (itsF l)] 0),(2,.own 0 (jAt b2)),(3,.raw .nilIface),(5,.own 2 (jAt x.1))]) (fun x=>[jZ b2,jRw 3 1 x.2 [verJ],jL x.1 1 x.2]) (fun _=>True) (ap hC hGL ?_) ?_
 ·repeat' (first|(conv=>whnf);first|refine .w ?_|refine .v ?_|refine sc_c ?_ ?_<;>(intro hb;try exact dd hb)|apply ao|apply aG|(apply sc_i<;>intro hb)|(apply bx_i;intro hbd)|(apply ax;first|exact t1 _)|(apply aw (i:=0) rfl;first|exact t1 _)|(apply ab_i;intro bl)|(apply as_i;intro va vk vc hva)|(apply av_i;intro v)|(apply ac_i;intro bl cap hcap)|(apply nx_i<;>intro hnx)|exact True.intro|(apply bc_i;intro C hC)|apply bt_i|apply og_n|(apply og_a;exact rfl)|(show Rt _ _ _;exact rt_w)|fail)
  all_goals try conv=>whnf
  refine bo_l ?_
  repeat' (first|(conv=>whnf);first|refine .w ?_|refine .v ?_|refine sc_c ?_ ?_<;>(intro hb;try exact dd hb)|apply ao|apply aG|(apply sc_i<;>intro hb)|(apply bx_i;intro hbd)|(apply ax;first|exact hver)|(apply aw (i:=0) rfl;first|exact hver)|(apply ab_i;intro bl)|(apply as_i;intro va vk vc hva)|(apply av_i;intro v)|(apply ac_i;intro bl cap hcap)|(apply nx_i<;>intro hnx)|exact True.intro|(apply bc_i;intro C hC)|apply bt_i|apply og_n|(apply og_a;exact rfl)|(show Rt _ _ _;exact rt_w)|fail)
  all_goals try conv=>whnf
  refine bo_r ?_
  repeat' (first|(conv=>whnf);first|refine .w ?_|refine .v ?_|refine sc_c ?_ ?_<;>(intro hb;try exact dd hb)|apply ao|apply aG|(apply sc_i<;>intro hb)|(apply bx_i;intro hbd)|(apply ax;first|exact hAR _ _ _)|(apply aw (i:=0) rfl;first|exact hAR _ _ _)|(apply ab_i;intro bl)|(apply as_i;intro va vk vc hva)|(apply av_i;intro v)|(apply ac_i;intro bl cap hcap)|(apply nx_i<;>intro hnx)|exact True.intro|(apply bc_i;intro C hC)|apply bt_i|apply og_n|(apply og_a;exact rfl)|(show Rt _ _ _;exact rt_w)|fail)
  all_goals try conv=>whnf
  exact cyT (bl,.slice va vk vc) trivial (aM (cK (i:=2) (p:=3) (x:=.cells bl (some 29) [.int .i64 6,.str [],jN,.raw (.slice va vk vc)]) (a':=.own 1 (.slice va vk vc)) rfl (fun R=>.cells rfl fun _=>rA rfl)) (bm ae aB))
 rintro⟨b5,v⟩-
 dsimp only
 refine cutA (fun _:Value=>[(2,.own 0 (jAt b2)),(5,.own 2 (jAt b5))]) (fun v=>[jZ b2,jRw 3 (l.length+1) v (verJ::l.map itJ),jL b5 1 v]) (fun _=>E= .none) ?_ ?_
 ·refine ap hC hGL (xn1 ?_)
  intros
  refine lpA hC hGL (fun y:Nat×Value=>[(2,.own 0 (jAt b2)),(5,.own 2 (jAt b5)),(36,.list 15 l.length (itsF l)),(37,.int .i64 (l.length:Nat)),(38,.int .i64 (y.1:Nat))]) (fun y=>[jZ b2,jRw 3 (y.1+1) y.2 (verJ::(l.take y.1).map itJ),jL b5 1 y.2]) (fun y=>y.1≤l.length∧∀j,j<y.1→gpE (l.getD j Itm.z)=0) (fun y=>l.length-y.1) (0,v) ⟨Nat.zero_le _,fun j h=>absurd h (Nat.not_lt_zero _)⟩ ae rfl ?_
  rintro⟨k,v⟩ ⟨k1,kg⟩
  dsimp only at k1 kg ⊢
  by_cases hk:k<l.length
  case neg=>
   obtain rfl:k=l.length:=by omega
   rw[List.take_length]
   refine ap hC hGL (xn1 ?_)
   intros
   exact cyT v (hJ.trans (dO kg)) (bm ae aB)
  have hx:=iF hok hk
  have hwx:=hw k hk
  refine bq (ap hC hGL (xn1 ?_))
  refine bq (ap hC hGL (xn1 ?_))
  intros
  refine bq (cX ?_)
  refine cuty hC hGL (fun b7:Nat=>[(2,.own 0 (jAt b2)),(5,.own 2 (jAt b5)),(36,.list 15 l.length (itsF l)),(37,.int .i64 (l.length:Nat)),(38,.int .i64 (k:Nat)),(6,.int .i64 (k:Nat)),(7,.own 3 (jAt b7))]) (fun b7=>[jZ b2,jRw 3 (k+1) v (verJ::(l.take k).map itJ),jL b5 1 v,.cells b7 (some 48) (bh (l.getD k Itm.z))]) (fun _=>True) ?_ ?_
  ·refine xn1 ?_
   intro b7
   intros
   exact cy b7 trivial
  intro b7 _
  have hFi:=gE (G:=G) (l.getD k Itm.z).1.ps grpN (by have:=hx.p.ps;have:(l.getD k Itm.z).1.ps.length≤2500:=this;omega) (fun j=>by have:=(hx.p.q j).1;have:((l.getD k Itm.z).1.ps.getD j Pr.z).n.length≤2500:=this;omega) (by decide)
  by_cases hg:a7 grpN (l.getD k Itm.z).1.ps 0<0
  case neg=>
   have he:=k7 (f:=fun i=>gpE (l.getD i Itm.z)) hk kg (by show gpE _≠0;rw[yH hg];decide)
   rw[show gpE (l.getD k Itm.z)=3 from yH hg] at he
   rw[←hJ] at he
   subst he
   have hT:T=Js.z:=hjt▸qn (by rw[hje];exact fun h=>by cases h)
   simp only[Err.A,atA]
   refine bq (ap hC hGL (xn1 ?_))
   intros
   exact nA hT rfl
  refine cut hC hGL [(2,.own 0 (jAt b2)),(5,.own 2 (jAt b5)),(36,.list 15 l.length (itsF l)),(37,.int .i64 (l.length:Nat)),(38,.int .i64 (k:Nat)),(7,.own 3 (jAt b7))] [jZ b2,jRw 3 (k+1) v (verJ::(l.take k).map itJ),jL b5 1 v,.cells b7 (some 48) (bh (l.getD k Itm.z))] True xn0 fun _=> ?_
  refine fp (aM (bn (i:=3) (k:=7) rfl rfl) (bm (e':=[(2,.own 0 (jAt b2)),(5,.own 2 (jAt b5)),(36,.list 15 l.length (itsF l)),(37,.int .i64 (l.length:Nat)),(38,.int .i64 (k:Nat)),(7,.rop (bh (l.getD k Itm.z)) 0)]) (h':=[jZ b2,jRw 3 (k+1) v (verJ::(l.take k).map itJ),jL b5 1 v]) ae aB)) ?_
  have kg2:∀j,j<k+1→gpE (l.getD j Itm.z)=0:=aQ kg (E5 hg)
  have hpush:verJ::(l.take (k+1)).map itJ=(verJ::(l.take k).map itJ)++[itJ (l.getD k Itm.z)]:=by
   rw[List.take_succ_eq_append_getElem hk,List.map_append,List.getD_eq_getElem?_getD,List.getElem?_eq_getElem hk]
   rfl
  have t2a:=eG (G:=G) 2 (aj 65 90 32 (l.getD k Itm.z).1.n)
  have t2b:=eG (G:=G) 2 (cP (l.getD k Itm.z).2.t)
  have hLow:=j3 (G:=G) (l.getD k Itm.z).1.n (by have:(l.getD k Itm.z).1.n.length≤2500:=hx.p.n;omega)
  have hPar:=zV (G:=G) 0 (l.getD k Itm.z) hx
  have hKi:=vT (G:=G) (l.getD k Itm.z).2.t
  have hxe:=w_E hwx
  unfold itR at hPar
  generalize verJ::(l.take k).map itJ=L at*
  generalize (l.getD k Itm.z)=x at*
  refine cutA (fun y:Nat×Value=>[(2,.own 0 (jAt b2)),(5,.own 2 (jAt b5)),(36,.list 15 l.length (itsF l)),(37,.int .i64 (l.length:Nat)),(38,.int .i64 (k:Nat)),(7,.rop (bh x) 0),(8,.own 4 (jAt y.1))]) (fun y=>[jZ b2,jRw 3 (k+1) v L,jL b5 1 v,jRw 2 3 y.2 [sJ (aj 65 90 32 x.1.n),parJ x,sJ (cP x.2.t)],jL y.1 3 y.2]) (fun _=>True) (ap hC hGL ?_) ?_
  ·refine xn1 ?_
   intros
   refine dw_p mixed hC hGL false (fun y:Bool×Nat×Option Addr×Nat×Nat=>[(2,.own 0 (jAt b2)),(5,.own 2 (jAt b5)),(36,.list 15 l.length (itsF l)),(37,.int .i64 (l.length:Nat)),(38,.int .i64 (k:Nat)),(7,.rop (bh x) 0),(8,if y.1 then .own 4 (jAt y.2.1) else .own 3 (jAt y.2.1))])
    (fun y=>if y.1 then[jZ b2,jRw 3 (k+1) v L,jL b5 1 v,jRw 2 3 (.slice y.2.2.1 y.2.2.2.1 y.2.2.2.2) [sJ (aj 65 90 32 x.1.n),parJ x,sJ (cP x.2.t)],.cells y.2.1 (some 29) [.int .i64 6,.str [],jN,.raw (.slice y.2.2.1 y.2.2.2.1 y.2.2.2.2)]]
     else[jZ b2,jRw 3 (k+1) v L,jL b5 1 v,.cells y.2.1 (some 29) [.int .i64 6,.str [],jN,.raw (.slice y.2.2.1 y.2.2.2.1 y.2.2.2.2)],jRw 2 3 (.slice y.2.2.1 y.2.2.2.1 y.2.2.2.2) [sJ (aj 65 90 32 x.1.n),parJ x,sJ (cP x.2.t)]]) (.take 0 (.take 1 (.take 4 (.take 6 (.take 7 (.take 8 (.br 2 (.br 3 (.br 5 (.br 9 (.br 10 (.br 11 (.br 12 (.br 13 (.br 14 (.done) (.nil)) (.nil)) (.br 13 (.br 12 (.br 14 (.done) (.nil)) (.nil)) (.nil))) (.br 13 (.br 11 (.br 12 (.br 14 (.done) (.nil)) (.nil)) (.nil)) (.nil))) (.br 13 (.br 10 (.br 11 (.br 12 (.br 14 (.done) (.nil)) (.nil)) (.nil)) (.nil)) (.nil))) (.br 13 (.br 9 (.br 10 (.br 11 (.br 12 (.br 14 (.done) (.nil)) (.nil)) (.nil)) (.nil)) (.nil)) (.nil))) (.br 13 (.br 5 (.br 9 (.br 10 (.br 11 (.br 12 (.br 14 (.done) (.nil)) (.nil)) (.nil)) (.nil)) (.nil)) (.nil)) (.nil))) (.br 13 (.br 3 (.br 5 (.br 9 (.br 10 (.br 11 (.br 12 (.br 14 (.done) (.nil)) (.nil)) (.nil)) (.nil)) (.nil)) (.nil)) (.nil)) (.nil))) (.br 13 (.br 2 (.br 3 (.br 5 (.br 9 (.br 10 (.br 11 (.br 12 (.br 14 (.done) (.nil)) (.nil)) (.nil)) (.nil)) (.nil)) (.nil)) (.nil)) (.nil)) (.nil))))))))) (by kernel_rfl) ?_ ?_
   ·clear k1
    have k1:=hAR
    refine xb ?_
    repeat' (first|exact Le.n|refine Lc.mk ?_ ?_)
    all_goals intros
    all_goals first
     |exact⟨(true,_,_,_,_),⟨rfl,rfl,rfl,rfl,rfl,rfl,rfl,trivial⟩,rfl⟩
     |exact⟨(false,_,_,_,_),⟨rfl,rfl,rfl,rfl,rfl,rfl,rfl,trivial⟩,rfl⟩
   rintro⟨o,b8,va,vk,vc⟩
   refine cyT (b8,.slice va vk vc) trivial ?_
   cases o
   ·refine aM (cK (i:=3) (p:=3) (x:=.cells b8 (some 29) [.int .i64 6,.str [],jN,.raw (.slice va vk vc)]) (a':=.own 3 (.slice va vk vc)) rfl (fun R=>.cells rfl fun _=>rA rfl)) (aM (Dr (.cons _ (.cons _ (.cons _ (.swap _ _ _))))) (aM (qU (k:=8) (a':=.own 4 (jAt b8)) rfl rD) (bm ae aB)))
   ·exact aM (cK (i:=4) (p:=3) (x:=.cells b8 (some 29) [.int .i64 6,.str [],jN,.raw (.slice va vk vc)]) (a':=.own 3 (.slice va vk vc)) rfl (fun R=>.cells rfl fun _=>rA rfl)) (bm ae aB)
  rintro⟨b8,w⟩-
  dsimp only
  have hAl:[sJ (aj 65 90 32 x.1.n),parJ x,sJ (cP x.2.t)].length=3:=rfl
  have hit:itJ x=aJ ([sJ (aj 65 90 32 x.1.n),parJ x,sJ (cP x.2.t)]++valJ x):=by unfold itJ;rfl
  generalize [sJ (aj 65 90 32 x.1.n),parJ x,sJ (cP x.2.t)]=A at*
  have hL1:x.2.L.length≤2000000:=hx.L.n
  have hL2:=fun j=>(hx.L.k j).1
  refine cutA (fun _:Value=>[(2,.own 0 (jAt b2)),(5,.own 2 (jAt b5)),(36,.list 15 l.length (itsF l)),(37,.int .i64 (l.length:Nat)),(38,.int .i64 (k:Nat)),(8,.own 4 (jAt b8))]) (fun w=>[jZ b2,jRw 3 (k+1) v L,jL b5 1 v,jRw 2 (3+(valJ x).length) w (A++valJ x),jL b8 3 w]) (fun _=>True) ?_ ?_
  ·refine cut hC hGL [(2,.own 0 (jAt b2)),(5,.own 2 (jAt b5)),(36,.list 15 l.length (itsF l)),(37,.int .i64 (l.length:Nat)),(38,.int .i64 (k:Nat)),(8,.own 4 (jAt b8)),(7,.rop (bh x) 0),(67,.int .i64 x.2.t)] [jZ b2,jRw 3 (k+1) v L,jL b5 1 v,jRw 2 3 w A,jL b8 3 w] True xn0 fun _=> ?_
   refine cX ?_
   by_cases ht2:x.2.t=2
   ·have hp1:=yi hxe ht2
    have hv:valJ x=(x.2.L.getD 0 []).map sJ:=by unfold valJ;rw[if_pos ht2]
    have hl0:=hL2 0
    have ts:=fun j=>eG (G:=G) 2 ((x.2.L.getD 0 []).getD j [])
    rw[hv,List.length_map]
    refine ap hC hGL (xn1 ?_)
    intros
    refine lp hC hGL (fun y:Nat×Value=>[(2,.own 0 (jAt b2)),(5,.own 2 (jAt b5)),(36,.list 15 l.length (itsF l)),(37,.int .i64 (l.length:Nat)),(38,.int .i64 (k:Nat)),(8,.own 4 (jAt b8)),(87,.list 1 (x.2.L.getD 0 []).length (aq (x.2.L.getD 0 []))),(88,.int .i64 ((x.2.L.getD 0 []).length:Nat)),(89,.int .i64 (y.1:Nat))]) (fun y=>[jZ b2,jRw 3 (k+1) v L,jL b5 1 v,jRw 2 (3+y.1) y.2 (A++((x.2.L.getD 0 []).take y.1).map sJ),jL b8 3 y.2]) (fun y=>y.1≤(x.2.L.getD 0 []).length) (fun y=>(x.2.L.getD 0 []).length-y.1) (0,w) (Nat.zero_le _) ae (by rw[List.take_zero,List.map_nil,List.append_nil];rfl) ?_
    rintro⟨j,w⟩ j1
    have j1:j≤(x.2.L.getD 0 []).length:=j1
    dsimp only
    by_cases hj:j<(x.2.L.getD 0 []).length
    ·have ts:=ts j
     refine xn1 ?_
     intros
     refine dw_p mixed hC hGL false (fun _:Option Addr×Nat×Nat=>[(2,.own 0 (jAt b2)),(5,.own 2 (jAt b5)),(36,.list 15 l.length (itsF l)),(37,.int .i64 (l.length:Nat)),(38,.int .i64 (k:Nat)),(8,.own 4 (jAt b8)),(87,.list 1 (x.2.L.getD 0 []).length (aq (x.2.L.getD 0 []))),(88,.int .i64 ((x.2.L.getD 0 []).length:Nat)),(89,.int .i64 (j:Nat))]) (fun z=>[jZ b2,jRw 3 (k+1) v L,jL b5 1 v,.row (.slice z.1 z.2.1 z.2.2) none 4 (3+j+1) (jsC 2 (A++((x.2.L.getD 0 []).take j).map sJ)++Js.C 2 (sJ ((x.2.L.getD 0 []).getD j []))),jL b8 3 (.slice z.1 z.2.1 z.2.2)]) (.take 0 (.take 2 (.br 1 (.br 3 (.br 4 (.br 5 (.take 6 (.br 7 (.done) (.nil))) (.nil)) (.nil)) (.nil)) (.br 3 (.br 1 (.br 4 (.br 5 (.take 6 (.br 7 (.done) (.nil))) (.nil)) (.nil)) (.br 4 (.br 1 (.br 5 (.take 6 (.br 7 (.done) (.nil))) (.nil)) (.nil)) (.nil))) (.nil))))) (by kernel_rfl) ?_ ?_
     ·refine xn ?_
      repeat' (first|exact Le.n|refine Lc.mk ?_ ?_)
      all_goals intros
      all_goals exact⟨(_,_,_),ae,rfl⟩
     rintro⟨va,vk,vc⟩
     dsimp only
     refine xn1 ?_
     intros
     refine nxs (j+1,Value.slice va vk vc) hj (by show(x.2.L.getD 0 []).length-(j+1)<(x.2.L.getD 0 []).length-j;omega) ae ?_
     show[jZ b2,jRw 3 (k+1) v L,jL b5 1 v,HEnt.row (.slice va vk vc) none 4 (3+(j+1)) (jsC 2 (A++((x.2.L.getD 0 []).take (j+1)).map sJ)),jL b8 3 (.slice va vk vc)].Sublist _
     rw[m7 hj,←List.append_assoc,←bQ]
     exact List.Sublist.refl _
    ·obtain rfl:j=(x.2.L.getD 0 []).length:=by omega
     rw[List.take_length]
     refine xn1 ?_
     intros
     exact cyT w trivial (bm ae aB)
   refine bq (ap hC hGL (xn1 ?_))
   refine cW (congrArg (fun z=>some (AVal.bool z)) (ic.2 ht2)) ?_
   refine bq (ap hC hGL (xn1 ?_))
   by_cases ht3:x.2.t=3
   ·refine gU (congrArg (fun z=>some (AVal.bool z)) (dp.2 ht3)) ?_
    have hv:valJ x=[aJ (x.2.L.map tsJ)]:=by unfold valJ;rw[if_neg ht2,if_pos ht3]
    have hN:=yx (G:=G)
    rw[hv]
    refine cuty hC hGL (fun b11:Nat=>[(2,.own 0 (jAt b2)),(5,.own 2 (jAt b5)),(36,.list 15 l.length (itsF l)),(37,.int .i64 (l.length:Nat)),(38,.int .i64 (k:Nat)),(8,.own 4 (jAt b8)),(7,.rop (bh x) 0),(11,.own 5 (jAt b11))]) (fun b11=>[jZ b2,jRw 3 (k+1) v L,jL b5 1 v,jRw 2 3 w A,jL b8 3 w,.cells b11 (some 29) [.int .i64 6,.str [],jN,jN]]) (fun _=>True) ?_ ?_
    ·refine xn1 ?_
     intro b11
     intros
     exact cy b11 trivial
    intro b11 _
    refine cutA (fun _:Value=>[(2,.own 0 (jAt b2)),(5,.own 2 (jAt b5)),(36,.list 15 l.length (itsF l)),(37,.int .i64 (l.length:Nat)),(38,.int .i64 (k:Nat)),(8,.own 4 (jAt b8)),(11,.own 5 (jAt b11))]) (fun u=>[jZ b2,jRw 3 (k+1) v L,jL b5 1 v,jRw 2 3 w A,jL b8 3 w,.cells b11 (some 29) (Js.C 2 (aJ (x.2.L.map tsJ)))]) (fun _=>True) ?_ ?_
    ·refine ap hC hGL (xn1 ?_)
     intros
     refine B1 (aM (d8 4) (cK (i:=5) (p:=3) (x:=.cells b11 (some 29) [.int .i64 6,.str [],jN,jN]) (a':=.own 6 (.slice none 0 0)) rfl (fun R=>.cells rfl fun _=>gI))) ?_
     refine lp hC hGL (fun y:Nat×Value=>[(2,.own 0 (jAt b2)),(5,.own 2 (jAt b5)),(36,.list 15 l.length (itsF l)),(37,.int .i64 (l.length:Nat)),(38,.int .i64 (k:Nat)),(8,.own 4 (jAt b8)),(11,.own 5 (jAt b11)),(106,.list 1 x.2.L.length (bY x.2.L)),(107,.int .i64 (x.2.L.length:Nat)),(108,.int .i64 (y.1:Nat))]) (fun y=>[jZ b2,jRw 3 (k+1) v L,jL b5 1 v,jRw 2 3 w A,jL b8 3 w,jL b11 6 y.2,jRw 1 y.1 y.2 ((x.2.L.take y.1).map tsJ)]) (fun y=>y.1≤x.2.L.length) (fun y=>x.2.L.length-y.1) (0,.slice none 0 0) (Nat.zero_le _) ae rfl ?_
     rintro⟨j,u⟩ j1
     have j1:j≤x.2.L.length:=j1
     dsimp only
     by_cases hj:j<x.2.L.length
     ·have ts:=uo (G:=G) 0 (x.2.L.getD j []) (by have:=hL2 j;omega)
      refine xn1 ?_
      intros
      refine dw_p mixed hC hGL false (fun _:Option Addr×Nat×Nat=>[(2,.own 0 (jAt b2)),(5,.own 2 (jAt b5)),(36,.list 15 l.length (itsF l)),(37,.int .i64 (l.length:Nat)),(38,.int .i64 (k:Nat)),(8,.own 4 (jAt b8)),(11,.own 5 (jAt b11)),(106,.list 1 x.2.L.length (bY x.2.L)),(107,.int .i64 (x.2.L.length:Nat)),(108,.int .i64 (j:Nat))]) (fun z=>[jZ b2,jRw 3 (k+1) v L,jL b5 1 v,jRw 2 3 w A,jL b8 3 w,jL b11 6 (.slice z.1 z.2.1 z.2.2),.row (.slice z.1 z.2.1 z.2.2) none 4 (j+1) (jsC 1 ((x.2.L.take j).map tsJ)++Js.C 1 (tsJ (x.2.L.getD j [])))]) (.take 0 (.take 2 (.br 1 (.br 3 (.br 4 (.br 5 (.take 6 (.br 7 (.done) (.nil))) (.nil)) (.nil)) (.nil)) (.br 3 (.br 1 (.br 4 (.br 5 (.take 6 (.br 7 (.done) (.nil))) (.nil)) (.nil)) (.br 4 (.br 1 (.br 5 (.take 6 (.br 7 (.done) (.nil))) (.nil)) (.nil)) (.nil))) (.nil))))) (by kernel_rfl) ?_ ?_
      ·refine xn ?_
       repeat' (first|exact Le.n|refine Lc.mk ?_ ?_)
       all_goals intros
       all_goals exact⟨(_,_,_),ae,rfl⟩
      rintro⟨va,vk,vc⟩
      dsimp only
      refine xn1 ?_
      intros
      refine nxs (j+1,Value.slice va vk vc) hj (by show x.2.L.length-(j+1)<x.2.L.length-j;omega) ae ?_
      show[jZ b2,jRw 3 (k+1) v L,jL b5 1 v,jRw 2 3 w A,jL b8 3 w,jL b11 6 (.slice va vk vc),HEnt.row (.slice va vk vc) none 4 (j+1) (jsC 1 ((x.2.L.take (j+1)).map tsJ))].Sublist _
      rw[List.take_succ_eq_append_getElem hj,List.map_append,List.map_singleton,←bQ,List.getD_eq_getElem?_getD,List.getElem?_eq_getElem hj]
      exact List.Sublist.refl _
     ·obtain rfl:j=x.2.L.length:=by omega
      rw[List.take_length]
      have hml:(x.2.L.map tsJ).length=x.2.L.length:=List.length_map ..
      refine xn1 ?_
      intros
      refine cyT u trivial (aM (ft (i:=6) (k:=5) (p:=3) (jsF 2 (x.2.L.map tsJ)) rfl rfl (fun i hi=>fM 1 _ i (by omega)) (fun R hr=>.cells (a:=.own 6 u) rfl fun _=>eg hr)) (aM (cK (i:=5) (p:=2) (x:=.cells b11 (some 29) [.int .i64 6,.str [],jN,.list 4 x.2.L.length (jsF 2 (x.2.L.map tsJ))]) (a':=.list 1 0 (aq [])) rfl (fun R=>.cells rfl fun _=>eh)) ?_))
      unfold Js.C aJ
      dsimp only[Js.k,Js.t,Js.ks,Js.l]
      rw[hml]
      exact bm ae aB
    intro _ _
    refine ap hC hGL (xn1 ?_)
    intro va vk vc hva
    intros
    refine cyT (.slice va vk vc) trivial ?_
    show To _ _ _ _ _ [jZ b2,jRw 3 (k+1) v L,jL b5 1 v,HEnt.row (.slice va vk vc) none 4 (3+1) (jsC 2 (A++[aJ (x.2.L.map tsJ)])),jL b8 3 (.slice va vk vc)]
    rw[←bQ]
    exact bm ae aB
   refine cW (congrArg (fun z=>some (AVal.bool z)) (ic.2 ht3)) ?_
   by_cases ht1:x.2.t=1
   ·have hv:valJ x=[sJ x.2.s]:=by unfold valJ;rw[if_neg ht2,if_neg ht3,if_pos ht1]
    have ts:=eG (G:=G) 2 x.2.s
    rw[hv]
    refine ap hC hGL (xn1 ?_)
    intros
    refine dw_p mixed hC hGL false (fun _:Option Addr×Nat×Nat=>[(2,.own 0 (jAt b2)),(5,.own 2 (jAt b5)),(36,.list 15 l.length (itsF l)),(37,.int .i64 (l.length:Nat)),(38,.int .i64 (k:Nat)),(8,.own 4 (jAt b8))]) (fun z=>[jZ b2,jRw 3 (k+1) v L,jL b5 1 v,.row (.slice z.1 z.2.1 z.2.2) none 4 (3+1) (jsC 2 A++Js.C 2 (sJ x.2.s)),jL b8 3 (.slice z.1 z.2.1 z.2.2)]) (.take 0 (.take 2 (.take 3 (.br 1 (.br 4 (.br 5 (.br 6 (.br 7 (.take 8 (.br 9 (.done) (.nil))) (.nil)) (.nil)) (.nil)) (.nil)) (.br 4 (.br 1 (.br 5 (.br 6 (.br 7 (.take 8 (.br 9 (.done) (.nil))) (.nil)) (.nil)) (.nil)) (.br 5 (.br 1 (.br 6 (.br 7 (.take 8 (.br 9 (.done) (.nil))) (.nil)) (.nil)) (.br 6 (.br 1 (.br 7 (.take 8 (.br 9 (.done) (.nil))) (.nil)) (.nil)) (.nil))) (.nil))) (.nil)))))) (by kernel_rfl) ?_ ?_
    ·refine xn ?_
     repeat' (first|exact Le.n|refine Lc.mk ?_ ?_)
     all_goals intros
     all_goals exact⟨(_,_,_),ae,rfl⟩
    rintro⟨va,vk,vc⟩
    dsimp only
    rw[bQ]
    refine xn1 ?_
    intros
    exact cyT (.slice va vk vc) trivial (bm ae aB)
   have hv:valJ x=[sJ x.2.T]:=by unfold valJ;rw[if_neg ht2,if_neg ht3,if_neg ht1]
   have ts:=eG (G:=G) 2 x.2.T
   have hWr:=sK hE hM x.2 hx.s hx.L hx.v
   rw[hxe] at hWr
   unfold Vl.A at hWr
   simp only[Err.A] at hWr
   rw[hv]
   refine ap hC hGL (xn1 ?_)
   intros
   refine dw_p mixed hC hGL false (fun _:Option Addr×Nat×Nat=>[(2,.own 0 (jAt b2)),(5,.own 2 (jAt b5)),(36,.list 15 l.length (itsF l)),(37,.int .i64 (l.length:Nat)),(38,.int .i64 (k:Nat)),(8,.own 4 (jAt b8))]) (fun z=>[jZ b2,jRw 3 (k+1) v L,jL b5 1 v,.row (.slice z.1 z.2.1 z.2.2) none 4 (3+1) (jsC 2 A++Js.C 2 (sJ x.2.T)),jL b8 3 (.slice z.1 z.2.1 z.2.2)]) (.take 0 (.take 2 (.br 1 (.br 3 (.br 4 (.br 5 (.take 6 (.br 7 (.done) (.nil))) (.nil)) (.nil)) (.nil)) (.br 3 (.br 1 (.br 4 (.br 5 (.take 6 (.br 7 (.done) (.nil))) (.nil)) (.nil)) (.br 4 (.br 1 (.br 5 (.take 6 (.br 7 (.done) (.nil))) (.nil)) (.nil)) (.nil))) (.nil))))) (by kernel_rfl) ?_ ?_
   ·refine xn ?_
    repeat' (first|exact Le.n|refine Lc.mk ?_ ?_)
    all_goals intros
    all_goals exact⟨(_,_,_),ae,rfl⟩
   rintro⟨va,vk,vc⟩
   dsimp only
   rw[bQ]
   refine xn1 ?_
   intros
   exact cyT (.slice va vk vc) trivial (bm ae aB)
  intro w _
  have hl:(A++valJ x).length=3+(valJ x).length:=by rw[List.length_append,hAl]
  refine fp (aM (ft (i:=3) (k:=3) (p:=3) (jsF 3 (A++valJ x)) rfl rfl (fun i hi=>fM 2 _ i (by omega)) (fun R hr=>.cells (a:=.own 3 w) rfl fun _=>eg hr)) (aM (cK (i:=3) (p:=2) (x:=.cells b8 (some 29) [.int .i64 6,.str [],jN,.list 4 (3+(valJ x).length) (jsF 3 (A++valJ x))]) (a':=.list 1 0 (aq [])) rfl (fun R=>.cells rfl fun _=>eh)) (qU (k:=8) (a':=.own 3 (jAt b8)) rfl rD))) ?_
  refine ap hC hGL (xn1 ?_)
  intro va vk vc hva
  intros
  refine ap hC hGL (xn1 ?_)
  intros
  refine nxs (k+1,Value.slice va vk vc) ⟨hk,kg2⟩ (by show l.length-(k+1)<l.length-k;omega) ae ?_
  show[jZ b2,HEnt.row (.slice va vk vc) none 4 (k+1+1) (jsC 3 (verJ::(l.take (k+1)).map itJ)),jL b5 1 (.slice va vk vc)].Sublist _
  rw[hpush,←bQ,hit]
  unfold Js.C aJ
  dsimp only[Js.k,Js.t,Js.ks,Js.l]
  rw[hl]
  exact aB
 intro v hEn
 subst hEn
 have hT:T=crJ l:=hjt▸E3 hje
 have hl2:(verJ::l.map itJ).length=l.length+1:=by rw[List.length_cons,List.length_map]
 have tv:=eG (G:=G) 4 [118,99,97,114,100]
 have hTw:=F4 (G:=G) 4 (sJ [118,99,97,114,100]) (aJ (verJ::l.map itJ))
 refine fp (aM (ft (i:=1) (k:=1) (p:=3) (jsF 4 (verJ::l.map itJ)) rfl rfl (fun i hi=>fM 3 _ i (by omega)) (fun R hr=>.cells (a:=.own 1 v) rfl fun _=>eg hr)) (aM (cK (i:=1) (p:=2) (x:=.cells b5 (some 29) [.int .i64 6,.str [],jN,.list 4 (l.length+1) (jsF 4 (verJ::l.map itJ))]) (a':=.list 1 0 (aq [])) rfl (fun R=>.cells rfl fun _=>eh)) (qU (k:=5) (a':=.own 1 (jAt b5)) rfl rD))) ?_
 subst hT
 unfold Js.C aJ at hTw
 dsimp only[Js.k,Js.t,Js.ks,Js.l] at hTw
 rw[hl2] at hTw
 refine ap hC hGL (xn1 ?_)
 intros
 refine dw_p mixed hC hGL false (fun _:Unit=>[(2,.own 0 (jAt b2)),(3,.raw .nilIface)]) (fun _=>[.cells b2 (some 29) (Js.C 5 (crJ l)),.cells b5 (some 29) [.int .i64 6,.str [],.list 1 0 (aq []),.list 4 (l.length+1) (jsF 4 (verJ::l.map itJ))]]) (.br 0 (.br 1 (.br 2 (.br 3 (.br 4 (.take 5 (.done)) (.nil)) (.nil)) (.nil)) (.nil)) (.br 1 (.br 0 (.br 2 (.br 3 (.br 4 (.take 5 (.done)) (.nil)) (.nil)) (.nil)) (.nil)) (.nil))) (by kernel_rfl) ?_ ?_
 ·refine xn ?_
  repeat' (first|exact Le.n|refine Lc.mk ?_ ?_)
  all_goals intros
  all_goals exact⟨(),ae,rfl⟩
 intro _
 refine xn1 ?_
 exact EV rfl
theorem G1 {G:Glo}{m:Int}(hE:ad G errTy)(hE2:lz G)(hP:cQ G)(hM:ad G (bW m))(hS:SpIs G)(c:Crd)(hf:c.ok):FnIs Tryz.prog G 6 [c.A] (.tuple [.agg (Js.C 5 c.jT),c.jE.A]):=
 gO (F5 hE hE2 hP hM hS c hf) fun _ _ h=>xR h
end
section
open Go Go.RowKit
theorem Gc (n:List UInt8):(seqB (aj 65 90 32 n) (aj 65 90 32 [98,101,103,105,110])||(seqB (aj 65 90 32 n) (aj 65 90 32 [101,110,100])||seqB (aj 65 90 32 n) (aj 65 90 32 [118,101,114,115,105,111,110])))=frB n:=by
 rw[dA,dA,dA]
 rfl
theorem Fr (n:List UInt8):seqB (aj 65 90 32 n) (aj 65 90 32 [116,121,112,101])=seqB (aj 97 122 (-32) n) nTYP:=by
 rw[dA]
 rfl
attribute [local irreducible] AWp AOps aa aA OrOk ad ah
attribute [local irreducible] aj a7 Pr.fit Ln.E Ln.T Vl.E Vl.T eX bf cntI
theorem Bs {G:Glo}{m:Int}(hU:ad G utfTy)(hM:ad G (bW m))(hH:ad G shapesTy)(hP:cQ G)(x:Vl)(hs:x.s.length≤2500)(hL:Small x.L)(hv:x.OK):FnIs Tryz.prog G 21 [x.A] (.tuple [.str x.T,.int .i64 x.E.e]):=
 nP x (ix hU hM x hv (by omega) (fL hH x.st)) (nR x.s (by omega)) (pr x.L hL) (pm hH hP x.st) x.E_zero
theorem v7 {G:Glo}{m:Int}(hU:ad G utfTy)(hM:ad G (bW m))(hH:ad G shapesTy)(hP:cQ G)(v:Int)(x:Itm)(hx:x.OK 2500):FnIs Tryz.prog G 63 [itR x,.int .i64 v] (.str (x.L v)):=by
 have h1:=Bs hU hM hH hP x.2 hx.s hx.L hx.v
 have h2:=po hU x.ln (eqB v 4) (Itm.fit hx)
 unfold Itm.L
 unfold Vl.A at h1
 unfold Ln.A at h2
 unfold itR
 obtain⟨⟨g,n,ps,vv⟩,u⟩:=x
 unfold Itm.ln at h2 ⊢
 dsimp only at*
 generalize Ln.E (eqB v 4) ⟨g,n,ps,u.T⟩=eL at*
 generalize Ln.T (eqB v 4) ⟨g,n,ps,u.T⟩=tL at*
 generalize u.E=eV at*
 generalize u.T=tV at*
 have hGL:ad G []:=ab
 refine fn_x Tryz.func63 Tryz.call63 rfl rfl rfl rfl hGL ?_
 intro C hC
 exact xw0
theorem zD {G:Glo}{m:Int}(hU:ad G utfTy)(hM:ad G (bW m))(hH:ad G shapesTy)(hP:cQ G)(v:Int)(hv:v=3∨v=4)(x:Itm)(hx:x.OK 2500):FnIs Tryz.prog G 34 [itR x,.int .i64 v] (.int .i64 (x.w v)):=by
 have h1:=jF hU x.p (eqB v 4) hx.p.fit
 have h4:=fun e p=>CA (G:=G) e p
 have hn:x.1.n.length≤2500:=hx.p.n
 have hps:x.1.ps.length≤2500:=hx.p.ps
 have hq:∀k,(x.1.ps.getD k Pr.z).n.length≤2500∧(x.1.ps.getD k Pr.z).vs.length≤2500∧Lib.lens (x.1.ps.getD k Pr.z).vs≤2500:=hx.p.q
 have hvl:∀k j,((x.1.ps.getD k Pr.z).vs.getD j []).length≤2500:=fun k j=>by
  have:=cL (l:=(x.1.ps.getD k Pr.z).vs) (k:=j);have:=(hq k).2.2;omega
 have b1:=cT (G:=G) x.1.n [98,101,103,105,110] (by omega) (by decide)
 have b2:=cT (G:=G) x.1.n [101,110,100] (by omega) (by decide)
 have b3:=cT (G:=G) x.1.n [118,101,114,115,105,111,110] (by omega) (by decide)
 have hfr:=Gc x.1.n
 generalize seqB (aj 65 90 32 x.1.n) (aj 65 90 32 [98,101,103,105,110])=f1 at*
 generalize seqB (aj 65 90 32 x.1.n) (aj 65 90 32 [101,110,100])=f2 at*
 generalize seqB (aj 65 90 32 x.1.n) (aj 65 90 32 [118,101,114,115,105,111,110])=f3 at*
 have hve:verE v= .none:=by unfold verE;rw[if_pos hv]
 have hT:=Bt (G:=G) v x.1.n x.1.ps (by omega) (by omega) (fun k=>by have:=(hq k).1;omega) (fun k=>⟨by have:=(hq k).2.1;omega,by have:=hvl k 0;omega⟩)
 have hV:=ix hU hM x.2 hx.v (by have:=hx.s;omega) (fL hH x.2.st)
 have hR:=kN (G:=G) v x.1.n (by omega)
 have hrp:=FN v x.1.n
 have hlo:=v7 hU hM hH hP v x hx
 have hw:∀(_:x.p.E (eqB v 4)= .none) (_:frB x.1.n=false),(parE x.1.ps≠0→x.w v=parE x.1.ps)∧(parE x.1.ps=0→(x.k v≠x.2.t→x.w v=1)∧(x.k v=x.2.t→(x.2.E≠ .none→x.w v=x.2.E.e)∧(x.2.E= .none→x.w v=x.r v))):=fun a b=>⟨ES a b,fun c=>⟨ET a b c,fun d=>⟨ER a b c d,w_r a b c d⟩⟩⟩
 have hwl:=fun a=>w_ln (v:=v) (x:=x) a
 have hwf:=fun a b=>w_fr (v:=v) (x:=x) a b
 have hz:=Vl.E_zero x.2
 have hok:∀k,x.p.E (eqB v 4)= .none→k<x.1.ps.length→isS (x.1.ps.getD k Pr.z).n=true:=fun k h hk=>by
  have h1:firE (eqB v 4) x.p.ps 0= .none:=by
   unfold Ln.E at h
   split at h
   ·cases h
   ·split at h
    ·cases h
    ·cases hf:firE (eqB v 4) x.p.ps 0 with
     |none=>rfl
     |errno e=>rw[hf] at h;cases h
     | «at» e q=>rw[hf] at h;cases h
  have h2:=oG h1 (x.1.ps.getD k Pr.z) (by rw[List.getD_eq_getElem?_getD,List.getElem?_eq_getElem hk];exact List.getElem_mem hk)
  cases hn:isS (x.1.ps.getD k Pr.z).n with
  |true=>rfl
  |false=>rw[tK hn] at h2;cases h2
 rw[hve] at hT hR
 generalize x.w v=W at*
 unfold Itm.r at hw
 generalize x.L v=tL at*
 unfold Itm.k at hw
 obtain⟨⟨g,n,ps,vv⟩,u⟩:=x
 unfold itR at hlo ⊢
 unfold Vl.A at hV
 unfold Itm.p at h1 hw hwl hwf hok
 dsimp only at*
 generalize eX v n ps=K at*
 generalize bf v n=r at*
 unfold Rl.A at hR
 obtain⟨r0,r1,r2,r3⟩:=r
 dsimp only at*
 generalize u.E=eV at*
 generalize hE0:Ln.E (eqB v 4) ⟨g,n,ps,[]⟩=e0 at*
 have hfin:e0≠ .none→e0.e≠0:=fun h h2=>by
  have:=w_ok (v:=v) (x:=(⟨g,n,ps,vv⟩,u))
  unfold Itm.p at this
  dsimp only at this
  rw[hE0] at this
  refine h (this ?_)
  rw[w_ln (by unfold Itm.p;dsimp only;rw[hE0];exact h)]
  unfold Itm.p
  dsimp only
  rw[hE0]
  exact h2
 by_cases he:e0= .none
 ·subst he
  simp only[Err.e,Err.p] at h1
  have h4:=h4 0 (-1)
  cases hf:frB n with
  |true=>
   rw[hwf rfl hf]
   rw[hf] at hfr
   have hGL:ad G []:=ab
   refine fn_x Tryz.func34 Tryz.call34 rfl rfl rfl rfl hGL ?_
   intro C hC
   refine xw ?_
   repeat' (first|exact Le.n|refine Lc.mk ?_ ?_)
   all_goals intros
   all_goals (first|exact ak rfl|(exfalso;revert hfr;simp[*];done))
  |false=>
   rw[hf] at hfr
   have hw:=hw rfl hf
   simp only[Bool.or_eq_false_iff] at hfr
   obtain⟨rfl,rfl,rfl⟩:=hfr
   have hGL:ad G []:=ab
   refine fn_x Tryz.func34 Tryz.call34 rfl rfl rfl rfl hGL ?_
   intro C hC
   refine xw1 ?_
   intro b5
   intros
   refine lp hC hGL (fun k:Nat=>[(1,.int .i64 v),(2,.rop (bh (⟨g,n,ps,vv⟩,u)) 0),(44,.list 2 ps.length (prF ps)),(45,.int .i64 (ps.length:Nat)),(46,.int .i64 (k:Nat))]) (fun _=>[.cells b5 (some 32) [.int .i64 0,.int .i64 (-1)]]) (fun k=>k≤ps.length∧∀j,j<k→pE ps j=0) (fun k=>ps.length-k) 0 ⟨Nat.zero_le _,fun j h=>absurd h (Nat.not_lt_zero _)⟩ ae rfl ?_
   rintro k ⟨k1,k2⟩
   by_cases hk:k<ps.length
   ·have hqk:=hq k
    have hfi:=BA hP hM (ps.getD k Pr.z) (hok k rfl hk) (by omega) (by omega) (fun j=>by have:=hvl k j;omega)
    have hsa:=cT (G:=G) (ps.getD k Pr.z).n [116,121,112,101] (by omega) (by decide)
    rw[Fr] at hsa
    cases hf:(ps.getD k Pr.z).fit with
    |false=>
     rw[hf] at hfi
     have e:=pE_3 hf
     rw[hw.1 (by rw[fx hk k2 (by rw[e];decide),e];decide),fx hk k2 (by rw[e];decide),e]
     exact xw0
    |true=>
     rw[hf] at hfi
     refine xw1 ?_
     intro b7
     intros
     refine lp hC hGL (fun j:Nat=>[(1,.int .i64 v),(2,.rop (bh (⟨g,n,ps,vv⟩,u)) 0),(7,.own 1 (.pointer (some ⟨b7,0,none⟩))),(44,.list 2 ps.length (prF ps)),(45,.int .i64 (ps.length:Nat)),(46,.int .i64 (k:Nat)),(57,.list 2 k (prF ps)),(58,.int .i64 (k:Nat)),(59,.int .i64 (j:Nat))]) (fun _=>[.cells b5 (some 32) [.int .i64 0,.int .i64 (-1)],.cells b7 (some 60) [.str (ps.getD k Pr.z).n,.list 1 (ps.getD k Pr.z).vs.length (aq (ps.getD k Pr.z).vs)]]) (fun j=>j≤k∧∀i,i<j→(seqB (aj 97 122 (-32) (ps.getD k Pr.z).n) (aj 97 122 (-32) (ps.getD i Pr.z).n)&& !seqB (aj 97 122 (-32) (ps.getD k Pr.z).n) nTYP)=false) (fun j=>k-j) 0 ⟨Nat.zero_le _,fun j h=>absurd h (Nat.not_lt_zero _)⟩ ae rfl ?_
     rintro j ⟨j1,j2⟩
     by_cases hj:j<k
     ·have hqj:=hq j
      have hss:=cT (G:=G) (ps.getD k Pr.z).n (ps.getD j Pr.z).n (by omega) (by omega)
      rw[dA] at hss
      obtain⟨bt,hbt⟩:∃b,seqB (aj 97 122 (-32) (ps.getD k Pr.z).n) nTYP=b:=⟨_,rfl⟩
      cases bt with
      |true=>
       rw[hbt] at hsa
       have e:(seqB (aj 97 122 (-32) (ps.getD k Pr.z).n) (aj 97 122 (-32) (ps.getD j Pr.z).n)&& !seqB (aj 97 122 (-32) (ps.getD k Pr.z).n) nTYP)=false:=by rw[hbt,Bool.not_true,Bool.and_false]
       obtain⟨bs,hsm⟩:∃b,seqB (aj 97 122 (-32) (ps.getD k Pr.z).n) (aj 97 122 (-32) (ps.getD j Pr.z).n)=b:=⟨_,rfl⟩
       cases bs with
       |true=>
        rw[hsm] at hss
        refine xw1 ?_
        intros
        exact nxs (j+1) ⟨hj,fun i hi=>by
         rcases Nat.lt_or_eq_of_le (Nat.le_of_lt_succ hi) with g|rfl
         ·exact j2 i g
         ·exact e⟩ (by omega) ae aB
       |false=>
        rw[hsm] at hss
        refine xw1 ?_
        intros
        exact nxs (j+1) ⟨hj,fun i hi=>by
         rcases Nat.lt_or_eq_of_le (Nat.le_of_lt_succ hi) with g|rfl
         ·exact j2 i g
         ·exact e⟩ (by omega) ae aB
      |false=>
       rw[hbt] at hsa
       obtain⟨bs,hsm⟩:∃b,seqB (aj 97 122 (-32) (ps.getD k Pr.z).n) (aj 97 122 (-32) (ps.getD j Pr.z).n)=b:=⟨_,rfl⟩
       cases bs with
       |true=>
        rw[hsm] at hss
        have hd:a7 (ps.getD k Pr.z).n ps 0<(k:Int):=(qy hk).2 ⟨j,hj,(aY.1 hsm).symm⟩
        have e:=pE_9 hf (ip.1 hbt) hd
        rw[hw.1 (by rw[fx hk k2 (by rw[e];decide),e];decide),fx hk k2 (by rw[e];decide),e]
        exact xw0
       |false=>
        rw[hsm] at hss
        refine xw1 ?_
        intros
        exact nxs (j+1) ⟨hj,fun i hi=>by
         rcases Nat.lt_or_eq_of_le (Nat.le_of_lt_succ hi) with g|rfl
         ·exact j2 i g
         ·rw[hsm,Bool.false_and]⟩ (by omega) ae aB
     ·obtain rfl:j=k:=by omega
      have e:pE ps j=0:=pE_0 hf (fun h=>by
       obtain⟨i,hi,hs⟩:=(qy hk).1 h.2
       have:=j2 i hi
       rw[aY.2 hs.symm,ip.2 h.1] at this
       cases this)
      refine xw1 ?_
      intros
      exact nxs (j+1) ⟨by omega,aQ k2 e⟩ (by omega) ae aB
   ·have hw:=hw.2 (BE (by omega) k2)
    by_cases hK:K=u.t
    ·have hw:=hw.2 hK
     by_cases hV0:eV.e=0
     ·obtain rfl:=hz hV0
      have hw:=hw.2 rfl
      simp only[Err.e] at hV
      subst hw
      by_cases ha:u.t=3∧0<r3∧r3≠(u.L.length:Int)
      ·rw[if_pos ha]
       obtain⟨a1,a2,a3⟩:=ha
       have a4:r3≠0:=by omega
       exact xw0
      ·rw[if_neg ha]
       by_cases a1:u.t=3
       ·by_cases a2:r3=0
        ·by_cases hl:1500<tL.length
         ·rw[if_pos hl]
          exact xw0
         ·rw[if_neg hl]
          exact xw0
        ·have a3:r3=(u.L.length:Int):=by omega
         by_cases hl:1500<tL.length
         ·rw[if_pos hl]
          exact xw0
         ·rw[if_neg hl]
          exact xw0
       ·by_cases hl:1500<tL.length
        ·rw[if_pos hl]
         exact xw0
        ·rw[if_neg hl]
         exact xw0
     ·rw[hw.1 (fun h=>hV0 (by rw[h];rfl))]
      exact xw0
    ·rw[hw.1 hK]
     exact xw0
 ·have h0:=hfin he
  rw[hwl he]
  have h4:=h4 e0.e e0.p
  generalize e0.e=ee at*
  generalize e0.p=pp at*
  rw[show eqB ee 0=false from ic.2 h0] at h4
  have hGL:ad G []:=ab
  refine fn_x Tryz.func34 Tryz.call34 rfl rfl rfl rfl hGL ?_
  intro C hC
  exact xw0
end
section
open Go Go.RowKit
attribute [local irreducible] AWp AOps aa aA OrOk ad ah
attribute [local irreducible] aj bf cntI ar Itm.w fy leE
theorem p4 {G:Glo}(v:Int)(l:List Itm)(h70:l.length≤1000000)(ho:∀x∈l,Itm.OK 2500 x)(s:List UInt8)(hs:s.length≤1000000)(n:Nat)(hn:n≤l.length):FnIs Tryz.prog G 35 [.str s,.int .i64 (n:Int),.rop [.int .i64 v,.list 15 l.length (itsF l)] 0] (.int .i64 (cntI l (aj 97 122 (-32) s) n:Nat)):=by
 have hGL:ad G []:=ab
 refine fn_x Tryz.func35 Tryz.call35 rfl rfl rfl rfl hGL ?_
 intro C hC
 refine xw1 ?_
 intros
 refine lp hC hGL (fun k:Nat=>[(0,.str s),(6,.int .i64 (cntI l (aj 97 122 (-32) s) k:Nat)),(12,.list 15 n (itsF l)),(13,.int .i64 (n:Nat)),(14,.int .i64 (k:Nat))]) (fun _=>[]) (fun k=>k≤n) (fun k=>n-k) 0 (Nat.zero_le _) (by rw[qD];exact ae) rfl ?_
 intro k k1
 have k1:k≤n:=k1
 have hcl:=lj l (aj 97 122 (-32) s) k
 by_cases hk:k<n
 ·have hkl:k<l.length:=by omega
  have hnl:(l.getD k Itm.z).1.n.length≤2500:=(iF ho hkl).p.n
  have hS:=cT (G:=G) (l.getD k Itm.z).1.n s (by omega) (by omega)
  have hsu:=mf (s:=aj 97 122 (-32) s) hkl
  rw[dA] at hS
  generalize aj 97 122 (-32) s=U at*
  cases hb:seqB (aj 97 122 (-32) (l.getD k Itm.z).1.n) U with
  |true=>
   rw[hb] at hS hsu
   rw[if_pos rfl] at hsu
   have e:((cntI l U k:Nat):Int)+1=((cntI l U (k+1):Nat):Int):=by omega
   refine xw1 ?_
   intros
   exact nxs (k+1) hk (by omega) (by refine⟨rfl,?_,rfl,rfl,rfl,trivial⟩;exact congrArg (fun z=>some (AVal.int .i64 z)) e) aB
  |false=>
   rw[hb] at hS hsu
   rw[if_neg (by decide),Nat.add_zero] at hsu
   refine xw1 ?_
   intros
   exact nxs (k+1) hk (by omega) (by rw[hsu];exact ae) aB
 ·obtain rfl:k=n:=by omega
  exact xw0
theorem pu {G:Glo}{m:Int}(hU:ad G utfTy)(hM:ad G (bW m))(hH:ad G shapesTy)(hP:cQ G)(c:Crd)(hf:c.ok):FnIs Tryz.prog G 11 [c.A] (.agg [.int .i64 c.E.e,.int .i64 c.E.p]):=by
 obtain⟨v,l⟩:=c
 obtain⟨h70,ho⟩:=hf
 dsimp only at h70 ho
 have q1:=Tryz.call35
 have hN:=pn (G:=G) v
 have hB:=fun e=>fb (G:=G) e
 have hG:=fa (G:=G)
 by_cases hv:v=3∨v=4
 ·have hve:verE v= .none:=by unfold verE;rw[if_pos hv]
  rw[hve] at hN
  simp only[Err.e] at hN
  by_cases h60:60<l.length
  ·rw[Ff hv h60]
   have hB:=hB 4
   simp only[Err.e,Err.p]
   have hGL:ad G []:=ab
   refine fn_x Tryz.func11 Tryz.call11 rfl rfl rfl rfl hGL ?_
   intro C hC
   exact xw0
  ·have hone:∀k,k<l.length→FnIs Tryz.prog G 34 [itR (l.getD k Itm.z),.int .i64 v] (.int .i64 ((l.getD k Itm.z).w v)):=fun k hk=>zD hU hM hH hP v hv _ (iF ho hk)
   have hGL:ad G []:=ab
   refine fn_x Tryz.func11 Tryz.call11 rfl rfl rfl rfl hGL ?_
   intro C hC
   refine xw1 ?_
   intro bl
   intros
   refine lp hC hGL (fun k:Nat=>[(1,.rop [.int .i64 v,.list 15 l.length (itsF l)] 0),(2,.own 0 (.pointer (some ⟨bl,0,none⟩))),(3,.list 1 (ar v).length (aq (ar v))),(33,.list 15 l.length (itsF l)),(34,.int .i64 (l.length:Nat)),(35,.int .i64 (k:Nat))]) (fun _=>[.cells bl (some 32) [.int .i64 0,.int .i64 0]]) (fun k=>k≤l.length∧∀j,j<k→(l.getD j Itm.z).w v=0) (fun k=>l.length-k) 0 ⟨Nat.zero_le _,fun j h=>absurd h (Nat.not_lt_zero _)⟩ ae rfl ?_
   rintro k ⟨k1,k2⟩
   by_cases hk:k<l.length
   ·have h1:=hone k hk
    unfold itR at h1
    by_cases hw:(l.getD k Itm.z).w v=0
    ·rw[hw] at h1
     refine xw1 ?_
     intros
     exact nxs (k+1) ⟨hk,aQ k2 hw⟩ (by omega) ae aB
    ·rw[Fc hv h60 hk k2 hw]
     simp only[Err.e,Err.p]
     exact xw0
   ·obtain rfl:k=l.length:=by omega
    refine xw1 ?_
    intros
    refine lp hC hGL (fun k:Nat=>[(1,.rop [.int .i64 v,.list 15 l.length (itsF l)] 0),(2,.own 0 (.pointer (some ⟨bl,0,none⟩))),(3,.list 1 (ar v).length (aq (ar v))),(8,.func (.func 35) [] [.rop [.int .i64 v,.list 15 l.length (itsF l)] 0]),(52,.list 15 l.length (itsF l)),(53,.int .i64 (l.length:Nat)),(54,.int .i64 (k:Nat))]) (fun _=>[.cells bl (some 32) [.int .i64 0,.int .i64 0]]) (fun k=>k≤l.length∧∀j,j<k→fy v l j=0) (fun k=>l.length-k) 0 ⟨Nat.zero_le _,fun j h=>absurd h (Nat.not_lt_zero _)⟩ ae rfl ?_
    rintro k ⟨k1,km⟩
    by_cases hk:k<l.length
    ·have hnl:(l.getD k Itm.z).1.n.length≤2500:=(iF ho hk).p.n
     have hR:=kN (G:=G) v (l.getD k Itm.z).1.n (by omega)
     have hA:=p4 (G:=G) v l h70 ho (l.getD k Itm.z).1.n (by omega) k k1
     have hcl:=lj l (aj 97 122 (-32) (l.getD k Itm.z).1.n) k
     have h9:=BR (v:=v) (l:=l) (i:=k)
     have h0:=BS (v:=v) (l:=l) (i:=k)
     have hcm:=fun h=>Fd (v:=v) hv h60 k2 hk km h
     rw[hve] at hR
     unfold Rl.A at hR
     simp only[Err.e] at hR
     generalize bf v (l.getD k Itm.z).1.n=r at*
     obtain⟨r0,r1,r2,r3⟩:=r
     dsimp only at*
     generalize cntI l (aj 97 122 (-32) (l.getD k Itm.z).1.n) k=N at*
     by_cases hb:0<r2
     ·by_cases hc:r2≤(N:Int)
      ·have h9:=h9 hb hc
       rw[h9] at hcm
       rw[hcm (by decide)]
       simp only[Err.e,Err.p]
       refine xn1 ?_
       intros
       refine ig (aM (bn (i:=2) (k:=11) rfl rfl) (bn (i:=1) (k:=10) rfl rfl)) ?_
       refine dw_p mixed hC hGL false (fun _:Unit=>[(1,.rop [.int .i64 v,.list 15 l.length (itsF l)] 0),(2,.own 0 (.pointer (some ⟨bl,0,none⟩))),(3,.list 1 (ar v).length (aq (ar v))),(8,.func (.func 35) [] [.rop [.int .i64 v,.list 15 l.length (itsF l)] 0]),(9,.int .i64 (k:Nat)),(52,.list 15 l.length (itsF l)),(53,.int .i64 (l.length:Nat)),(54,.int .i64 (k:Nat)),(79,.bool (!ltB (N:Int) r2))]) (fun _=>[.cells bl (some 32) [.int .i64 0,.int .i64 0],ck,ck]) (.take 0 (.take 1 (.take 2 (.take 3 (.take 4 (.take 5 (.take 6 (.take 7 (.take 9 (.take 10 (.br 8 (.take 11 (.take 12 (.done))) (.nil)))))))))))) (by kernel_rfl) ?_ ?_
       ·refine xn ?_
        repeat' (first|exact Le.n|refine Lc.mk ?_ ?_)
        all_goals intros
        all_goals exact⟨(),ae,rfl⟩
       intro _
       exact xw0
      ·have h0:=h0 (fun h=>hc h.2)
       refine xn1 ?_
       intros
       refine ig (aM (bn (i:=2) (k:=11) rfl rfl) (bn (i:=1) (k:=10) rfl rfl)) ?_
       refine dw_p mixed hC hGL false (fun _:Unit=>[(1,.rop [.int .i64 v,.list 15 l.length (itsF l)] 0),(2,.own 0 (.pointer (some ⟨bl,0,none⟩))),(3,.list 1 (ar v).length (aq (ar v))),(8,.func (.func 35) [] [.rop [.int .i64 v,.list 15 l.length (itsF l)] 0]),(9,.int .i64 (k:Nat)),(52,.list 15 l.length (itsF l)),(53,.int .i64 (l.length:Nat)),(54,.int .i64 (k:Nat)),(79,.bool (!ltB (N:Int) r2))]) (fun _=>[.cells bl (some 32) [.int .i64 0,.int .i64 0],ck,ck]) (.take 0 (.take 1 (.take 2 (.take 3 (.take 4 (.take 5 (.take 6 (.take 7 (.take 9 (.take 10 (.br 8 (.take 11 (.take 12 (.done))) (.nil)))))))))))) (by kernel_rfl) ?_ ?_
       ·refine xn ?_
        repeat' (first|exact Le.n|refine Lc.mk ?_ ?_)
        all_goals intros
        all_goals exact⟨(),ae,rfl⟩
       intro _
       refine xw1 ?_
       intros
       exact nxs (k+1) ⟨hk,aQ km h0⟩ (by omega) ae aB
     ·have h0:=h0 (fun h=>hb h.1)
      refine xn1 ?_
      intros
      refine ig (aM (bn (i:=2) (k:=11) rfl rfl) (bn (i:=1) (k:=10) rfl rfl)) ?_
      refine dw_p mixed hC hGL false (fun _:Unit=>[(1,.rop [.int .i64 v,.list 15 l.length (itsF l)] 0),(2,.own 0 (.pointer (some ⟨bl,0,none⟩))),(3,.list 1 (ar v).length (aq (ar v))),(8,.func (.func 35) [] [.rop [.int .i64 v,.list 15 l.length (itsF l)] 0]),(9,.int .i64 (k:Nat)),(52,.list 15 l.length (itsF l)),(53,.int .i64 (l.length:Nat)),(54,.int .i64 (k:Nat)),(79,.bool false)]) (fun _=>[.cells bl (some 32) [.int .i64 0,.int .i64 0],ck,ck]) (.take 0 (.take 1 (.take 2 (.take 3 (.take 4 (.take 5 (.take 6 (.take 7 (.take 9 (.take 10 (.br 8 (.take 11 (.take 12 (.done))) (.nil)))))))))))) (by kernel_rfl) ?_ ?_
      ·refine xn ?_
       repeat' (first|exact Le.n|refine Lc.mk ?_ ?_)
       all_goals intros
       all_goals exact⟨(),ae,rfl⟩
      intro _
      refine xw1 ?_
      intros
      exact nxs (k+1) ⟨hk,aQ km h0⟩ (by omega) ae aB
    ·obtain rfl:k=l.length:=by omega
     rw[Fe hv h60 k2 km]
     refine xw1 ?_
     intros
     refine lp hC hGL (fun k:Nat=>[(1,.rop [.int .i64 v,.list 15 l.length (itsF l)] 0),(2,.own 0 (.pointer (some ⟨bl,0,none⟩))),(8,.func (.func 35) [] [.rop [.int .i64 v,.list 15 l.length (itsF l)] 0]),(83,.list 1 (ar v).length (aq (ar v))),(84,.int .i64 ((ar v).length:Nat)),(85,.int .i64 (k:Nat))]) (fun _=>[.cells bl (some 32) [.int .i64 0,.int .i64 0]]) (fun k=>k≤(ar v).length∧∀j,j<k→leE v l j=0) (fun k=>(ar v).length-k) 0 ⟨Nat.zero_le _,fun j h=>absurd h (Nat.not_lt_zero _)⟩ ae rfl ?_
     rintro k ⟨k1,kl⟩
     by_cases hk:k<(ar v).length
     ·have hnn:=tY hk
      have hnl:=qb v
      have hR:=kN (G:=G) v ((ar v).getD k []) (by omega)
      have hA:=p4 (G:=G) v l h70 ho ((ar v).getD k []) (by omega) l.length (Nat.le_refl _)
      have hcl:=lj l ((ar v).getD k []) l.length
      have hB:=hB 7
      rw[hnn.1] at hA
      rw[hve] at hR
      unfold Rl.A at hR
      simp only[Err.e] at hR
      have h7:=le_7 (v:=v) (l:=l) (i:=k)
      have h0:=le_0 (v:=v) (l:=l) (i:=k)
      have hf7:=fun h=>nf (f:=leE v l) hk kl h
      generalize bf v ((ar v).getD k [])=r at*
      obtain⟨r0,r1,r2,r3⟩:=r
      dsimp only at*
      generalize cntI l ((ar v).getD k []) l.length=N at*
      by_cases hb:(N:Int)<r1
      ·have h7:=h7 hb
       rw[h7] at hf7
       rw[hf7 (by decide),if_neg (by decide)]
       simp only[Err.e,Err.p]
       refine xn1 ?_
       intros
       refine ig (bn (i:=1) (k:=15) rfl rfl) ?_
       refine dw_p mixed hC hGL false (fun _:Unit=>[(1,.rop [.int .i64 v,.list 15 l.length (itsF l)] 0),(2,.own 0 (.pointer (some ⟨bl,0,none⟩))),(8,.func (.func 35) [] [.rop [.int .i64 v,.list 15 l.length (itsF l)] 0]),(83,.list 1 (ar v).length (aq (ar v))),(84,.int .i64 ((ar v).length:Nat)),(85,.int .i64 (k:Nat)),(104,.bool (ltB (N:Int) r1))]) (fun _=>[.cells bl (some 32) [.int .i64 0,.int .i64 0],ck]) (.take 0 (.take 1 (.take 2 (.take 3 (.take 4 (.take 6 (.take 7 (.br 5 (.take 8 (.done)) (.nil))))))))) (by kernel_rfl) ?_ ?_
       ·refine xn ?_
        repeat' (first|exact Le.n|refine Lc.mk ?_ ?_)
        all_goals intros
        all_goals exact⟨(),ae,rfl⟩
       intro _
       exact xw0
      ·have h0:=h0 hb
       refine xn1 ?_
       intros
       refine ig (bn (i:=1) (k:=15) rfl rfl) ?_
       refine dw_p mixed hC hGL false (fun _:Unit=>[(1,.rop [.int .i64 v,.list 15 l.length (itsF l)] 0),(2,.own 0 (.pointer (some ⟨bl,0,none⟩))),(8,.func (.func 35) [] [.rop [.int .i64 v,.list 15 l.length (itsF l)] 0]),(83,.list 1 (ar v).length (aq (ar v))),(84,.int .i64 ((ar v).length:Nat)),(85,.int .i64 (k:Nat)),(104,.bool (ltB (N:Int) r1))]) (fun _=>[.cells bl (some 32) [.int .i64 0,.int .i64 0],ck]) (.take 0 (.take 1 (.take 2 (.take 3 (.take 4 (.take 6 (.take 7 (.br 5 (.take 8 (.done)) (.nil))))))))) (by kernel_rfl) ?_ ?_
       ·refine xn ?_
        repeat' (first|exact Le.n|refine Lc.mk ?_ ?_)
        all_goals intros
        all_goals exact⟨(),ae,rfl⟩
       intro _
       refine xw1 ?_
       intros
       exact nxs (k+1) ⟨hk,aQ kl h0⟩ (by omega) ae aB
     ·obtain rfl:k=(ar v).length:=by omega
      rw[gg (f:=leE v l) kl,if_pos rfl]
      simp only[Err.e,Err.p]
      exact xw0
 ·rw[Fg hv]
  have hve:verE v= .errno 1:=by unfold verE;rw[if_neg hv]
  rw[hve] at hN
  have hB:=hB 1
  simp only[Err.e,Err.p] at hN ⊢
  have hGL:ad G []:=ab
  refine fn_x Tryz.func11 Tryz.call11 rfl rfl rfl rfl hGL ?_
  intro C hC
  exact xw0
end
section
open Go Go.RowKit
theorem wM {f:Nat→Int}:∀{n:Nat},(fstE f n= .none)∨∃k,k<n∧fstE f n= .at (f k) k∧f k≠0
 |0=>.inl rfl
 |n+1=>by
  rcases wM (f:=f) (n:=n) with h|⟨k,h1,h2,h3⟩
  ·rw[fstE,h]
   by_cases h0:f n=0
   ·exact .inl (by simp only[h0,if_true])
   ·exact .inr ⟨n,by omega,by simp only[h0,if_false],h0⟩
  ·exact .inr ⟨k,by omega,by rw[fstE,h2],h3⟩
theorem Gn (c:Crd):c.E= .none∨(c.E.e≠0∧∀e p,c.E= .at e p→0≤p):=by
 unfold Crd.E
 split
 ·split
  ·exact .inr ⟨by decide,fun e p h=>by cases h⟩
  ·rcases wM (f:=fun i=>(c.l.getD i Itm.z).w c.v) (n:=c.l.length) with h|⟨k,h1,h2,h3⟩
   ·rw[h]
    dsimp only
    rcases wM (f:=fy c.v c.l) (n:=c.l.length) with h|⟨k,h1,h2,h3⟩
    ·rw[h]
     dsimp only
     split
     ·exact .inl rfl
     ·exact .inr ⟨by decide,fun e p h=>by cases h⟩
    ·rw[h2]
     exact .inr ⟨h3,fun e p h=>by cases h;omega⟩
   ·rw[h2]
    exact .inr ⟨h3,fun e p h=>by cases h;omega⟩
 ·exact .inr ⟨by decide,fun e p h=>by cases h⟩
end
end Go.Proofs.YtdpbejofgemloaaGreatDoor
