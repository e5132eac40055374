/- Parts of the proof of jcardReads_card. -/
import Derived.Laws.StructEq
import Derived.Test.YtpgdnpielhfpgaaGreatDoorBaj
set_option linter.unusedVariables false
set_option linter.unusedSimpArgs false
set_option linter.unusedSectionVars false
namespace Go.Proofs.YtpgdnpielhfpgaaGreatDoor
open Go Go.RowKit
open Tryz
set_option maxRecDepth 20000
set_option maxHeartbeats 4000000
section
theorem wY {c:Bool}:∀{l:List Pr} {i:Nat},kB c l i= .none->∀q∈l,si c q=0
 |[],_,_,q,h=>by cases h
 |x::l,i,h,q,hq=>by
  simp only[kB] at h;split at h
  ·rename_i h0;rcases List.mem_cons.1 hq with rfl|hq
   ·exact h0
   ·exact wY h q hq
  ·cases h
theorem Ln.E_inv {c:Bool}{p:Ln}(h:p.E c= .none):p.ps.length<=20/\∀k,k<p.ps.length->(p.ps.getD k Pr.z).vs.length≠0:=by
 unfold Ln.E at h;split at h
 ·cases h
 ·split at h
  ·cases h
  ·refine⟨by omega,λk hk h0=> ?_⟩;have hf:kB c p.ps 0= .none:=by
    cases hf:kB c p.ps 0 with
    |none=>rfl
    |errno e=>rw[hf] at h;cases h
    | «at» e q=>rw[hf] at h;cases h
   have h1:=wY hf (p.ps.getD k Pr.z) (by rw[List.getD_eq_getElem?_getD,List.getElem?_eq_getElem hk];exact List.getElem_mem hk);cases hn:isS (p.ps.getD k Pr.z).n with
   |false=>rw[C8 hn] at h1;cases h1
   |true=>rw[HN hn h0] at h1;cases h1
theorem RU {P:Program}[Tab P]{C:Ctx}{n:Nat}{env:Env}{H:Heap}{Q:aQ->Env->Heap->Prop}{c:Code}(i:Nat){b:Nat}(hi:H[i]? =some (.cells b (some 120) [.raw (.pointer none),.raw (.slice none 0 0)]))
  (h:bN P C n c env (H.set i (co b (.pointer none) H.length (.slice none 0 0))++[eN (.slice none 0 0) []]) Q):bN P C n c env H Q:=by
 refine mM (eT:=some 5) 1 ?_;unfold bN at h ⊢;intro R a w hm hf;obtain⟨Cs,e,fz,hb,hl,hr⟩:=hm.heap.holds (.cells b (some 120) [.raw (.pointer none),.raw (.slice none 0 0)]) (List.mem_cons_of_mem _ (List.mem_of_getElem? hi));obtain⟨v1,t1,e1,r1,v2,t2,e2,r2,e3⟩:=hl;have r2':bh R (.own H.length (.slice none 0 0)) [v2]:=by
  have:v2= .slice none 0 0:=by simpa[bh,Value.cells] using r2
  subst this;simp[bh,cU]
 have h1:=hm.swap (i:=i+1) (x:=.cells b (some 120) [.raw (.pointer none),.raw (.slice none 0 0)]) (y:=co b (.pointer none) H.length (.slice none 0 0)) (by rw[List.getElem?_cons_succ];exact hi) rfl
  ⟨Cs,e,fz,hb,⟨v1,t1,e1,r1,v2,t2,e2,r2',e3⟩,hr⟩
 rw[List.set_cons_succ] at h1;exact h R a w (h1.perm (List.perm_append_singleton _ _).symm) hf
theorem R5 {s:List UInt8}:0<=Lib.indexAny s [44,59,58]↔0<=jf qD s:=by
 have key:∀x:UInt8,([44,59,58]:List UInt8).contains x=qD (x.toNat:Int):=by
  intro x;unfold qD;rw[Bool.eq_iff_iff,Bg,decide_eq_true_eq];simp only[List.mem_cons,List.not_mem_nil,or_false,exists_eq_or_imp,exists_eq_left];exact Iff.rfl
 rcases mF qD s with⟨h1,h2⟩|⟨m,h1,h2,h3,h4⟩
 ·rw[Lib.indexAny_none (λj x hj hx=>by
   rw[key,ec hx];exact h2 j hj),h1]
 ·have hx:s[m]? =some s[m]:=List.getElem?_eq_getElem h1;rw[Lib.indexAny_hit (i:=m) (λj x hj hx=>by
   rw[key,ec hx];exact h4 j hj) hx (by rw[key,ec hx];exact h3),h2]
attribute [local irreducible] bN aw aa aC bg ab ae
attribute [local irreducible] ow fh dy isS jr fi fd yS pd nG pY
theorem Bz {G:Glo}(s:List UInt8)(hl:s.length<=4000000):aj prog G 156 [.str s,.str [44,59,58]] (.bool (decide (0<=jf qD s))):=by
 have hI:=Gn (G:=G) (cs:=[44,59,58]) (KR (by decide) (by decide) (by decide)) (by decide) (by decide) (by decide) s (by omega);refine ao func156 call156 λC hC hGL=> ?_;refine a6 ?_;apply ak;refine congrArg AVal.bool ?_;rw[Bool.eq_iff_iff];simp only[Bool.not_eq_true',mW,decide_eq_true_eq,R5]
theorem VA {c:Bool}{s:List UInt8}(h:decide (0<=jf qD (pY c s))=true):fd c s=34::pY c s++[34]:=by
 unfold fd;rw[if_neg (by have:=of_decide_eq_true h;omega)]
theorem VB {c:Bool}{s:List UInt8}(h:decide (0<=jf qD (pY c s))=false):fd c s=pY c s:=by
 unfold fd;rw[if_pos (by have:=of_decide_eq_false h;omega)]
theorem SB (s:List UInt8):pY true s=fi s:=by unfold pY;rfl
theorem SC (s:List UInt8):pY false s=s:=by unfold pY;rfl
theorem WP {c:Bool}{vs:List (List UInt8)}{j:Nat}(hj:j<vs.length)(h:(j:Int)=0)(t:List UInt8):t++yS c vs (j+1)=t++yS c vs j++[61]++fd c (vs.getD j []):=by
 rw[B9 hj,if_pos (by omega)];simp only[List.append_assoc]
theorem WO {c:Bool}{vs:List (List UInt8)}{j:Nat}(hj:j<vs.length)(h:(j:Int)≠0)(t:List UInt8):t++yS c vs (j+1)=t++yS c vs j++[44]++fd c (vs.getD j []):=by
 rw[B9 hj,if_neg (by omega)];simp only[List.append_assoc]
theorem F1 {G:Glo}(p:Ln)(c:Bool)(ho:p.Fit):aj prog G 96 [p.A,.bool c] (.tuple [.str (p.T c),(p.E c).A]):=by
  have h0:=wm (G:=G) p c ho;rcases hq:p.E c with _|e|⟨e,i⟩
  case errno=>
    rw[hq] at h0;rw[show p.T c=[] by unfold Ln.T;rw[hq]];refine ao func96 call96 λC hC hGL=> ?_;exact ba
  case «at» =>
    rw[hq] at h0;rw[show p.T c=[] by unfold Ln.T;rw[hq]];refine ao func96 call96 λC hC hGL=> ?_;exact ba
  rw[hq] at h0;rw[show p.T c=p.txt c by unfold Ln.T;rw[hq],Hj];obtain⟨i1,i2⟩:=Ln.E_inv hq;have o1:=ho.g;have o2:=ho.n;have o3:=ho.v;have o4:∀k,k<=p.ps.length->(pd c p.ps k).length<=20*6600002:=λk hk=>by
    have h1:=AU (N:=1100000) (c:=c) (λk=>⟨(ho.q k).1,by have:=(ho.q k).2.1;omega,by have:=(ho.q k).2.2;omega⟩) k hk;rw[show 2+6*1100000=6600002 by decide] at h1;have h2:=Nat.mul_le_mul_right 6600002 (show k<=20 by omega);exact Nat.le_trans h1 h2
  have hd1:p.g.length≠0->p.g++[46]++p.n=nG p:=λh=>by unfold nG;rw[if_neg h]
  have hd0:p.g.length=0->p.n=nG p:=λh=>by unfold nG;rw[if_pos h]
  have kN:(nG p).length<=2200001:=by
    unfold nG;split
    · omega
    · simp only[List.length_append,List.length_cons,List.length_nil];omega
  refine fN func96 call96 λC hC hGL=> ?_;refine cut hC hGL [(1,.bool c),(2,.rop [.str p.g,.str p.n,.list 2 p.ps.length (fH p.ps),.str p.v] 0)] [] True ?_ λ_=> ?_
  · exact ba
  refine cut hC hGL [(1,.bool c),(2,.rop [.str p.g,.str p.n,.list 2 p.ps.length (fH p.ps),.str p.v] 0)] [] True ?_ λ_=> ?_
  · exact ba
  refine dU hC hGL (λbl:Nat=>[(1,.bool c),(2,.rop [.str p.g,.str p.n,.list 2 p.ps.length (fH p.ps),.str p.v] 0),(7,.own 0 (cP bl))]) (λbl=>[.cells bl (some 120) [.raw (.pointer none),.raw (.slice none 0 0)]]) (λ_=>True) ?_ λbl _=> ?_
  · refine a6 ?_;intro bl;exact cy bl trivial
  refine RU 0 rfl ?_;refine dU hC hGL (λx:Value×Value×List UInt8=>[(1,.bool c),(2,.rop [.str p.g,.str p.n,.list 2 p.ps.length (fH p.ps),.str p.v] 0),(7,.own 0 (cP bl))]) (λx=>[co bl x.1 1 x.2.1,eN x.2.1 x.2.2]) (λx=>xP bl x.1/\x.2.2.length<=1100001/\x.2.2++p.n=nG p) ?_ λx hx=> ?_
  · refine xw ?_;repeat' first|exact .n|apply Lc.mk
    all_goals intros
    · apply gA (i:=0) (j:=1) rfl rfl (by decide) (da (.inl rfl) _ [] (p.g++[46]) (by simp only[List.length_append,List.length_cons,List.length_nil];omega));intro ua uk uc;refine a6 ?_;exact cy (cP bl,.slice ua uk uc,[]++(p.g++[46])) ⟨.inr rfl,by simp only[List.length_append,List.length_cons,List.length_nil];omega,by rw[List.nil_append];exact hd1 (by assumption)⟩
    · exact cy (.pointer none,.slice none 0 0,[]) ⟨.inl rfl,by simp,by rw[List.nil_append];exact hd0 (by assumption)⟩
  obtain⟨pa,va,tx⟩:=x;obtain⟨hp,hlx,htx⟩:=hx;dsimp only at hp hlx htx;refine dU hC hGL (λx:Value=>[(1,.bool c),(2,.rop [.str p.g,.str p.n,.list 2 p.ps.length (fH p.ps),.str p.v] 0),(7,.own 0 (cP bl))]) (λx=>[co bl (cP bl) 1 x,eN x (nG p++pd c p.ps 0)]) (λx=>True) ?_ λvb _=> ?_
  · refine a6 ?_;apply gA (i:=0) (j:=1) rfl rfl (by decide) (da hp va tx p.n (by omega));intro ua uk uc;rw[htx.trans (show nG p=nG p++pd c p.ps 0 by rw[show pd c p.ps 0=[] by unfold pd;rfl,List.append_nil])];refine a6 ?_;exact cy (.slice ua uk uc) trivial
  clear htx hp hlx;refine am hC hGL ?_;refine a6 ?_;refine lp hC hGL (λx:Nat×Value=>[(1,.bool c),(2,.rop [.str p.g,.str p.n,.list 2 p.ps.length (fH p.ps),.str p.v] 0),(7,.own 0 (cP bl)),(29,.list 2 p.ps.length (fH p.ps)),(30,.int .i64 (p.ps.length:Nat)),(31,.int .i64 (x.1:Nat))]) (λx=>[co bl (cP bl) 1 x.2,eN x.2 (nG p++pd c p.ps x.1)]) (λx=>x.1<=p.ps.length) (λx=>p.ps.length-x.1) (0,vb) ?_ ad rfl ?_
  · exact Nat.zero_le _
  rintro⟨k,v⟩ h1;dsimp only at h1;have ol:=o4 k h1;have hqk:=ho.q k;refine xn ?_;repeat' first|exact .n|apply Lc.mk
  all_goals intros
  · rename_i b9 hkl;dsimp only at hkl;have hk:k<p.ps.length:=by omega
    apply gA (i:=0) (j:=1) rfl rfl (by decide) (da (.inr rfl) v (nG p++pd c p.ps k) ([59]++(p.ps.getD k Pr.z).n) (by simp only[List.length_append,List.length_cons,List.length_nil];omega));intro ua uk uc;generalize hX:nG p++pd c p.ps k++([59]++(p.ps.getD k Pr.z).n)=X;have hXl:X.length<=210000000:=by
      rw[<-hX];simp only[List.length_append,List.length_cons,List.length_nil];omega
    refine a6 ?_;refine lp hC hGL (λx:Nat×Value=>[(1,.bool c),(2,.rop [.str p.g,.str p.n,.list 2 p.ps.length (fH p.ps),.str p.v] 0),(7,.own 0 (cP bl)),(29,.list 2 p.ps.length (fH p.ps)),(30,.int .i64 (p.ps.length:Nat)),(31,.int .i64 (k:Nat)),(40,.list 1 (p.ps.getD k Pr.z).vs.length (ay (p.ps.getD k Pr.z).vs)),(41,.int .i64 ((p.ps.getD k Pr.z).vs.length:Nat)),(42,.int .i64 (x.1:Nat))]) (λx=>[co bl (cP bl) 1 x.2,eN x.2 (X++yS c (p.ps.getD k Pr.z).vs x.1),.cells b9 (some 75) [.str (p.ps.getD k Pr.z).n,.list 1 (p.ps.getD k Pr.z).vs.length (ay (p.ps.getD k Pr.z).vs)]]) (λx=>x.1<=(p.ps.getD k Pr.z).vs.length) (λx=>(p.ps.getD k Pr.z).vs.length-x.1) (0,.slice ua uk uc) ?_ ad ?_ ?_
    · exact Nat.zero_le _
    · dsimp only
      rw[show yS c (p.ps.getD k Pr.z).vs 0=[] by unfold yS;rfl,List.append_nil]
    rintro⟨j,u⟩ g1;dsimp only at g1;have hvl:=PB c (p.ps.getD k Pr.z).vs j;have hj1:=eo (l:=(p.ps.getD k Pr.z).vs) (k:=j);have hel:=Br c ((p.ps.getD k Pr.z).vs.getD j []);have hql:=C5 c ((p.ps.getD k Pr.z).vs.getD j []);have hE:=ru (G:=G) ((p.ps.getD k Pr.z).vs.getD j []) (by omega) (oI _);have hQ:=Bz (G:=G) (pY c ((p.ps.getD k Pr.z).vs.getD j [])) (by omega);have hY:=VA (c:=c) (s:=(p.ps.getD k Pr.z).vs.getD j []);have hN:=VB (c:=c) (s:=(p.ps.getD k Pr.z).vs.getD j []);have hv0:=λ(hj:j<(p.ps.getD k Pr.z).vs.length) (h:(j:Int)=0)=>WP (c:=c) hj h X;have hv1:=λ(hj:j<(p.ps.getD k Pr.z).vs.length) (h:(j:Int)≠0)=>WO (c:=c) hj h X;refine xw ?_;repeat' first|exact .n|apply Lc.mk
    all_goals intros
    all_goals first
      | (have hj0:=hv0 (by omega) (by assumption)
         apply gA (i:=0) (j:=1) rfl rfl (by decide) (da (.inr rfl) u (X++yS c (p.ps.getD k Pr.z).vs j) [61] (by simp only[List.length_append,List.length_cons,List.length_nil];omega))
         intro xa xk xc
         cases c
         all_goals
           simp only[SB,SC] at hQ hY hN hel;refine xw ?_;repeat' first|exact .n|apply Lc.mk
           all_goals intros
           all_goals
             first
             | (have hy:=hY (by assumption)
                apply gA (i:=0) (j:=1) rfl rfl (by decide) (da (.inr rfl) (.slice xa xk xc) _ _ (by rw[hy] at hql;simp only[List.length_append,List.length_cons,List.length_nil] at*;omega))
                intro ya yk yc
                refine a6 ?_
                refine cJ (j+1,.slice ya yk yc) (by dsimp only;omega) (by dsimp only;omega) ad ?_
                dsimp only
                rw[hj0,hy]
                exact an)
             | (have hy:=hN (by assumption)
                apply gA (i:=0) (j:=1) rfl rfl (by decide) (da (.inr rfl) (.slice xa xk xc) _ _ (by simp only[List.length_append,List.length_cons,List.length_nil] at*;omega))
                intro ya yk yc
                refine a6 ?_
                refine cJ (j+1,.slice ya yk yc) (by dsimp only;omega) (by dsimp only;omega) ad ?_
                dsimp only
                rw[hj0,hy]
                exact an))
      | (have hj1:=hv1 (by omega) (by assumption)
         apply gA (i:=0) (j:=1) rfl rfl (by decide) (da (.inr rfl) u (X++yS c (p.ps.getD k Pr.z).vs j) [44] (by simp only[List.length_append,List.length_cons,List.length_nil];omega))
         intro xa xk xc
         cases c
         all_goals
           simp only[SB,SC] at hQ hY hN hel;refine xw ?_;repeat' first|exact .n|apply Lc.mk
           all_goals intros
           all_goals
             first
             | (have hy:=hY (by assumption)
                apply gA (i:=0) (j:=1) rfl rfl (by decide) (da (.inr rfl) (.slice xa xk xc) _ _ (by rw[hy] at hql;simp only[List.length_append,List.length_cons,List.length_nil] at*;omega))
                intro ya yk yc
                refine a6 ?_
                refine cJ (j+1,.slice ya yk yc) (by dsimp only;omega) (by dsimp only;omega) ad ?_
                dsimp only
                rw[hj1,hy]
                exact an)
             | (have hy:=hN (by assumption)
                apply gA (i:=0) (j:=1) rfl rfl (by decide) (da (.inr rfl) (.slice xa xk xc) _ _ (by simp only[List.length_append,List.length_cons,List.length_nil] at*;omega))
                intro ya yk yc
                refine a6 ?_
                refine cJ (j+1,.slice ya yk yc) (by dsimp only;omega) (by dsimp only;omega) ad ?_
                dsimp only
                rw[hj1,hy]
                exact an))
      | (have hj9:(p.ps.getD k Pr.z).vs.length=j:=by omega
         refine cJ (k+1,u) (by dsimp only;omega) (by dsimp only;omega) ad ?_
         dsimp only
         rw[show nG p++pd c p.ps (k+1)=X++yS c (p.ps.getD k Pr.z).vs j by
           rw[vV hk,PC (i2 k hk),<-hX,hj9];simp only[List.append_assoc,List.cons_append,List.nil_append]]
         exact an)
  · have hkk:k=p.ps.length:=by dsimp only at*;omega
    subst hkk;refine cR mixed hC hGL false (λ(_:Unit)=>[(4,.str (nG p++pd c p.ps p.ps.length++[58]++p.v)),(5,.raw .nilIface)]) (λ_=>[gy,gy]) (.t 2 (.t 3 (.b 0 (.t 1 (.t 4 (.t 5 (.t 6 .done))))))) (by kernel_rfl) ?_ ?_
    · refine az ?_;intro C hC;refine UA (i:=0) (j:=1) rfl rfl (by decide) (xD (nG p++pd c p.ps p.ps.length) (by rw[List.length_append];omega)) ?_;have hlen:(nG p++pd c p.ps p.ps.length).length<=200000000:=by rw[List.length_append];omega
      refine xn ?_;repeat' first|exact .n|apply Lc.mk
      all_goals intros
      all_goals exact⟨(),⟨rfl,rfl,trivial⟩,rfl⟩
    · intro _;exact cx
end
section
theorem GH {s:List UInt8}{i:Nat}(h:i<s.length):fi (s.take (i+1))=fi (s.take i)++encF s[i]:=by
 rw[List.take_succ_eq_append_getElem h,Oc];simp[fi]
theorem SY {c:UInt8}{k:Nat}(hk:k<256)(h:c.toNat=k):c=UInt8.ofNat k:=by
 rw[<-h,UInt8.ofNat_toNat]
attribute [local irreducible] bN aw aa aC bg ab ae
attribute [local irreducible] encF fi
theorem vS {G:Glo}(s:List UInt8)(hl:s.length<=2000000):aj prog G 172 [.str s] (.str (fi s)):=by
 refine ao func172 call172 λC hC hGL=> ?_;refine a6 ?_
 intro bl cap hcap
 intros
 refine lp hC hGL (λi:Nat=>[(3,.str (fi (s.take i))),(7,.own 0 (.slice (some ⟨bl,0,none⟩) s.length cap)),(8,.int .i64 (s.length:Nat)),(9,.int .i64 (i:Nat))]) (λ_=>[.buf bl s cap]) (λi=>i<=s.length) (λi=>s.length-i) 0 (Nat.zero_le _) ⟨?_,rfl,rfl,rfl,trivial⟩ rfl ?_
 ·show some (AVal.str [])=some (AVal.str (fi (s.take 0)))
  rw[List.take_zero,Oa]
 ·intro i hi
  have e1:=(rl (s.take i)).2
  rw[List.length_take,Nat.min_eq_left hi] at e1
  by_cases hlt:i<s.length
  ·have et:=GH hlt
   have hb0:=BB hlt
   have hby:=bu s i
   rcases(show aa s i=94\/aa s i=10\/aa s i=34\/(aa s i≠94/\aa s i≠10/\aa s i≠34) by omega) with hk|hk|hk|⟨k1,k2,k3⟩
   ·have he:encF s[i]=[94,94]:=by rw[SY (by decide) (hb0.symm.trans hk)];exact Ut
    refine a6 ?_
    intros
    refine di (i+1) ?_ ?_ ⟨?_,rfl,rfl,rfl,trivial⟩ rfl
    ·exact hlt
    ·show s.length-(i+1)<s.length-i;omega
    ·rw[et,he];rfl
   ·have he:encF s[i]=[94,110]:=by rw[SY (by decide) (hb0.symm.trans hk)];exact Uv
    refine a6 ?_
    intros
    refine di (i+1) ?_ ?_ ⟨?_,rfl,rfl,rfl,trivial⟩ rfl
    ·exact hlt
    ·show s.length-(i+1)<s.length-i;omega
    ·rw[et,he];rfl
   ·have he:encF s[i]=[94,39]:=by rw[SY (by decide) (hb0.symm.trans hk)];exact Uu
    refine a6 ?_
    intros
    refine di (i+1) ?_ ?_ ⟨?_,rfl,rfl,rfl,trivial⟩ rfl
    ·exact hlt
    ·show s.length-(i+1)<s.length-i;omega
    ·rw[et,he];rfl
   ·have he:encF s[i]=bL [(aa s i:Int)]:=by
     rw[Ee (by rw[<-hb0];exact k1) (by rw[<-hb0];exact k2) (by rw[<-hb0];exact k3),hb0]
     simp[bL]
    refine a6 ?_
    intros
    refine aP hC hGL (cW [(aa s i:Int)] rfl (by intro v hv;simp only[List.mem_cons,List.not_mem_nil,or_false] at hv;omega) rfl rfl rfl rfl rfl rfl) rfl rfl ?_
    have hl9:(bL [(aa s i:Int)]).length=1:=rfl
    refine a6 ?_
    intros
    refine di (i+1) ?_ ?_ ⟨?_,rfl,rfl,rfl,trivial⟩ rfl
    ·exact hlt
    ·show s.length-(i+1)<s.length-i;omega
    ·rw[et,he];rfl
  ·have h9:fi (s.take i)=fi s:=by rw[List.take_of_length_le (by omega)]
   refine a6 ?_
   intros
   apply ak
   rw[h9]
end
section
theorem DP (c:UInt8):∀(l:List UInt8) (k:Nat),(0<=jO (c.toNat:Int) l k/\c∈l)\/(jO (c.toNat:Int) l k<0/\c∉l)
 |[],k=>.inr ⟨by simp[jO],by simp⟩
 |x::t,k=>by
  unfold jO;by_cases h:(x.toNat:Int)=c.toNat
  ·have:x=c:=UInt8.toNat_inj.1 (by omega);rw[if_pos h];exact .inl ⟨by omega,by simp[this]⟩
  ·have hne:c≠x:=λe=>h (by rw[e]);rw[if_neg h];rcases DP c t (k+1) with⟨h1,h2⟩|⟨h1,h2⟩
   ·exact .inl ⟨h1,List.mem_cons_of_mem _ h2⟩
   ·exact .inr ⟨h1,λh3=>(List.mem_cons.1 h3).elim hne h2⟩
theorem NK {s:List UInt8}{c:UInt8}:0<=bj s (c.toNat:Int)↔c∈s:=by
 unfold bj;rcases DP c s 0 with⟨h1,h2⟩|⟨h1,h2⟩
 ·exact⟨λ_=>h2,λ_=>h1⟩
 ·exact⟨λh=>by omega,λh=>absurd h h2⟩
theorem J4 {s:List UInt8}{c:UInt8}:0<=Lib.indexByte s c↔c∈s:=by
 induction s with
 |nil=>simp[Lib.indexByte]
 |cons x t ih=>
  have hge:=Lib.indexByte_ge t c;unfold Lib.indexByte;by_cases h:(x==c)=true
  ·rw[if_pos h];have:=beq_iff_eq.1 h;simp[this]
  ·rw[if_neg h];have hn:c≠x:=λe=>h (beq_iff_eq.2 e.symm);simp only[List.mem_cons,hn,false_or];rw[<-ih];split
   ·rename_i h2;have:=beq_iff_eq.1 h2;omega
   ·rename_i h2;have:Lib.indexByte t c≠ -1:=λe=>h2 (beq_iff_eq.2 e);omega
attribute [local irreducible] bN aw aa aC bg ab ae
attribute [local irreducible] ow fh dy isS jr fi bj
theorem nT {G:Glo}(s:List UInt8):aj prog G 29 [.str s,.str [34]] (.bool (decide (0<=bj s 34))):=by
 refine bO rfl call29 ?_;rintro R args ⟨x,t,e,hx,y,t',e',hy,rfl⟩ w hG hs;obtain rfl:=aI.1 hx;obtain rfl:=aI.1 hy;subst e';obtain rfl:=fb e;refine(strings_Contains_one ⟨s.toArray⟩ 34 w).mono ?_;rintro e w' ⟨rfl,rfl⟩;have e:decide (0<=Lib.indexByte s 34)=decide (0<=bj s 34):=by
  have h1:=J4 (s:=s) (c:=34);have h2:=NK (s:=s) (c:=34);have h3:((34:UInt8).toNat:Int)=34:=rfl;rw[h3] at h2;simp only[h1,h2]
 exact⟨by simp[AVal.conc,e],Below.refl _ _⟩
theorem se {G:Glo}(hU:ab G utfTy)(s:List UInt8)(hl:s.length<=9223372036854775807):aj prog G 120 [.str s] (.bool (fh false s)):=by
 have h1:=ut hU s hl;have h2:=nu (G:=G) s 107 (ow false) hl (λc _=>s6 c);refine ao func120 call120 λC hC hGL=> ?_;refine xw ?_;refine⟨λh=> ?_,λh=> ?_,.n⟩;all_goals (apply ak;refine congrArg AVal.bool ?_;unfold fh;rw[Bool.eq_iff_iff];simp only[nE,decide_eq_true_eq,reduceCtorEq,false_iff];omega)
theorem ym {G:Glo}(hU:ab G utfTy)(s:List UInt8)(c:Bool)(hl:s.length<=2000000):aj prog G 119 [.str s,.bool c] (.bool (jr c s)):=by
 cases c with
 |true=>
  have hE:=vS (G:=G) s hl;have hC1:=se hU (fi s) (by have:=(rl s).2;omega);have hq1:=nT (G:=G) (fi s);have e:jr true s=(fh false (fi s)&&decide (bj (fi s) 34<0)):=by unfold jr pY;rfl
  rw[e];refine ao func119 call119 λC hC hGL=> ?_;refine xw ?_;repeat' first|exact .n|apply Lc.mk
  all_goals intros
  all_goals (apply ak;refine congrArg AVal.bool ?_;rw[show fh false (fi s)=_ by assumption])
  all_goals (rw[Bool.eq_iff_iff];simp)
 |false=>
  have hC1:=se hU s (by omega);have hq1:=nT (G:=G) s;have e:jr false s=(fh false s&&decide (bj s 34<0)):=by unfold jr pY;rfl
  rw[e];refine ao func119 call119 λC hC hGL=> ?_;refine xw ?_;repeat' first|exact .n|apply Lc.mk
  all_goals intros
  all_goals (apply ak;refine congrArg AVal.bool ?_;rw[show fh false s=_ by assumption])
  all_goals (rw[Bool.eq_iff_iff];simp)
theorem pb {G:Glo}(hU:ab G utfTy)(p:Ln)(c:Bool)(ho:p.Fit):aj prog G 70 [p.A,.bool c] (.agg [.int .i64 (p.E c).e,.int .i64 (p.E c).p]):=by
  have n1:=vQ (G:=G) p.n (by have:=ho.n;omega);have n2:=vQ (G:=G) p.g (by have:=ho.g;omega);have hv:=se hU p.v (by have:=ho.v;omega);have hps:=ho.ps;have b5:=ja (G:=G) 5;have b4:=ja (G:=G) 4;have b3:=ja (G:=G) 3;have b0:=fG (G:=G);refine ao func70 call70 λC hC hGL=> ?_;refine xw ?_;repeat' first|exact .n|apply Lc.mk
  all_goals intros
  all_goals try (apply ak;first|(rw[Ln.E_5 (.inl (by assumption))];rfl)|(rw[Ln.E_5 (.inr ⟨by assumption,by assumption⟩)];rfl)|(rw[Ln.E_4 (by assumption) (.inl (by assumption)) (by omega)];rfl)|(rw[Ln.E_4 (by assumption) (.inr (by assumption)) (by omega)];rfl);done)
  all_goals
    have q1:isS p.n=true:=by assumption
    have q2:p.g.length=0\/isS p.g=true:=by first|exact .inl (by assumption)|exact .inr (by assumption)
    have q3:p.ps.length<=20:=by omega
    refine lp hC hGL (λk:Nat=>[(1,.bool c),(2,.rop [.str p.g,.str p.n,.list 2 p.ps.length (fH p.ps),.str p.v] 0),(4,.own 0 (.pointer (some ⟨_,0,none⟩))),(31,.list 2 p.ps.length (fH p.ps)),(32,.int .i64 (p.ps.length:Nat)),(33,.int .i64 (k:Nat))]) (λ_=>[.cells _ (some 32) [.int .i64 0,.int .i64 0]]) (λk=>k<=p.ps.length/\∀j,j<k->si c (p.ps.getD j Pr.z)=0) (λk=>p.ps.length-k) 0 ?_ ad rfl ?_
    · exact⟨Nat.zero_le _,λj h=>absurd h (Nat.not_lt_zero _)⟩
    rintro k ⟨h1,h2⟩;have hq:=ho.q k;have n3:=vQ (G:=G) (p.ps.getD k Pr.z).n (by omega);refine xw ?_;repeat' first|exact .n|apply Lc.mk
    all_goals intros
    all_goals try (apply ak;first|(rw[Ln.E_3 q1 q2 q3 (by omega) h2 (by assumption)];rfl)|(rw[Ln.E_0 q1 q2 q3 (by omega) h2 (by assumption)];rfl);done)
    all_goals try (apply ak;first|(rw[Ln.E_at q1 q2 q3 (by omega) h2 (by rw[C8 (by assumption)];decide),C8 (by assumption)];rfl)|(rw[Ln.E_at q1 q2 q3 (by omega) h2 (by rw[HN (by assumption) (by omega)];decide),HN (by assumption) (by omega)];rfl);done)
    refine lp hC hGL (λj:Nat=>[(1,.bool c),(2,.rop [.str p.g,.str p.n,.list 2 p.ps.length (fH p.ps),.str p.v] 0),(4,.own 0 (.pointer (some ⟨_,0,none⟩))),(5,.int .i64 (k:Nat)),(31,.list 2 p.ps.length (fH p.ps)),(32,.int .i64 (p.ps.length:Nat)),(33,.int .i64 (k:Nat)),(51,.list 1 (p.ps.getD k Pr.z).vs.length (ay (p.ps.getD k Pr.z).vs)),(52,.int .i64 ((p.ps.getD k Pr.z).vs.length:Nat)),(53,.int .i64 (j:Nat))]) (λ_=>[.cells _ (some 32) [.int .i64 0,.int .i64 0],.cells _ (some 75) [.str (p.ps.getD k Pr.z).n,.list 1 (p.ps.getD k Pr.z).vs.length (ay (p.ps.getD k Pr.z).vs)]]) (λj=>j<=(p.ps.getD k Pr.z).vs.length/\M5 c (p.ps.getD k Pr.z).vs j) (λj=>(p.ps.getD k Pr.z).vs.length-j) 0 ?_ ad rfl ?_
    · exact⟨Nat.zero_le _,λi hi=>absurd hi (Nat.not_lt_zero _)⟩
    rintro j ⟨g1,g2⟩;have hj:=ym hU ((p.ps.getD k Pr.z).vs.getD j []) c (by have:=eo (l:=(p.ps.getD k Pr.z).vs) (k:=j);omega);refine xw ?_;repeat' first|exact .n|apply Lc.mk
    all_goals intros
    all_goals first
      |exact di (j+1) ⟨by omega,zp g2 (by assumption)⟩ (by omega) ad rfl
      |exact cJ (k+1) ⟨by omega,aV h2 (Sm (by assumption) (by omega) (Dx (by omega) g2))⟩ (by omega) ad an
      | (apply ak
         have e1:=Sk (c:=c) (q:=p.ps.getD k Pr.z) (by assumption) (by omega) (Dv (j:=j) (by omega) (by assumption))
         rw[Ln.E_at q1 q2 q3 (by omega) h2 (by rw[e1];decide),e1]
         rfl)
end
section
theorem Iz {c:Bool}:∀{l:List Pr} {i:Nat},(kB c l i).e=0->kB c l i= .none
 |[],_,_=>rfl
 |x::l,i,h=>by
  simp only[kB] at h ⊢;split at h
  ·rename_i h0;rw[if_pos h0];exact Iz h
  ·rename_i h0;exact absurd h h0
theorem Ln.E_zero {c:Bool}{p:Ln}(h:(p.E c).e=0):p.E c= .none:=by
 unfold Ln.E at h ⊢;split at h
 ·cases h
 ·rename_i h1;rw[if_neg h1];split at h
  ·cases h
  ·rename_i h2;rw[if_neg h2];have:=Iz (c:=c) (l:=p.ps) (i:=0);cases hf:kB c p.ps 0 with
   |none=>
    rw[hf] at h;simp only at h ⊢;split at h
    ·rename_i h3;rw[if_pos h3]
    ·cases h
   |errno e=>
    rw[hf] at h this;exact absurd (this h) (by simp)
   | «at» e q=>
    rw[hf] at h this;exact absurd (this h) (by simp)
attribute [local irreducible] bN aw aa aC bg ab ae
attribute [local irreducible] ow fh dy isS jr fi fd pd nG pY qD
theorem Qn {G:Glo}(c:Int):aj prog G 180 [.int .u8 c] (.bool (qD c)):=by
 refine ao func180 call180 λC hC hGL=> ?_;refine xw ?_;repeat' first|exact .n|apply Lc.mk
 all_goals intros
 all_goals (apply ak;refine congrArg AVal.bool ?_)
 all_goals (unfold qD;rw[Bool.eq_iff_iff];simp only[bP,decide_eq_true_eq,reduceCtorEq,true_iff,false_iff];omega)
theorem LM {c:Bool}{vs:List (List UInt8)}{j:Nat}(hj:j<vs.length):(vs.map (fd c)).take (j+1)=(vs.map (fd c)).take j++[fd c (vs.getD j [])]:=by
 rw[List.take_succ_eq_append_getElem (by simpa using hj),List.getElem_map,List.getD_eq_getElem?_getD,List.getElem?_eq_getElem hj];rfl
theorem yl {G:Glo}(hU:ab G utfTy)(p:Ln)(c:Bool)(ho:p.Fit):aj prog G 125 [p.A,.bool c] (.tuple [.str (p.T c),.agg [.int .i64 (p.E c).e,.int .i64 (p.E c).p]]):=by
  have h0:=pb hU p c ho;have hI:=jI (G:=G) (p.E c).e (p.E c).p;by_cases hz:(p.E c).e=0;case neg=>
    rw[fV.2 hz] at hI;rw[show p.T c=[] by
      unfold Ln.T;split
      · rename_i hq;rw[hq] at hz;exact absurd rfl hz
      · rfl]
    refine ao func125 call125 λC hC hGL=> ?_;refine az ?_;intro b1 b2;refine cR mixed hC hGL false (λ(_:Unit)=>[(4,.str []),(5,.own 0 (.pointer (some ⟨b1,0,none⟩)))]) (λ_=>[.cells b1 (some 32) [.int .i64 (p.E c).e,.int .i64 (p.E c).p],.cells b2 (some 32) [.int .i64 (p.E c).e,.int .i64 (p.E c).p]]) (.br 0 (.t 1 (.b 2 .done)) (.b 1 (.b 0 (.b 2 .done)))) (by kernel_rfl) ?_ ?_
    · refine xn ?_;repeat' first|exact .n|apply Lc.mk
      all_goals intros
      all_goals exact⟨(),⟨rfl,rfl,trivial⟩,rfl⟩
    · intro _;exact cx
  have hq:=Ln.E_zero hz;rw[hq] at h0 hI;rw[hq];simp only[Err.e,Err.p] at h0 hI ⊢;rw[bP.2 rfl] at hI;rw[show p.T c=p.txt c by unfold Ln.T;rw[hq],Hj];have hb0:=fG (G:=G);have i1:p.ps.length<=20:=by
    have h:=hq;unfold Ln.E at h;split at h
    · cases h
    · split at h
      · cases h
      · omega
  have i2:∀k,k<p.ps.length->(p.ps.getD k Pr.z).vs.length≠0\/True:=λ_ _=>.inr trivial;have o1:=ho.g;have o2:=ho.n;have o3:=ho.v;have o4:∀k,k<=p.ps.length->(pd c p.ps k).length<=20*6600002:=λk hk=>by
    have h1:=AU (N:=1100000) (c:=c) (λk=>⟨(ho.q k).1,by have:=(ho.q k).2.1;omega,by have:=(ho.q k).2.2;omega⟩) k hk;rw[show 2+6*1100000=6600002 by decide] at h1;have h2:=Nat.mul_le_mul_right 6600002 (show k<=20 by omega);exact Nat.le_trans h1 h2
  have hd1:p.g.length≠0->p.g++[46]++p.n=nG p:=λh=>by unfold nG;rw[if_neg h]
  have hd0:p.g.length=0->p.n=nG p:=λh=>by unfold nG;rw[if_pos h]
  have kN:(nG p).length<=2200001:=by
    unfold nG;split
    · omega
    · simp only[List.length_append,List.length_cons,List.length_nil];omega
  refine fN func125 call125 λC hC hGL=> ?_;refine dU hC hGL (λbl:Nat=>[(1,.bool c),(2,.rop [.str p.g,.str p.n,.list 2 p.ps.length (fH p.ps),.str p.v] 0),(5,.own 0 (.pointer (some ⟨bl,0,none⟩)))]) (λbl=>[.cells bl (some 32) [.int .i64 0,.int .i64 0]]) (λ_=>True) ?_ λb1 _=> ?_
  · refine a6 ?_;intro bl;exact cy bl trivial
  refine dU hC hGL (λbl:Nat=>[(1,.bool c),(2,.rop [.str p.g,.str p.n,.list 2 p.ps.length (fH p.ps),.str p.v] 0),(5,.own 0 (.pointer (some ⟨b1,0,none⟩)))]) (λbl=>[.cells b1 (some 32) [.int .i64 0,.int .i64 0],.cells bl (some 32) [.int .i64 0,.int .i64 (-1)]]) (λ_=>True) ?_ λb2 _=> ?_
  · refine a6 ?_;intro bl;exact cy bl trivial
  refine cut hC hGL [(1,.bool c),(2,.rop [.str p.g,.str p.n,.list 2 p.ps.length (fH p.ps),.str p.v] 0),(5,.own 0 (.pointer (some ⟨b1,0,none⟩))),(7,.str p.n)] [.cells b1 (some 32) [.int .i64 0,.int .i64 0],.cells b2 (some 32) [.int .i64 0,.int .i64 (-1)]] True ?_ λ_=> ?_
  · exact ba
  refine dU hC hGL (λq:List UInt8=>[(1,.bool c),(2,.rop [.str p.g,.str p.n,.list 2 p.ps.length (fH p.ps),.str p.v] 0),(5,.own 0 (.pointer (some ⟨b1,0,none⟩))),(7,.str q)]) (λ_=>[.cells b1 (some 32) [.int .i64 0,.int .i64 0],.cells b2 (some 32) [.int .i64 0,.int .i64 (-1)]]) (λq=>q=nG p++pd c p.ps 0) ?_ λq hq=> ?_
  · rw[show pd c p.ps 0=[] by unfold pd;rfl,List.append_nil];refine xn ?_;repeat' first|exact .n|apply Lc.mk
    all_goals intros
    all_goals first
      |exact cy _ (hd1 (by assumption))
      |exact cy _ (hd0 (by assumption))
  subst hq;refine am hC hGL ?_;refine az ?_;refine lp hC hGL (λk:Nat=>[(1,.bool c),(2,.rop [.str p.g,.str p.n,.list 2 p.ps.length (fH p.ps),.str p.v] 0),(5,.own 0 (.pointer (some ⟨b1,0,none⟩))),(7,.str (nG p++pd c p.ps k)),(31,.list 2 p.ps.length (fH p.ps)),(32,.int .i64 (p.ps.length:Nat)),(33,.int .i64 (k:Nat))]) (λ_=>[.cells b1 (some 32) [.int .i64 0,.int .i64 0],.cells b2 (some 32) [.int .i64 0,.int .i64 (-1)]]) (λk=>k<=p.ps.length) (λk=>p.ps.length-k) 0 ?_ ad rfl ?_
  · exact Nat.zero_le _
  intro k h1;have ol:=o4 k h1;have hqk:=ho.q k;refine xn ?_;repeat' first|exact .n|apply Lc.mk
  all_goals intros
  · rename_i b9 hkl;have hkn:k<p.ps.length:=by omega
    have hsucc:=vV (c:=c) hkn;have hpl:=HM c (p.ps.getD k Pr.z);have hjl:(Lib.join ((p.ps.getD k Pr.z).vs.map (fd c)) [44]).length<=20000000:=by
      have h2:=wB ((p.ps.getD k Pr.z).vs.map (fd c));have h3:=qN c (p.ps.getD k Pr.z).vs;rw[List.length_map] at h2;omega
    refine gv 10 1 rfl ?_;refine lp hC hGL (λy:List (List UInt8)×Value=>[(1,.bool c),(2,.rop [.str p.g,.str p.n,.list 2 p.ps.length (fH p.ps),.str p.v] 0),(5,.own 0 (.pointer (some ⟨b1,0,none⟩))),(7,.str (nG p++pd c p.ps k)),(9,.own 2 (.pointer (some ⟨b9,0,none⟩))),(10,.own 3 y.2),(31,.list 2 p.ps.length (fH p.ps)),(32,.int .i64 (p.ps.length:Nat)),(33,.int .i64 (k:Nat)),(38,.list 1 (p.ps.getD k Pr.z).vs.length (ay (p.ps.getD k Pr.z).vs)),(39,.int .i64 ((p.ps.getD k Pr.z).vs.length:Nat)),(40,.int .i64 (y.1.length:Nat))]) (λy=>[.cells b1 (some 32) [.int .i64 0,.int .i64 0],.cells b2 (some 32) [.int .i64 0,.int .i64 (-1)],.cells b9 (some 75) [.str (p.ps.getD k Pr.z).n,.list 1 (p.ps.getD k Pr.z).vs.length (ay (p.ps.getD k Pr.z).vs)],.row y.2 none 1 y.1.length (bc y.1)]) (λy=>y.1.length<=(p.ps.getD k Pr.z).vs.length/\y.1=((p.ps.getD k Pr.z).vs.map (fd c)).take y.1.length) (λy=>(p.ps.getD k Pr.z).vs.length-y.1.length) ([],.slice none 0 0) ?_ ad rfl ?_
    · exact⟨Nat.zero_le _,rfl⟩
    rintro⟨l,v⟩ ⟨g1,g2⟩;dsimp only at g1 g2;have hj1:=eo (l:=(p.ps.getD k Pr.z).vs) (k:=l.length);have hel:=Br c ((p.ps.getD k Pr.z).vs.getD l.length []);have hE:=vS (G:=G) ((p.ps.getD k Pr.z).vs.getD l.length []) (by omega);have hQ:=nu (G:=G) (pY c ((p.ps.getD k Pr.z).vs.getD l.length [])) 180 qD (by omega) (λc _=>Qn c);have hY:0<=jf qD (pY c ((p.ps.getD k Pr.z).vs.getD l.length []))->fd c ((p.ps.getD k Pr.z).vs.getD l.length [])=34::pY c ((p.ps.getD k Pr.z).vs.getD l.length [])++[34]:=λh=>by unfold fd;rw[if_neg (by omega)]
    have hN:jf qD (pY c ((p.ps.getD k Pr.z).vs.getD l.length []))<0->fd c ((p.ps.getD k Pr.z).vs.getD l.length [])=pY c ((p.ps.getD k Pr.z).vs.getD l.length []):=λh=>by unfold fd;rw[if_pos h]
    have hT:=λ(h:l.length<(p.ps.getD k Pr.z).vs.length)=>LM (c:=c) h;have hx1:pY true ((p.ps.getD k Pr.z).vs.getD l.length [])=fi ((p.ps.getD k Pr.z).vs.getD l.length []):=by unfold pY;rfl
    have hx2:pY false ((p.ps.getD k Pr.z).vs.getD l.length [])=(p.ps.getD k Pr.z).vs.getD l.length []:=by unfold pY;rfl
    have fin:(p.ps.getD k Pr.z).vs.length<=l.length->l=(p.ps.getD k Pr.z).vs.map (fd c):=λh=>by rw[g2,List.take_of_length_le (by rw[List.length_map];omega)]
    have go:∀(w:List UInt8),w=fd c ((p.ps.getD k Pr.z).vs.getD l.length [])->l.length<(p.ps.getD k Pr.z).vs.length->(l++[w]).length<=(p.ps.getD k Pr.z).vs.length/\l++[w]=((p.ps.getD k Pr.z).vs.map (fd c)).take (l++[w]).length:=λw hw h=>by
      rw[List.length_append,List.length_singleton,hT h,<-g2,hw];exact⟨by omega,rfl⟩
    cases c;all_goals
      simp only[hx1,hx2] at hQ hY hN hel;refine xn ?_;repeat' first|exact .n|apply Lc.mk
      all_goals intros
      all_goals try dsimp only at*
    all_goals first
      | (refine di (l++[_],.slice _ _ _) (go _ (hY (by assumption)).symm (by omega)) (by dsimp only;rw[List.length_append,List.length_singleton];omega) ⟨rfl,rfl,rfl,rfl,rfl,rfl,rfl,rfl,rfl,rfl,rfl,?_,trivial⟩ ?_
         · show some (AVal.int .i64 (((l.length:Nat):Int)+1))=some (AVal.int .i64 ((l++[_]).length:Nat));rw[List.length_append];rfl
         · dsimp only
           rw[<-bJ,List.length_append];rfl)
      | (refine di (l++[_],.slice _ _ _) (go _ (hN (by assumption)).symm (by omega)) (by dsimp only;rw[List.length_append,List.length_singleton];omega) ⟨rfl,rfl,rfl,rfl,rfl,rfl,rfl,rfl,rfl,rfl,rfl,?_,trivial⟩ ?_
         · show some (AVal.int .i64 (((l.length:Nat):Int)+1))=some (AVal.int .i64 ((l++[_]).length:Nat));rw[List.length_append];rfl
         · dsimp only
           rw[<-bJ,List.length_append];rfl)
      |skip
    · obtain rfl:=fin (by omega);refine cR mixed hC hGL true (λ(_:Unit)=>[(1,.bool false),(2,.rop [.str p.g,.str p.n,.list 2 p.ps.length (fH p.ps),.str p.v] 0),(5,.own 0 (.pointer (some ⟨b1,0,none⟩))),(7,.str (nG p++pd false p.ps (k+1))),(31,.list 2 p.ps.length (fH p.ps)),(32,.int .i64 (p.ps.length:Nat)),(33,.int .i64 (k:Nat))]) (λ_=>[.cells b1 (some 32) [.int .i64 0,.int .i64 0],.cells b2 (some 32) [.int .i64 0,.int .i64 (-1)],.cells b9 (some 75) [.str (p.ps.getD k Pr.z).n,.list 1 (p.ps.getD k Pr.z).vs.length (ay (p.ps.getD k Pr.z).vs)],.row v none 1 ((p.ps.getD k Pr.z).vs.map (fd false)).length (bc ((p.ps.getD k Pr.z).vs.map (fd false)))]) .p9 (by kernel_rfl) ?_ ?_
      · refine az ?_;intro C hC;refine aL (i:=3) rfl (eu ((p.ps.getD k Pr.z).vs.map (fd false)) [44] v (by rw[List.length_map];omega) (by omega)) ?_;have hlen:(nG p++pd false p.ps k).length<=200000000:=by rw[List.length_append];omega
        refine xn ?_;repeat' first|exact .n|apply Lc.mk
        all_goals intros
        all_goals
          refine⟨(),⟨rfl,rfl,rfl,?_,rfl,rfl,rfl,trivial⟩,rfl⟩;rw[hsucc];unfold Qu;simp only[List.append_assoc,List.cons_append,List.nil_append];rfl
      · intro _;refine az ?_;exact cJ (k+1) (by omega) (by omega) ad an
    · obtain rfl:=fin (by omega);refine cR mixed hC hGL true (λ(_:Unit)=>[(1,.bool true),(2,.rop [.str p.g,.str p.n,.list 2 p.ps.length (fH p.ps),.str p.v] 0),(5,.own 0 (.pointer (some ⟨b1,0,none⟩))),(7,.str (nG p++pd true p.ps (k+1))),(31,.list 2 p.ps.length (fH p.ps)),(32,.int .i64 (p.ps.length:Nat)),(33,.int .i64 (k:Nat))]) (λ_=>[.cells b1 (some 32) [.int .i64 0,.int .i64 0],.cells b2 (some 32) [.int .i64 0,.int .i64 (-1)],.cells b9 (some 75) [.str (p.ps.getD k Pr.z).n,.list 1 (p.ps.getD k Pr.z).vs.length (ay (p.ps.getD k Pr.z).vs)],.row v none 1 ((p.ps.getD k Pr.z).vs.map (fd true)).length (bc ((p.ps.getD k Pr.z).vs.map (fd true)))]) .p9 (by kernel_rfl) ?_ ?_
      · refine az ?_;intro C hC;refine aL (i:=3) rfl (eu ((p.ps.getD k Pr.z).vs.map (fd true)) [44] v (by rw[List.length_map];omega) (by omega)) ?_;have hlen:(nG p++pd true p.ps k).length<=200000000:=by rw[List.length_append];omega
        refine xn ?_;repeat' first|exact .n|apply Lc.mk
        all_goals intros
        all_goals
          refine⟨(),⟨rfl,rfl,rfl,?_,rfl,rfl,rfl,trivial⟩,rfl⟩;rw[hsucc];unfold Qu;simp only[List.append_assoc,List.cons_append,List.nil_append];rfl
      · intro _;refine az ?_;exact cJ (k+1) (by omega) (by omega) ad an
  · have hkk:k=p.ps.length:=by omega
    subst hkk;refine cR mixed hC hGL false (λ(_:Unit)=>[(4,.str (nG p++pd c p.ps p.ps.length++[58]++p.v)),(5,.own 0 (.pointer (some ⟨b1,0,none⟩)))]) (λ_=>[.cells b1 (some 32) [.int .i64 0,.int .i64 (-1)],.cells b2 (some 32) [.int .i64 0,.int .i64 (-1)]]) (.t 0 (.t 1 (.t 2 (.t 3 (.t 4 (.b 5 (.t 6 (.b 7 .done)))))))) (by kernel_rfl) ?_ ?_
    · refine xn ?_;repeat' first|exact .n|apply Lc.mk
      all_goals intros
      all_goals exact⟨(),⟨rfl,rfl,trivial⟩,rfl⟩
    · intro _;exact cx
end
section
theorem JW {l:List (List UInt8)}{j:Nat}(h:j<l.length):Lib.lens (l.take (j+1))=Lib.lens (l.take j)+(l.getD j []).length:=
 Lib.lens_take_succ l j _ (by rw[List.getD_eq_getElem?_getD,List.getElem?_eq_getElem h];rfl)
def Pr.w (q:Pr):Nat:=q.n.length+q.vs.length+Lib.lens q.vs
def Ln.b (p:Ln):Nat:=p.ps.length+p.g.length+p.n.length+p.v.length
attribute [local irreducible] bN aw aa aC bg ab ae
end
section
attribute [local irreducible] bN aw aa aC bg ab ae
attribute [local irreducible] ow fh dy
theorem nf {G:Glo}(s:List UInt8)(b:Bool)(hl:s.length<=9223372036854775807):aj prog G 133 [.str s,.bool b] (.bool (fh b s)):=by
 have hB:=um (G:=G) s hl;refine ao func133 call133 λC hC hGL=> ?_;refine a6 ?_;refine lp hC hGL (λi:Nat=>[(0,.str s),(1,.bool b),(8,.int .i64 (s.length:Nat)),(9,.int .i64 (i:Nat))]) (λ_=>[]) (λi=>i<=s.length/\∀j,j<i->ow b (aa s j:Int)=false) (λi=>s.length-i) 0 ?_ ad rfl ?_
 ·exact⟨Nat.zero_le _,λj h=>absurd h (Nat.not_lt_zero _)⟩
 rintro i ⟨h1,h2⟩;refine xw ?_;repeat' first|exact .n|apply Lc.mk
 all_goals intros
 all_goals first
  |(apply ak;rw[NR (i:=i) (by omega) (by first|exact qR (.inl (by omega))|exact qR (.inr (.inl (by omega)))|exact qR (.inr (.inr ⟨by omega,by assumption⟩))) h2];rfl)
  |(refine di (i+1) ⟨by omega,bT h2 (by first|exact Bf (by omega) (.inl (by omega))|exact Bf (by omega) (.inr (.inl (by omega)))|exact Bf (by omega) (.inr (.inr ⟨by omega,by assumption⟩)))⟩ (by omega) ad rfl)
  |(apply ak;rw[Iq (i:=i) (by omega) h2])
theorem AS {G:Glo}(s:List UInt8)(f:Nat)(cs:List AVal)(p:Int->Bool)(hl:s.length<=9223372036854775807)(hp:∀c:Nat,c<256->aj prog G f [.int .u8 (c:Int),.rop cs 0] (.bool (p c))):aj prog G 105 [.str s,.func (.func f) [] [.rop cs 0]] (.int .i64 (jf p s)):=by
 have k1:=λi (_:0<=(aa s i:Int))=>hp (aa s i) (bu s i);refine ao func105 call105 λC hC hGL=> ?_;refine a6 ?_;intro bl cap hcap;refine lp hC hGL (λ(i:Nat)=>[(1,.func (.func f) [] [.rop cs 0]),(8,.own 0 (.slice (some ⟨bl,0,none⟩) s.length cap)),(9,.int .i64 s.length),(10,.int .i64 i)]) (λ_=>[.buf bl s cap]) (λi=>i<=s.length/\∀j,j<i->p (aa s j:Int)=false) (λi=>s.length-i) 0 ?_ ad rfl ?_
 ·exact⟨Nat.zero_le _,λj h=>absurd h (Nat.not_lt_zero _)⟩
 rintro i ⟨hi,hb0⟩;refine xw ?_;repeat' first|exact .n|apply Lc.mk
 all_goals intros
 all_goals first
  |(apply ak;rw[mG (i:=i) (by omega) (by assumption) hb0])
  |(refine di (i+1) ⟨by omega,bT hb0 (by assumption)⟩ (by omega) ad rfl)
  |(apply ak;rw[iM (λj hj=>hb0 j (by omega))];rfl)
theorem FL {G:Glo}(b:Bool)(c:Int):aj prog G 106 [.int .u8 c,.rop [.bool b] 0] (.bool (ow b c)):=by
 have h:=s6 (G:=G) c;refine ao func106 call106 λC hC hGL=> ?_;refine xw ?_;refine⟨λh1 h2=> ?_,λh1 h2=> ?_,λh1=> ?_,.n⟩;all_goals (apply ak;refine congrArg AVal.bool ?_;first|rw[zK] at h1|rw[<-Bool.not_eq_true,zK] at h1)
 ·rcases h1 with h1|h1
  ·exact(qR (.inl ⟨h1.1,h1.2,h2⟩)).symm
  ·exact(qR (.inr (.inl h1))).symm
 ·rw[Bool.eq_iff_iff];cases b
  ·rw[zK];simp;omega
  ·rw[Su];simp;omega
 ·cases b
  ·rw[Bool.eq_iff_iff,zK];simp;omega
  ·rw[Bool.eq_iff_iff,Su];simp;omega
theorem oe {G:Glo}(hU:ab G utfTy)(s:List UInt8)(b:Bool)(hl:s.length<=9223372036854775807):aj prog G 62 [.str s,.bool b] (.bool (fh b s)):=by
 have h1:=ut hU s hl;have h2:=AS (G:=G) s 106 [.bool b] (ow b) hl (λc _=>FL b c);refine ao func62 call62 λC hC hGL=> ?_;refine xw ?_;refine⟨λh=> ?_,λh=> ?_,.n⟩;all_goals (apply ak;refine congrArg AVal.bool ?_;unfold fh;rw[Bool.eq_iff_iff];simp only[nE,decide_eq_true_eq,reduceCtorEq,false_iff];omega)
end
section
def yN:List Bool->Bool
 |[]=>true
 |b::l=>b&&yN l
def zO (P:Program)[Tab P](cs ds:List AVal):List Field->Option (List Bool)
 |[]=>some []
 |f::fs=>match bC P f.type,cs[f.offset]?,ds[f.offset]?,zO P cs ds fs with
  |some x,some a,some b,some l=>match x.desc,a,b with
   |.int _,.int k m,.int j q=>match Nat.beq (Nl k) (Nl j) with
    |true=>some (cm m q::l)
    |false=>none
   |.string,.str s,.str t=>some (aS s t::l)
   |.bool,.bool s,.bool t=>some ((s==t)::l)
   |_,_,_=>none
  |_,_,_,_=>none
theorem Dd {P:Program}[Tab P]{xs:Array Value}{v:Value}{t:TypeId}{x:TI}{o:Nat}(ht:bC P t=some x)(hd:cv x.desc=false)(hv:xs[o]? =some v)(w:World):(part t xs o).run P w= .ok v w:=by
 simp only[part,Sem.run_bind,dE ht,hd,Result.andThen_ok,Bool.false_eq_true,if_false,hv,Sem.run_pure]
theorem mI {P:Program}[Tab P]{R:Seal}{cs ds:List AVal}{xs ys:Array Value}(ha:ce R cs xs.toList)(hb:ce R ds ys.toList)(d:Nat)(w:World):
  ∀(fs:List Field) (l:List Bool),(fs.all fun f=>f.name != "_")=true→zO P cs ds fs=some l→(Op.eqFields (d+1) xs ys fs).run P w= .ok (yN l) w
 |[],l,_,h=>by
  simp only[zO,Option.some.injEq] at h
  subst h
  rfl
 |f::fs,l,hn,h=>by
  simp only[List.all_cons,Bool.and_eq_true,bne_iff_ne,ne_eq] at hn
  simp only[zO] at h
  split at h
  ·rename_i x a b l' ht h1 h2 h3
   have ih:=mI ha hb d w fs l' hn.2 h3
   obtain⟨va,e1,r1⟩:=eD ha h1
   obtain⟨vb,e2,r2⟩:=eD hb h2
   have e1:xs[f.offset]? =some va:=by simpa using e1
   have e2:ys[f.offset]? =some vb:=by simpa using e2
   have fin:∀r:Bool,cv x.desc=false→(Op.equalIn (d+1) f.type va vb).run P w= .ok r w→(Op.eqFields (d+1) xs ys (f::fs)).run P w= .ok (yN (r::l')) w:=by
    intro r hd hr
    simp only[Op.eqFields,ne_eq,hn.1,not_false_eq_true,if_true,Sem.run_bind,Dd ht hd e1,Dd ht hd e2,Result.andThen_ok,hr]
    cases r
    ·rfl
    ·exact ih
   split at h
   ·rename_i q1 k m j q hd
    split at h
    ·rename_i hk
     cases h
     obtain rfl:=wu hk
     obtain rfl:=aq.1 (cG r1 rfl)
     obtain rfl:=aq.1 (cG r2 rfl)
     refine fin _ (by rw[hd];rfl) ?_
     rw[run_equalIn_int w d f.type _ _ _ _ (by rw[ck ht,hd])]
     unfold cm
     rfl
    ·cases h
   ·rename_i s t hd
    cases h
    obtain rfl:=aI.1 (cG r1 rfl)
    obtain rfl:=aI.1 (cG r2 rfl)
    refine fin _ (by rw[hd];rfl) ?_
    rw[run_equalIn_string w d f.type _ _ (by rw[ck ht,hd])]
    rw[ByteArray.toList_eq,ByteArray.toList_eq]
    unfold aS
    simp
   ·rename_i s t hd
    cases h
    obtain rfl:=aW.1 (cG r1 rfl)
    obtain rfl:=aW.1 (cG r2 rfl)
    exact fin _ (by rw[hd];rfl) (run_equalIn_bool' w d f.type _ _ (by rw[ck ht,hd]))
   ·cases h
  ·cases h
section
variable {P:Program} [Tab P] {C:Ctx} {env:Env} {H:Heap} {x y:Operand} {T ty:TypeId}
theorem BR {R:Seal}{cs:List AVal}{v:Value}(h:bE R (.agg cs) v):∃vs,v= .agg vs/\ce R cs vs.toList:=by
 obtain⟨h1,h2⟩:=h;cases v<;>first|exact⟨_,rfl,h1⟩|(simp[AVal.isAgg,cU] at h2)
theorem Me {cs ds:List AVal}{fs:Array Field}{l:List Bool}{xT:TI}(b:Bool)(hx:ai env x=some (.agg cs))(hy:ai env y=some (.agg ds))(h1:bC P T=some xT)(h2:xT.desc= .struct fs)
  (h3:P.stoodInHeld T=false) (h4:P.eqGuardType P.depth T=false) (h5:(fs.toList.all fun f=>f.name != "_")=true) (h6:zO P cs ds fs.toList=some l) (hb:yN l=b):bD P C H env (.binOp .eql T x y ty) (.bool b):=by
 intro R ρ w hm hf dst t p af g
 refine⟨_,?_,aW.2 rfl⟩
 obtain⟨xs,ex,rx⟩:=BR (hf _ _ hx)
 obtain⟨ys,ey,ry⟩:=BR (hf _ _ hy)
 have hu:P.underlying T=some (.struct fs):=by rw[ck h1,h2]
 have hfo:P.fieldsOf T=fs:=by unfold Program.fieldsOf;rw[hu]
 have e1:(Op.equalIn 10000 T (.agg xs) (.agg ys)).run P w= .ok b w:=by
  rw[show(10000:Nat)=9999+1 from rfl,run_equalIn_agg w 9999 T xs ys (by rw[hfo];exact hu) h3,hfo]
  subst hb
  exact mI rx ry 9998 w _ _ h5 h6
 simp only[execOp,ex,ey,Sem.run_bind,run_eql_struct,e1,run_eqGuard_agg w .eql T x y xs ys h4,Result.andThen_ok,Sem.run_pure]
theorem rS {cs ds:List AVal}{fs:Array Field}{l:List Bool}{xT:TI}(b:Bool)(hx:ai env x=some (.agg cs))(hy:ai env y=some (.agg ds))(h1:bC P T=some xT)(h2:xT.desc= .struct fs)
  (h3:P.stoodInHeld T=false) (h4:P.eqGuardType P.depth T=false) (h5:(fs.toList.all fun f=>f.name != "_")=true) (h6:zO P cs ds fs.toList=some l) (hb:yN l=b):bD P C H env (.binOp .neq T x y ty) (.bool (!b)):=by
 intro R ρ w hm hf dst t p af g
 refine⟨_,?_,aW.2 rfl⟩
 obtain⟨xs,ex,rx⟩:=BR (hf _ _ hx)
 obtain⟨ys,ey,ry⟩:=BR (hf _ _ hy)
 have hu:P.underlying T=some (.struct fs):=by rw[ck h1,h2]
 have hfo:P.fieldsOf T=fs:=by unfold Program.fieldsOf;rw[hu]
 have e1:(Op.equalIn 10000 T (.agg xs) (.agg ys)).run P w= .ok b w:=by
  rw[show(10000:Nat)=9999+1 from rfl,run_equalIn_agg w 9999 T xs ys (by rw[hfo];exact hu) h3,hfo]
  subst hb
  exact mI rx ry 9998 w _ _ h5 h6
 simp only[execOp,ex,ey,Sem.run_bind,run_neq_struct,e1,run_eqGuard_agg w .neq T x y xs ys h4,Result.andThen_ok,Sem.run_pure]
end
end
section
attribute [local irreducible] bN aw aa aC bg ab ae
attribute [local irreducible] ow fh dy ly
theorem u5 {G:Glo}(hGL:ab G errTy)(x:Err):aj prog G 151 [x.A] x.b.A:=by
 have h:=rE hGL x;cases x;all_goals
  refine sF func151 call151 rfl rfl rfl rfl hGL ?_;intro C hC;exact ba
theorem uV (t:Stm):yN [cm t.y 0,cm t.m 0,cm t.d 0,cm t.h 0,cm t.i 0,cm t.s 0,t.z==false,cm t.o 0]=ly t:=by
 unfold ly;rw[Bool.eq_iff_iff];simp only[yN,Bool.and_eq_true,bP,Bool.and_true,decide_eq_true_eq,beq_iff_eq]
theorem EZ {G:Glo}(v:Vl):aj prog G 150 [v.A] (.bool v.only):=by
 have hz:=uV v.st;refine ao func150 call150 λC hC hGL=> ?_;refine xw ?_;repeat' first|exact .n|apply Lc.mk
 all_goals intros
 all_goals try (refine aP hC hGL (Me (ly v.st) rfl rfl rfl rfl (by kernel_rfl) (by kernel_rfl) (by kernel_rfl) rfl hz) rfl rfl ?_;refine xw ?_)
 repeat' first|exact .n|apply Lc.mk
 all_goals intros
 all_goals (apply ak;refine congrArg AVal.bool ?_;rw[Bool.eq_iff_iff];unfold Vl.only;rw[decide_eq_true_eq];cases hq:ly v.st<;>first|exact absurd (hq.symm.trans (show ly v.st=true by assumption)) (by decide)|exact absurd (hq.symm.trans (show ly v.st=false by assumption)) (by decide)|(simp only[hq,bP,reduceCtorEq,true_iff,false_iff,true_or,false_or,iff_true,true_and,and_true];omega))
theorem HV {L:List (List (List UInt8))}{k:Nat}(hk:k<L.length)(h1:k<=dS L)(h0:(L.getD k []).length=0):dS L<L.length:=by
 rw[sl hk h1 (List.eq_nil_of_length_eq_zero h0)];exact hk
theorem Do {L:List (List (List UInt8))}{k:Nat}(hk:k<L.length)(h1:k<=dS L)(h0:(L.getD k []).length≠0):k+1<=dS L:=pN hk h1 (λh=>h0 (by rw[h];rfl))
def U8 (L:List (List (List UInt8)))(k:Nat):Prop:=∀i,i<k->(L.getD i []).all (fh true)=true
def V8 (l:List (List UInt8))(j:Nat):Prop:=∀i,i<j->fh true (l.getD i [])=true
theorem Ip {l:List (List UInt8)}{j:Nat}(hj:l.length<=j)(h:V8 l j):l.all (fh true)=true:=by
 rw[List.all_eq_true];intro x hx
 obtain⟨i,hi,rfl⟩:=List.getElem_of_mem hx
 have:=h i (by omega)
 rwa [List.getD_eq_getElem?_getD,List.getElem?_eq_getElem hi] at this
theorem Io {l:List (List UInt8)}{j:Nat}(hj:j<l.length)(h:fh true (l.getD j [])=false):l.all (fh true)=false:=by
 rw[List.all_eq_false];refine⟨l[j],List.getElem_mem hj,?_⟩;rw[List.getD_eq_getElem?_getD,List.getElem?_eq_getElem hj] at h;simpa using h
theorem In {L:List (List (List UInt8))}{k:Nat}(hk:L.length<=k)(h:U8 L k):NQ L=true:=by
 unfold NQ;rw[List.all_eq_true];intro x hx;obtain⟨i,hi,rfl⟩:=List.getElem_of_mem hx;have:=h i (by omega);rwa [List.getD_eq_getElem?_getD,List.getElem?_eq_getElem hi] at this
theorem Im {L:List (List (List UInt8))}{k:Nat}(hk:k<L.length)(h:(L.getD k []).all (fh true)=false):NQ L=false:=by
 unfold NQ;rw[List.all_eq_false];refine⟨L[k],List.getElem_mem hk,?_⟩;rw[List.getD_eq_getElem?_getD,List.getElem?_eq_getElem hk] at h;simpa using h
theorem DT {l:List (List UInt8)}{j:Nat}(h:V8 l j)(k:fh true (l.getD j [])=true):V8 l (j+1):=λi hi=>by
 rcases Nat.lt_succ_iff_lt_or_eq.1 hi with h1|rfl
 ·exact h i h1
 ·exact k
theorem DR {L:List (List (List UInt8))}{j:Nat}(h:U8 L j)(k:(L.getD j []).all (fh true)=true):U8 L (j+1):=λi hi=>by
 rcases Nat.lt_succ_iff_lt_or_eq.1 hi with h1|rfl
 ·exact h i h1
 ·exact k
end
section
attribute [local irreducible] bN aw aC bg ab ae aa
abbrev LL (a b c:Int):AVal:=.list 1 3 (bq [(0,.int .i64 a),(1,.int .i64 b),(2,.int .i64 c)])
theorem n5 {G:Glo}(a b c:Int):aj prog G 197 [LL a b c] (.str (xV (aB a) (aB b) (aB c))):=by
 by_cases h1:a= -1;all_goals by_cases h2:b= -1
 all_goals by_cases h3:c= -1
 all_goals
  refine ao func197 call197 λC hC hGL=> ?_
  refine a6 ?_
  intros
  refine on (m:=3) hC hGL rfl rfl (by omega) rfl rfl rfl rfl rfl rfl rfl rfl (λbo=> ?_)
  refine a6 ?_
  intros
  refine og hC hGL 4 ?_
  refine a6 ?_
  intros
  refine vq ⟨rfl,rfl⟩ ?_
  apply ak
  simp only[aB,h1,h2,h3,ne_eq,not_true_eq_false,not_false_eq_true,decide_true,decide_false]
  rfl
theorem B3 {G:Glo}(n lo hi:Int):aj prog G 199 [.int .i64 n,.int .i64 lo,.int .i64 hi] (.bool (eX n lo hi)):=by
 refine ao func199 call199 λC hC hGL=> ?_;refine xw ?_;repeat' first|exact .n|apply Lc.mk
 all_goals intros
 all_goals (apply ak;refine congrArg AVal.bool ?_;rw[Bool.eq_iff_iff];simp only[uX,reduceCtorEq,false_iff,true_iff,Bool.not_eq_true',mW];omega)
theorem IU {G:Glo}(y m:Int):aj prog G 198 [.int .i64 y,.int .i64 m] (.int .i64 (ub y m)):=by
 refine ao func198 call198 λC hC hGL=> ?_;refine xw ?_;repeat' first|exact .n|apply Lc.mk
 all_goals intros
 all_goals (apply ak;refine congrArg (AVal.int .i64) ?_;unfold ub;(repeat' split)<;>omega)
theorem K6 {G:Glo}(n:Int)(h0:0<=n)(h1:n<100):aj prog G 229 [.int .i64 n,.int .i64 2] (.str (dc n)):=by
 refine ao func229 call229 λC hC hGL=> ?_;refine a6 ?_;intros;refine on (m:=2) hC hGL rfl rfl (by omega) rfl rfl rfl rfl rfl rfl rfl rfl (λbo=> ?_);refine a6 ?_;intros;refine og hC hGL 3 ?_;refine a6 ?_;intros;refine vq ⟨rfl,rfl⟩ ?_;apply ak;refine congrArg AVal.str ?_;show[UInt8.ofNat (48+n/10%10).toNat,UInt8.ofNat (48+n%10).toNat]=dc n;rw[show n/10%10=n/10 by omega];rfl
theorem IS {G:Glo}(n:Int)(h0:0<=n)(h1:n<10000):aj prog G 229 [.int .i64 n,.int .i64 4] (.str (jh n)):=by
 refine ao func229 call229 λC hC hGL=> ?_;refine a6 ?_;intros;refine on (m:=4) hC hGL rfl rfl (by omega) rfl rfl rfl rfl rfl rfl rfl rfl (λbo=> ?_);refine a6 ?_;intros;refine og hC hGL 5 ?_;refine a6 ?_;intros;refine vq ⟨rfl,rfl⟩ ?_;apply ak;refine congrArg AVal.str ?_;unfold jh bL;rw[show n/1000=n/10/10/10%10 by omega,show n/100%10=n/10/10%10 by omega];rfl
theorem Mu {G:Glo}(y m:Int):aj prog G 175 [.int .i64 y,.int .i64 m] (.int .i64 (ub y m)):=by
 have hw:=eY (G:=G) m 1 12;have h4:y.tmod 400=0->y.tmod 4=0/\y.tmod 100=0:=λh=>by
  have hd:=Int.dvd_of_tmod_eq_zero h;exact⟨Int.tmod_eq_zero_of_dvd (Int.dvd_trans (by decide) hd),Int.tmod_eq_zero_of_dvd (Int.dvd_trans (by decide) hd)⟩
 by_cases hm:1<=m/\m<=12
 ·rw[show(decide (1<=m)&&decide (m<=12))=true by simp[hm]] at hw;rcases(show m=1\/m=2\/m=3\/m=4\/m=5\/m=6\/m=7\/m=8\/m=9\/m=10\/m=11\/m=12 by omega) with rfl|rfl|rfl|rfl|rfl|rfl|rfl|rfl|rfl|rfl|rfl|rfl
  all_goals
   refine ao func175 call175 λC hC hGL=> ?_;refine xw ?_;repeat' first|exact .n|apply Lc.mk
   all_goals intros
   all_goals (apply ak;refine congrArg (AVal.int .i64) ?_;unfold ub;(repeat' split)<;>first|rfl|omega)
 ·rw[show(decide (1<=m)&&decide (m<=12))=false by simp;omega] at hw;refine ao func175 call175 λC hC hGL=> ?_;refine a6 ?_;intros;apply ak;refine congrArg (AVal.int .i64) ?_;unfold ub;rw[if_pos (by omega)]
end
section
def Uz:List UInt8:=[32,45,45,45,32,57,45,45,32,57,57,45,32,57,57,57,32,45,57,45,32,45,57,57,32,45,45,57,32]
def Wo:List UInt8:=[32,57,57,57,32,45,57,57,32,45,45,57,32]
def Vu:List UInt8:=[32,57,45,45,32,57,57,45,32,57,57,57,32]
def Wr (l:List UInt8)(a b c:Bool):Bool:=Lib.contains l (([32]++xV a b c)++[32])
theorem cnA:∀a b c:Bool,Wr Uz a b c=decide (0<=dT a b c):=by decide
theorem cnD:∀a b c:Bool,Wr Wo a b c=decide (dT a b c=3\/dT a b c=5\/dT a b c=6):=by decide
theorem cnT:∀a b c:Bool,Wr Vu a b c=decide (1<=dT a b c/\dT a b c<=3):=by decide
theorem Gz:∀a b c:Bool,xV a b c=[45,45,45]↔dT a b c=0:=by decide
theorem Sz:∀a b c d e f:Bool,xV a b c=xV d e f↔dT a b c=dT d e f:=by decide
theorem He:∀a b c:Bool, -1<=dT a b c/\dT a b c<=6:=by decide
def yO (d t:Int)(z:Bool)(h o:Int):Prop:=(0<=d/\0<=t/\¬(d=0/\t=0)/\(0<d/\0<t->(d=3\/d=5\/d=6)/\t<=3))/\(if z then h≠ -1 else o=0)
theorem ld (t:Stm):t.frm=true↔yO t.dn t.tn t.z t.h t.o:=by
 unfold Stm.frm yO TM;rw[Bool.and_eq_true,decide_eq_true_eq];refine and_congr Iff.rfl ?_;cases t.z<;>simp[mT]
theorem uJ {G:Glo}{m:Int}(hU:ab G (ct m))(l:List UInt8)(hl:l.length<100000)(a b c:Bool):aj prog G 29 [.str l,.str (([32]++xV a b c)++[32])] (.bool (Wr l a b c)):=iF hU l _ hl
theorem E_3 {t:Stm}(h:¬yO t.dn t.tn t.z t.h t.o):t.E= .errno 3:=by
 unfold Stm.E;rw[if_neg (λk=>h ((ld t).1 k))]
theorem E_2 {t:Stm}(h:yO t.dn t.tn t.z t.h t.o)(k:t.rng=false):t.E= .errno 2:=by
 unfold Stm.E;rw[if_pos ((ld t).2 h),k];rfl
theorem E_0 {t:Stm}(h:yO t.dn t.tn t.z t.h t.o)(k:t.rng=true):t.E= .none:=by
 unfold Stm.E;rw[if_pos ((ld t).2 h),k];rfl
attribute [local irreducible] bN aw aC bg ab ae aa
attribute [local irreducible] xV Wr eX aB ub uS
theorem j8 {G:Glo}{m:Int}(hU:ab G (ct m))(t:Stm):aj prog G 152 [t.A] t.E.A:=by
 have h1:=n5 (G:=G) t.y t.m t.d;have h2:=n5 (G:=G) t.h t.i t.s;have h3a:=uJ (G:=G) hU Uz (by decide) (aB t.y) (aB t.m) (aB t.d);have h3b:=uJ (G:=G) hU Wo (by decide) (aB t.y) (aB t.m) (aB t.d);have h4a:=uJ (G:=G) hU Uz (by decide) (aB t.h) (aB t.i) (aB t.s);have h4b:=uJ (G:=G) hU Vu (by decide) (aB t.h) (aB t.i) (aB t.s);rw[cnA] at h3a h4a;rw[cnD] at h3b;rw[cnT] at h4b;have k1:=Gz (aB t.y) (aB t.m) (aB t.d);have k2:=Gz (aB t.h) (aB t.i) (aB t.s);have k3:=Sz (aB t.y) (aB t.m) (aB t.d) (aB t.h) (aB t.i) (aB t.s);have k4:=He (aB t.y) (aB t.m) (aB t.d);have k5:=He (aB t.h) (aB t.i) (aB t.s);have h5:=IU (G:=G) t.y t.m;have h6:=λn lo hi=>B3 (G:=G) n lo hi;have h7:=pu (G:=G) t.o;have l1:(xV (aB t.y) (aB t.m) (aB t.d)).length=3:=by unfold xV;rfl
 have l2:(xV (aB t.h) (aB t.i) (aB t.s)).length=3:=by unfold xV;rfl
 refine ao func152 call152 λC hC hGL=> ?_;refine az ?_;intros;refine cR mixed hC hGL false (λ(_:Unit)=>[(1,.rop [.int .i64 t.y,.int .i64 t.m,.int .i64 t.d,.int .i64 t.h,.int .i64 t.i,.int .i64 t.s,.bool t.z,.int .i64 t.o] 0),(2,.raw .nilIface),(3,.str (xV (aB t.y) (aB t.m) (aB t.d))),(4,.str (xV (aB t.h) (aB t.i) (aB t.s)))]) (λ_=>[]) .p10 (by kernel_rfl) ?_ ?_
 ·refine xn ?_;repeat' first|exact .n|apply Lc.mk
  all_goals intros
  all_goals exact⟨(),⟨rfl,rfl,rfl,rfl,trivial⟩,rfl⟩
 intro _;clear h1 h2;have hE3:=λh=>E_3 (t:=t) h;have hE2:=λh k=>E_2 (t:=t) h k;have hE0:=λh k=>E_0 (t:=t) h k;unfold yO Stm.dn Stm.tn at hE3 hE2 hE0;unfold Stm.rng Stm.day at hE2 hE0;cases hz:t.z;all_goals
  rw[hz] at hE3 hE2 hE0;simp only[Bool.false_eq_true,if_false,if_true] at hE3 hE2 hE0;repeat' (first|(conv=>whnf);first|refine .w ?_|refine .v ?_|refine cj ?_ ?_<;>(intro hb;try exact dd hb)|apply aF|apply bf|(apply bQ<;>intro hb)|(apply bR;intro hbd)|(apply aZ;first|exact h3a|exact h3b|exact h4a|exact h4b|exact h5|exact h6 _ _ _|exact h7)|(apply aL (i:=0) rfl;first|exact h3a|exact h3b|exact h4a|exact h4b|exact h5|exact h6 _ _ _|exact h7)|(apply bS;intro bl)|(apply cb;intro va vk vc hva)|(apply ca;intro v)|(apply cd;intro bl cap hcap)|apply cg|(apply bZ<;>intro hnx)|exact True.intro|(apply iy;intro C hC)|apply iw|apply io|(apply ip;exact rfl)|(show Rt _ _ _;exact bK)|fail)
  all_goals try conv=>whnf
  all_goals
   clear h3a h3b h4a h4b h5 h6 h7;simp only[ne_eq,Gz,Sz,decide_eq_true_eq,decide_eq_false_iff_not] at*
   apply ak;generalize dT (aB t.y) (aB t.m) (aB t.d)=dn at*
   generalize dT (aB t.h) (aB t.i) (aB t.s)=tn at*
   generalize uS t.o=zr at*
   first|rw[if_neg (by assumption)] at hE2 hE0|rw[if_pos (by assumption)] at hE2 hE0|skip
   generalize eX t.m 1 12=w1 at*
   generalize eX t.d 1 (ub t.y t.m)=w2 at*
   generalize eX t.d 1 31=w8 at*
   generalize eX t.h 0 23=w3 at*
   generalize eX t.i 0 59=w4 at*
   generalize eX t.s 0 59=w5 at*
   generalize eX t.y 0 9999=w6 at*
   first
    |(rw[hE3 (by omega)];rfl)
    |(rw[hE2 (by omega) (by simp[*])];rfl)
    |(rw[hE0 (by omega) (by simp[*])];rfl)
end
section
attribute [local irreducible] bN aw aa aC bg ab ae
theorem Rv {a b:Int}:cm a b=decide (a=b):=by rw[Bool.eq_iff_iff,bP,decide_eq_true_eq]
theorem Vl.E_bad {v:Vl}(h:v.t<1\/9<=v.t\/v.only=false):v.E= .errno 1:=if_pos h
theorem Vl.E_ok {v:Vl}(h1:1<=v.t)(h2:v.t<9)(h3:v.only=true):v.E=if v.t=2\/v.t=3 then tP v.t v.L
  else if v.t=4 then(gu v.s).b else if v.t=5 then v.st.E else if v.t=6 then lj v.n else if v.t=7 then(dF v.s).b else if fh (decide (v.t=1)) v.s then .none else .errno 3:=by
 unfold Vl.E;rw[if_neg];rintro(h|h|h)
 ·omega
 ·omega
 ·rw[h3] at h;cases h
theorem Vl.E_rest {v:Vl}(h:v.only=true)(h1:1<=v.t)(h2:v.t<9)(a:v.t≠2)(b:v.t≠3)(c:v.t≠4)(d:v.t≠5)(e:v.t≠6)(f:v.t≠7):v.E=if fh (decide (v.t=1)) v.s then .none else .errno 3:=by
 rw[Vl.E_ok h1 h2 h,if_neg (by omega),if_neg c,if_neg d,if_neg e,if_neg f]
theorem Vl.E_p {v:Vl}(h:v.only=true)(a:v.t=2\/v.t=3):v.E=tP v.t v.L:=by rw[Vl.E_ok (by omega) (by omega) h,if_pos a]
theorem Vl.E_4 {v:Vl}(h:v.only=true)(a:v.t=4):v.E=(gu v.s).b:=by rw[Vl.E_ok (by omega) (by omega) h,if_neg (by omega),if_pos a]
theorem Vl.E_5 {v:Vl}(h:v.only=true)(a:v.t=5):v.E=v.st.E:=by rw[Vl.E_ok (by omega) (by omega) h,if_neg (by omega),if_neg (by omega),if_pos a]
theorem Vl.E_6 {v:Vl}(h:v.only=true)(a:v.t=6):v.E=lj v.n:=by rw[Vl.E_ok (by omega) (by omega) h,if_neg (by omega),if_neg (by omega),if_neg (by omega),if_pos a]
theorem Vl.E_7 {v:Vl}(h:v.only=true)(a:v.t=7):v.E=(dF v.s).b:=by rw[Vl.E_ok (by omega) (by omega) h,if_neg (by omega),if_neg (by omega),if_neg (by omega),if_neg (by omega),if_pos a]
theorem HI {t:Int}{L:List (List (List UInt8))}(h:L.length=0\/(t=2/\L.length≠1)):tP t L= .errno 8:=if_pos h
theorem HJ {t:Int}{L:List (List (List UInt8))}(h:¬(L.length=0\/(t=2/\L.length≠1))):tP t L=if dS L<L.length then .errno 8 else if NQ L then .none else .errno 3:=if_neg h
structure Vl.OK (v:Vl):Prop where
 s:v.s.length<=9223372036854775000
 n:v.L.length<=2000000
 r:∀k,(v.L.getD k []).length<=2000000
 l:∀k j,((v.L.getD k []).getD j []).length<=9223372036854775807
attribute [local irreducible] ow fh dy ly Vl.only gu dF Stm.E uS dS NQ
theorem sU {G:Glo}{m:Int}(hU:ab G errTy)(hM:ab G (ct m))(v:Vl)(hv:v.OK):aj prog G 94 [v.A] v.E.A:=by
 have h0:=EZ (G:=G) v;have h1:=yT (G:=G) v.s (by have:=hv.s;omega);have h2:=u5 hU (gu v.s);rw[<-yU (gu v.s)] at h2;have h3:=j8 hM v.st;have h4:=pu (G:=G) v.n;have h5:=pQ (G:=G) v.s (by have:=hv.s;omega)
 have h6:=u5 hU (dF v.s)
 rw[<-yU (dF v.s)] at h6
 have h7:=nf (G:=G) v.s (cm v.t 1) (by have:=hv.s;omega)
 have h8:=λk j=>nf (G:=G) ((v.L.getD k []).getD j []) true (hv.l k j)
 rw[show fh (cm v.t 1) v.s=fh (decide (v.t=1)) v.s by rw[Rv]] at h7
 have k1:=λk j (_:(0:Int)<=0)=>h8 k j
 have hn:=hv.n
 have hr:=hv.r
 obtain⟨t,s,L,st,n⟩:=v
 dsimp only at*
 by_cases ht:t<1\/9<=t
 ·rw[Vl.E_bad (v:=⟨t,s,L,st,n⟩) (ht.elim .inl (λh=>.inr (.inl h)))]
  refine ao func94 call94 λC hC hGL=> ?_
  refine xw ?_
  repeat' first|exact .n|apply Lc.mk
  all_goals intros
  all_goals dsimp only at*
  all_goals first|exact ak rfl|(exfalso;omega)
 cases ho:Vl.only ⟨t,s,L,st,n⟩
 ·rw[Vl.E_bad (.inr (.inr ho))]
  rw[ho] at h0
  refine ao func94 call94 λC hC hGL=> ?_
  exact ba
 ·rw[ho] at h0
  refine ao func94 call94 λC hC hGL=> ?_
  refine xw ?_
  repeat' first|exact .n|apply Lc.mk
  all_goals intros
  all_goals dsimp only at*
  all_goals try first
   |(apply ak;rw[Vl.E_4 ho (by assumption)];done)
   |(apply ak;rw[Vl.E_5 ho (by assumption)];done)
   |(apply ak;rw[Vl.E_7 ho (by assumption)];done)
   |(apply ak;rw[Vl.E_6 ho (by assumption)];unfold lj;dsimp only;rw[show uS n=true by assumption];rfl)
   |(apply ak;rw[Vl.E_6 ho (by assumption)];unfold lj;dsimp only;rw[show uS n=false by assumption];rfl)
   |(apply ak;rw[Vl.E_p ho (by first|exact .inl (by assumption)|exact .inr (by assumption)),HI (by dsimp only;omega)];rfl)
   |(apply ak;rw[Vl.E_rest ho (by assumption) (by assumption) (by assumption) (by assumption) (by assumption) (by assumption) (by assumption) (by assumption)];dsimp only;rw[show fh (decide (t=1)) s=true by assumption];rfl)
   |(apply ak;rw[Vl.E_rest ho (by assumption) (by assumption) (by assumption) (by assumption) (by assumption) (by assumption) (by assumption) (by assumption)];dsimp only;rw[show fh (decide (t=1)) s=false by assumption];rfl)
  all_goals
   rw[Vl.E_p ho (by first|exact .inl (by assumption)|exact .inr (by assumption)),HJ (by dsimp only;omega)]
   dsimp only
   refine lp hC hGL (λk:Nat=>[(1,.rop [.int .i64 t,.str s,.list 1 L.length (eF L),.int .i64 st.y,.int .i64 st.m,.int .i64 st.d,.int .i64 st.h,.int .i64 st.i,.int .i64 st.s,.bool st.z,.int .i64 st.o,.int .i64 n] 0),(45,.list 1 L.length (eF L)),(46,.int .i64 (L.length:Nat)),(47,.int .i64 (k:Nat))]) (λ_=>[]) (λk=>k<=dS L) (λk=>L.length-k) 0 ?_ ad rfl ?_
   ·exact Nat.zero_le _
   intro k hk
   have hnl:=qI L
   refine xw ?_
   repeat' first|exact .n|apply Lc.mk
   all_goals intros
   all_goals try first
    |(apply ak;rw[if_pos (HV (by omega) hk (by omega))];rfl)
    |exact di (k+1) (Do (by omega) hk (by omega)) (by omega) ad rfl
   rw[if_neg (by omega)]
   refine lp hC hGL (λk:Nat=>[(57,.list 1 L.length (eF L)),(58,.int .i64 (L.length:Nat)),(59,.int .i64 (k:Nat))]) (λ_=>[]) (λk=>k<=L.length/\U8 L k) (λk=>L.length-k) 0 ?_ ad rfl ?_
   ·exact⟨Nat.zero_le _,λi hi=>absurd hi (Nat.not_lt_zero _)⟩
   rintro i ⟨hi,hK⟩
   refine xw ?_
   repeat' first|exact .n|apply Lc.mk
   all_goals intros
   all_goals try (apply ak;rw[In (by omega) hK];rfl)
   ·refine lp hC hGL (λj:Nat=>[(57,.list 1 L.length (eF L)),(58,.int .i64 (L.length:Nat)),(59,.int .i64 (i:Nat)),(63,.list 1 (L.getD i []).length (ay (L.getD i []))),(64,.int .i64 ((L.getD i []).length:Nat)),(65,.int .i64 (j:Nat))]) (λ_=>[]) (λj=>j<=(L.getD i []).length/\V8 (L.getD i []) j) (λj=>(L.getD i []).length-j) 0 ?_ ad rfl ?_
    ·exact⟨Nat.zero_le _,λi hi=>absurd hi (Nat.not_lt_zero _)⟩
    rintro j ⟨hj,hJ⟩
    have hri:=hr i
    refine xw ?_
    repeat' first|exact .n|apply Lc.mk
    all_goals intros
    all_goals first
     |(apply ak;rw[Im (k:=i) (by omega) (Io (j:=j) (by omega) (by assumption))];rfl)
     |exact di (j+1) ⟨by omega,DT hJ (by assumption)⟩ (by omega) ad rfl
     |exact di (i+1) ⟨by omega,DR hK (Ip (by omega) hJ)⟩ (by omega) ad rfl
end
section
attribute [local irreducible] bN aw aa aC bg ab ae
theorem QO {P:Program}[Tab P]{C:Ctx}{n:Nat}{env:Env}{H:Heap}{Q:aQ->Env->Heap->Prop}{c:Code}(k:Lp P C n c env [] Q):Lp P C n c env H Q:=
 qM (λR _ _ hm hf=>⟨R,Seal.le_refl R,hm.drop (List.nil_sublist _),hf⟩) k
theorem MK {v:Vl}{z:Bool}(hz:ly v.st=z):v.only=true↔(v.s.length=0\/v.t=1\/v.t=4\/v.t=7\/v.t=8)/\(v.L.length=0\/v.t=2\/v.t=3)/\((if z then 0 else 1:Int)=0\/v.t=5)/\(v.n=0\/v.t=6):=by
 unfold Vl.only
 rw[hz,decide_eq_true_eq];cases z<;>simp
theorem Vl.E_out {v:Vl}(h:v.t<1\/9<=v.t):v.E= .errno 1:=Vl.E_bad (h.elim .inl (λk=>.inr (.inl k)))
theorem Vl.E_no {v:Vl}(h:¬v.only=true):v.E= .errno 1:=Vl.E_bad (.inr (.inr (by simpa using h)))
attribute [local irreducible] ow fh dy ly Vl.only gu dF Stm.e uS dS NQ
theorem nw {G:Glo}{m:Int}(hU:ab G utfTy)(hM:ab G (ct m))(v:Vl)(hv:v.OK)(hl:v.s.length<=10000)(h3:aj prog G 123 [v.st.A] (.int .i64 v.st.e)):aj prog G 73 [v.A] (.int .i64 v.E.e):=by
 have h1:=qC (G:=G) v.s (by omega);have h4:=iS (G:=G) v.n;have h5:=ll hM v.s hl;have h7:=oe hU v.s true (by omega);have h8:=oe hU v.s false (by omega);have k1:=λk j (_:(0:Int)<=0)=>oe hU ((v.L.getD k []).getD j []) true (hv.l k j);have hW:=eY (G:=G) v.t 1 8;have hz:=uV v.st;have hz0:yN [cm 0 0,cm 0 0,cm 0 0,cm 0 0,cm 0 0,cm 0 0,false==false,cm 0 0]=true:=by rw[uV ⟨0,0,0,0,0,0,false,0⟩];unfold ly;rfl
 have hn:=hv.n;have hr:=hv.r;by_cases ht:v.t<1\/9<=v.t
 ·rw[show(decide (1<=v.t)&&decide (v.t<=8))=false by rw[<-Bool.not_eq_true,Bool.and_eq_true,decide_eq_true_eq,decide_eq_true_eq];omega] at hW;rw[Vl.E_out ht];refine ao func73 call73 λC hC hGL=> ?_;exact ba
 rw[show(decide (1<=v.t)&&decide (v.t<=8))=true by rw[Bool.and_eq_true,decide_eq_true_eq,decide_eq_true_eq];omega] at hW;have hO:=MK (v:=v) rfl;cases hq:ly v.st
 all_goals
  rw[hq] at hz hO;simp only[if_true,if_false,Bool.false_eq_true,true_or,true_and] at hO;refine ao func73 call73 λC hC hGL=> ?_;refine xw ?_;repeat' first|exact .n|apply Lc.mk
  all_goals intros
  all_goals first
   |(refine aP hC hGL (rS _ rfl rfl rfl rfl (by kernel_rfl) (by kernel_rfl) (by kernel_rfl) rfl hz) rfl rfl ?_;refine xw ?_)
   |(refine aP hC hGL (rS _ rfl rfl rfl rfl (by kernel_rfl) (by kernel_rfl) (by kernel_rfl) rfl hz0) rfl rfl ?_;refine xw ?_)
   |skip
  repeat' first|exact .n|apply Lc.mk
  all_goals intros
  all_goals try first
   |(apply ak;rw[Vl.E_no (λk=>by have:=hO.1 k;omega)];rfl)
   |(apply ak;rw[Vl.E_4 (hO.2 (by omega)) (by assumption),Err.b_e];done)
   |(apply ak;rw[Vl.E_5 (hO.2 (by omega)) (by assumption),Stm.E_e];done)
   |(apply ak;rw[Vl.E_7 (hO.2 (by omega)) (by assumption),Err.b_e];done)
   |(apply ak;rw[Vl.E_6 (hO.2 (by omega)) (by assumption)];unfold lj;rw[show uS v.n=true by assumption];rfl)
   |(apply ak;rw[Vl.E_6 (hO.2 (by omega)) (by assumption)];unfold lj;rw[show uS v.n=false by assumption];rfl)
   |(apply ak;rw[Vl.E_p (hO.2 (by omega)) (by omega),HI (by omega)];rfl)
   | (apply ak;rw[Vl.E_rest (hO.2 (by omega)) (by omega) (by omega) (by omega) (by omega) (by omega) (by omega) (by omega) (by omega)];first
     |(rw[show decide (v.t=1)=true from decide_eq_true (by omega),show fh true v.s=true by assumption];rfl)
     |(rw[show decide (v.t=1)=true from decide_eq_true (by omega),show fh true v.s=false by assumption];rfl)
     |(rw[show decide (v.t=1)=false from decide_eq_false (by omega),show fh false v.s=true by assumption];rfl)
     |(rw[show decide (v.t=1)=false from decide_eq_false (by omega),show fh false v.s=false by assumption];rfl))
  all_goals
   rw[Vl.E_p (hO.2 (by omega)) (by omega),HJ (by omega)];refine QO ?_;refine lp hC hGL (λx:Nat×Bool=>[(4,.bool x.2),(71,.list 1 v.L.length (eF v.L)),(72,.int .i64 (v.L.length:Nat)),(73,.int .i64 (x.1:Nat))]) (λ_=>[]) (λx=>x.1<=dS v.L/\(x.2=false->U8 v.L x.1)/\(x.2=true->NQ v.L=false)) (λx=>v.L.length-x.1) (0,false) ?_ ad rfl ?_
   ·exact⟨Nat.zero_le _,λ_ i hi=>absurd hi (Nat.not_lt_zero _),λh=>by cases h⟩
   rintro⟨k,b⟩ ⟨hk,hb1,hb2⟩;dsimp only at hk hb1 hb2;have hnl:=qI v.L;refine xw ?_;repeat' first|exact .n|apply Lc.mk
   all_goals intros
   all_goals try dsimp only at*
   all_goals try first
    |(apply ak;rw[if_pos (HV (k:=k) (by omega) hk (by omega))];rfl)
    |(apply ak;rw[if_neg (by omega),hb2 (by assumption)];rfl)
    |(apply ak;rw[if_neg (by omega),In (by omega) (hb1 (by assumption))];rfl)
   refine lp hC hGL (λx:Nat×Bool=>[(4,.bool x.2),(71,.list 1 v.L.length (eF v.L)),(72,.int .i64 (v.L.length:Nat)),(73,.int .i64 (k:Nat)),(80,.list 1 (v.L.getD k []).length (ay (v.L.getD k []))),(81,.int .i64 ((v.L.getD k []).length:Nat)),(82,.int .i64 (x.1:Nat))]) (λ_=>[]) (λx=>x.1<=(v.L.getD k []).length/\(x.2=false->U8 v.L k/\V8 (v.L.getD k []) x.1)/\(x.2=true->NQ v.L=false)) (λx=>(v.L.getD k []).length-x.1) (0,b) ?_ ad rfl ?_
   ·exact⟨Nat.zero_le _,λh=>⟨hb1 h,λi hi=>absurd hi (Nat.not_lt_zero _)⟩,hb2⟩
   rintro⟨j,c⟩ ⟨hj,hc1,hc2⟩;dsimp only at hj hc1 hc2;have hrk:=hr k;refine xw ?_;repeat' first|exact .n|apply Lc.mk
   all_goals intros
   all_goals try dsimp only at*
   all_goals first
    |(refine di (k+1,c) ⟨Do (by omega) hk (by omega),λh=>DR (hc1 h).1 (Ip (by omega) (hc1 h).2),hc2⟩ (by dsimp only;omega) ad rfl)
    |(refine di (j+1,true) ⟨by dsimp only;omega,λh=>Bool.noConfusion h,λ_=>hc2 (by assumption)⟩ (by dsimp only;omega) ad rfl)
    |(refine di (j+1, !(fh true ((v.L.getD k []).getD j []))) ⟨by dsimp only;omega,λh=>⟨(hc1 (by assumption)).1,DT (hc1 (by assumption)).2 (by simpa using h)⟩,λh=>Im (k:=k) (by omega) (Io (j:=j) (by omega) (by simpa using h))⟩ (by dsimp only;omega) ad rfl)
end
section
attribute [local irreducible] bN aw aa aC bg ab ae
theorem Vl.E_none {v:Vl}(h:v.E= .none):v.only=true/\1<=v.t/\v.t<9:=by
 by_cases h1:v.t<1\/9<=v.t\/v.only=false
 ·rw[Vl.E_bad h1] at h;cases h
 ·refine⟨?_,by omega,by omega⟩;cases ho:v.only
  ·exact absurd (.inr (.inr ho)) h1
  ·rfl
theorem Vl.T_ok {v:Vl}(h:v.E= .none):v.T=if v.t=1 then escS v.s else if v.t=2\/v.t=3 then gw v.L else if v.t=5 then v.st.T else if v.t=6 then jp v.n else v.s:=by
 unfold Vl.T;rw[h]
theorem Vl.T_no {v:Vl}(h:v.E≠ .none):v.T=[]:=by
 unfold Vl.T;split
 ·rename_i k;exact absurd k h
 ·rfl
theorem DI {t:Int}{L:List (List (List UInt8))}(h:tP t L= .none):g9 L= .none:=by
 unfold tP at h;unfold g9;split at h
 ·cases h
 ·split at h
  ·cases h
  ·rename_i h1 h2;rw[if_neg (λk=>h1 (.inl (by rw[k];rfl))),if_neg h2]
theorem Vl.right {v:Vl}(h:v.E= .none):(v.t=2\/v.t=3->g9 v.L= .none)/\(v.t=5->v.st.E= .none)/\(v.t=6->lj v.n= .none):=by
 obtain⟨ho,_,_⟩:=Vl.E_none h;refine⟨λk=> ?_,λk=> ?_,λk=> ?_⟩
 ·rw[Vl.E_p ho k] at h;exact DI h
 ·rwa [Vl.E_5 ho k] at h
 ·rwa [Vl.E_6 ho k] at h
theorem T_1 {v:Vl}(h:v.E= .none)(k:v.t=1):v.T=escS v.s:=by rw[Vl.T_ok h,if_pos k]
theorem T_2 {v:Vl}(h:v.E= .none)(k:v.t=2\/v.t=3):v.T=gw v.L:=by rw[Vl.T_ok h,if_neg (by omega),if_pos k]
theorem T_5 {v:Vl}(h:v.E= .none)(k:v.t=5):v.T=v.st.T:=by rw[Vl.T_ok h,if_neg (by omega),if_neg (by omega),if_pos k]
theorem T_6 {v:Vl}(h:v.E= .none)(k:v.t=6):v.T=jp v.n:=by rw[Vl.T_ok h,if_neg (by omega),if_neg (by omega),if_neg (by omega),if_pos k]
theorem T_s {v:Vl}(h:v.E= .none)(a:v.t≠1)(b:v.t≠2)(c:v.t≠3)(d:v.t≠5)(e:v.t≠6):v.T=v.s:=by rw[Vl.T_ok h,if_neg a,if_neg (by omega),if_neg d,if_neg e]
attribute [local irreducible] Vl.E Vl.T gw g9 jp lj Stm.T Stm.E Stm.e escS escF
theorem B5 {G:Glo}(v:Vl)(hR:aj prog G 94 [v.A] v.E.A)(hE:aj prog G 200 [.str v.s] (.str (escS v.s)))
  (hJ:aj prog G 201 [.list 1 v.L.length (eF v.L)] (.tuple [.str (gw v.L),(g9 v.L).A])) (hP:aj prog G 202 [v.st.A] (.tuple [.str v.st.T,v.st.E.A])):
  aj prog G 154 [v.A] (.tuple [.str v.T,v.E.A]):=by
 have hZ:=uT (G:=G) v.n;rcases hq:v.E with _|e|⟨e,p⟩
 ·obtain⟨r1,r2,r3⟩:=Vl.right hq
  have t1:=T_1 hq
  have t2:=T_2 hq
  have t5:=T_5 hq
  have t6:=T_6 hq
  have ts:=T_s hq
  rw[hq] at hR
  refine ao func154 call154 λC hC hGL=> ?_
  refine xw ?_
  repeat' first|exact .n|apply Lc.mk
  all_goals intros
  all_goals first
   |(apply ak;rw[t1 (by assumption)]<;>rfl)
   |(apply ak;rw[t2 (by omega),r1 (by omega)]<;>rfl)
   |(apply ak;rw[t5 (by assumption),r2 (by assumption)]<;>rfl)
   |(apply ak;rw[t6 (by assumption),r3 (by assumption)]<;>rfl)
   |(apply ak;rw[ts (by assumption) (by assumption) (by assumption) (by assumption) (by assumption)]<;>rfl)
 ·rw[Vl.T_no (by rw[hq];exact λk=>by cases k)]
  rw[hq] at hR
  refine ao func154 call154 λC hC hGL=> ?_
  exact ba
 ·rw[Vl.T_no (by rw[hq];exact λk=>by cases k)]
  rw[hq] at hR
  refine ao func154 call154 λC hC hGL=> ?_
  exact ba
theorem vO {G:Glo}(v:Vl)(hR:aj prog G 73 [v.A] (.int .i64 v.E.e))(hE:aj prog G 176 [.str v.s] (.str (escS v.s)))
  (hJ:aj prog G 177 [.list 1 v.L.length (eF v.L)] (.tuple [.str (gw v.L),.agg [.int .i64 (g9 v.L).e,.int .i64 (g9 v.L).p]])) (hP:aj prog G 178 [v.st.A] (.tuple [.str v.st.T,.int .i64 v.st.e]))
  (h0:v.E.e=0->v.E= .none):aj prog G 124 [v.A] (.tuple [.str v.T,.int .i64 v.E.e]):=by
 have hZ:=o8 (G:=G) v.n;by_cases hq:v.E= .none
 ·obtain⟨r1,r2,r3⟩:=Vl.right hq;have t1:=T_1 hq;have t2:=T_2 hq;have t5:=T_5 hq;have t6:=T_6 hq;have ts:=T_s hq;have r4:v.t=5->v.st.e=0:=λk=>by rw[<-Stm.E_e,r2 k];rfl
  rw[hq] at hR ⊢;have hR:aj prog G 73 [v.A] (.int .i64 0):=hR;have e0:(Err.none).e=0:=rfl;rw[e0];refine ao func124 call124 λC hC hGL=> ?_;refine xw ?_;repeat' first|exact .n|apply Lc.mk
  all_goals intros
  all_goals first
   |(apply ak;rw[t1 (by assumption)]<;>rfl)
   |(apply ak;rw[t2 (by omega)]<;>rfl)
   |(apply ak;rw[t5 (by assumption),r4 (by assumption)]<;>rfl)
   |(apply ak;rw[t6 (by assumption),r3 (by assumption)]<;>rfl)
   |(apply ak;rw[ts (by assumption) (by assumption) (by assumption) (by assumption) (by assumption)]<;>rfl)
 ·have hne:v.E.e≠0:=λk=>hq (h0 k);rw[Vl.T_no hq];refine ao func124 call124 λC hC hGL=> ?_;exact ba
end
section
attribute [local irreducible] bN aw aa aC bg ab ae
theorem TE (t:Int)(L:List (List (List UInt8))):(tP t L).p= -1:=by unfold tP;(repeat' split)<;>rfl
theorem Vl.E_at (v:Vl):v.E.p= -1:=by
 unfold Vl.E
 (repeat' split)
 ·rfl
 ·exact TE _ _
 ·exact Err.b_p _
 ·exact Stm.E_p _
 ·unfold lj;split<;>rfl
 ·exact Err.b_p _
 ·rfl
 ·rfl
theorem SU (s:List UInt8)(h:(gu s).e=0):gu s= .none:=by
 unfold gu at h ⊢
 (repeat' split at h)<;>first|(exfalso;revert h;simp[Err.e];done)|(rename_i h1 h2 h3;rw[if_neg h1,if_neg h2,if_neg h3])
theorem H9:∀(l:List (List UInt8)) (b:Bool) (a:Nat),(eO b a l).e=0->eO b a l= .none
 |[],_,_,_=>rfl
 |x::xs,b,a,h=>by
  rw[pR] at h ⊢;split at h
  ·rename_i k;rw[if_pos k];exact H9 xs _ _ h
  ·rename_i k;exfalso;revert h k
   unfold eE
   (repeat' split)<;>simp[Err.e,Err.isNone]
theorem Err.b_none {x:Err}(h:x.e=0->x= .none)(k:x.b.e=0):x.b= .none:=by
 rw[Err.b_e] at k;rw[h k];rfl
theorem Vl.E_zero (v:Vl)(h:v.E.e=0):v.E= .none:=by
 revert h
 unfold Vl.E
 (repeat' split)
 ·intro h;cases h
 ·unfold tP;(repeat' split)<;>intro h<;>first|rfl|cases h
 ·exact Err.b_none (SU _)
 ·unfold Stm.E;(repeat' split)<;>intro h<;>first|rfl|cases h
 ·unfold lj;(repeat' split)<;>intro h<;>first|rfl|cases h
 ·exact Err.b_none (H9 _ _ _)
 ·intro _;rfl
 ·intro h;cases h
attribute [local irreducible] Vl.E Vl.T fh
end
section
def Bk (f:Nat->Int):Nat->Int
 |0=>0
 |n+1=>if Bk f n=0 then f n else Bk f n
theorem lT {f:Nat->Int}:∀{n:Nat},(∀j,j<n->f j=0)->Bk f n=0
 |0,_=>rfl
 |n+1,h=>by rw[Bk,if_pos (lT λj hj=>h j (by omega)),h n (by omega)]
theorem uE {f:Nat->Int}{k:Nat}:∀{n:Nat},k<n->(∀j,j<k->f j=0)->f k≠0->Bk f n=f k
 |0,h,_,_=>absurd h (Nat.not_lt_zero _)
 |n+1,h,h1,h2=>by
  rw[Bk]
  rcases Nat.lt_or_ge k n with g|g
  ·rw[uE g h1 h2,if_neg h2]
  ·obtain rfl:k=n:=by omega
   rw[if_pos (lT h1)]
def tW (f:Nat->Int):Nat->Err
 |0=>.none
 |n+1=>match tW f n with
  |.none=>if f n=0 then .none else .at (f n) n
  |e=>e
theorem j4 {f:Nat->Int}:∀{n:Nat},(∀j,j<n->f j=0)->tW f n= .none
 |0,_=>rfl
 |n+1,h=>by rw[tW,j4 λj hj=>h j (by omega)];simp only[h n (by omega),if_true]
theorem uF {f:Nat->Int}{k:Nat}:∀{n:Nat},k<n->(∀j,j<k->f j=0)->f k≠0->tW f n= .at (f k) k
 |0,h,_,_=>absurd h (Nat.not_lt_zero _)
 |n+1,h,h1,h2=>by
  rw[tW];rcases Nat.lt_or_ge k n with g|g
  ·rw[uF g h1 h2]
  ·obtain rfl:k=n:=by omega
   rw[j4 h1];simp only[h2,if_false]
def Kb (n:List UInt8):Bool:=aS (al 97 122 (-32) n) [66,69,71,73,78]||(aS (al 97 122 (-32) n) [69,78,68]||aS (al 97 122 (-32) n) [86,69,82,83,73,79,78])
def pE (ps:List Pr)(i:Nat):Int:=if(ps.getD i Pr.z).fit=false then 3 else if al 97 122 (-32) (ps.getD i Pr.z).n≠nTYP/\dI (ps.getD i Pr.z).n ps 0<(i:Int) then 9 else 0
def pI (ps:List Pr):Int:=Bk (pE ps) ps.length
theorem N3 {s:List UInt8}{l:List Pr}:∀{j:Nat},j<l.length->al 97 122 (-32) (l.getD j Pr.z).n=al 97 122 (-32) s->dI s l 0<=(j:Int):=by
 intro j
 induction j using Nat.strongRecOn with
 |_ j ih=>
  intro hj he;by_cases h:∃i,i<j/\al 97 122 (-32) (l.getD i Pr.z).n=al 97 122 (-32) s
  ·obtain⟨i,hi,h⟩:=h;have:=ih i hi (by omega) h;omega
  ·rw[nM 0 hj (λi hi e=>h ⟨i,hi,e⟩) he]
   omega
theorem zR {l:List Pr}{i:Nat}(hi:i<l.length):dI (l.getD i Pr.z).n l 0<(i:Int)↔∃j,j<i/\al 97 122 (-32) (l.getD j Pr.z).n=al 97 122 (-32) (l.getD i Pr.z).n:=by
 constructor
 ·intro h;apply Classical.byContradiction;intro hn;rw[nM 0 hi (λj hj e=>hn ⟨j,hj,e⟩) rfl] at h;omega
 ·rintro⟨j,hj,h⟩;have:=N3 (s:=(l.getD i Pr.z).n) (l:=l) (j:=j) (by omega) h;omega
theorem VF {ps:List Pr}{i:Nat}(h:(ps.getD i Pr.z).fit=false):pE ps i=3:=by unfold pE;rw[if_pos h]
theorem VE {ps:List Pr}{i:Nat}(h:(ps.getD i Pr.z).fit=true)(h1:al 97 122 (-32) (ps.getD i Pr.z).n≠nTYP)(h2:dI (ps.getD i Pr.z).n ps 0<(i:Int)):pE ps i=9:=by unfold pE;rw[if_neg (by rw[h];decide),if_pos ⟨h1,h2⟩]
theorem TL {ps:List Pr}{i:Nat}(h:(ps.getD i Pr.z).fit=true)(h1:¬(al 97 122 (-32) (ps.getD i Pr.z).n≠nTYP/\dI (ps.getD i Pr.z).n ps 0<(i:Int))):pE ps i=0:=by unfold pE;rw[if_neg (by rw[h];decide),if_neg h1]
theorem kX {ps:List Pr}{k:Nat}(hk:k<ps.length)(h:∀j,j<k->pE ps j=0)(h1:pE ps k≠0):pI ps=pE ps k:=uE hk h h1
theorem MC {ps:List Pr}{k:Nat}(hk:ps.length<=k)(h:∀j,j<k->pE ps j=0):pI ps=0:=lT λj hj=>h j (by omega)
def Itm.k (v:Int)(x:Itm):Int:=j9 v x.1.n x.1.ps
def Itm.ln (x:Itm):Ln:=⟨x.1.g,x.1.n,x.1.ps,x.2.T⟩
def Itm.L (v:Int)(x:Itm):List UInt8:=x.ln.T (cm v 4)
def Itm.r (v:Int)(x:Itm):Int:=if x.2.t=3/\0<(ci v x.1.n).p/\(ci v x.1.n).p≠(x.2.L.length:Int) then 2 else if 1500<(x.L v).length then 4 else 0
def Itm.w (v:Int)(x:Itm):Int:=match x.p.E (cm v 4) with
 |.none=>if Kb x.1.n=true then 5 else if pI x.1.ps≠0 then pI x.1.ps else if x.k v≠x.2.t then 1 else match x.2.E with
  |.none=>x.r v
  |e=>e.e
 |e=>e.e
theorem SS {v:Int}{x:Itm}(h:x.p.E (cm v 4)≠ .none):x.w v=(x.p.E (cm v 4)).e:=by
 unfold Itm.w;split
 ·rename_i k;exact absurd k h
 ·rfl
theorem Vm {v:Int}{x:Itm}(h:x.p.E (cm v 4)= .none)(h1:Kb x.1.n=true):x.w v=5:=by
 unfold Itm.w;rw[h];simp only[h1,if_true]
theorem Sf {v:Int}{x:Itm}(h:x.p.E (cm v 4)= .none)(h1:Kb x.1.n=false)(h2:pI x.1.ps≠0):x.w v=pI x.1.ps:=by
 unfold Itm.w;rw[h];simp only[h1,Bool.false_eq_true,if_false,if_pos h2]
theorem Sg {v:Int}{x:Itm}(h:x.p.E (cm v 4)= .none)(h1:Kb x.1.n=false)(h2:pI x.1.ps=0)(h3:x.k v≠x.2.t):x.w v=1:=by
 unfold Itm.w;rw[h];simp only[h1,Bool.false_eq_true,if_false,h2,ne_eq,not_true_eq_false,if_pos h3]
theorem Se {v:Int}{x:Itm}(h:x.p.E (cm v 4)= .none)(h1:Kb x.1.n=false)(h2:pI x.1.ps=0)(h3:x.k v=x.2.t)(h4:x.2.E≠ .none):x.w v=x.2.E.e:=by
 unfold Itm.w;rw[h];simp only[h1,Bool.false_eq_true,if_false,h2,h3,ne_eq,not_true_eq_false]
theorem w_r {v:Int}{x:Itm}(h:x.p.E (cm v 4)= .none)(h1:Kb x.1.n=false)(h2:pI x.1.ps=0)(h3:x.k v=x.2.t)(h4:x.2.E= .none):x.w v=x.r v:=by
 unfold Itm.w;rw[h];simp only[h1,Bool.false_eq_true,if_false,h2,h3,h4,ne_eq,not_true_eq_false]
theorem Ln.E_v {c:Bool}{p:Ln}{v:List UInt8}(h:Ln.E c ⟨p.g,p.n,p.ps,[]⟩= .none)(hv:fh false v=true):Ln.E c ⟨p.g,p.n,p.ps,v⟩= .none:=by
 unfold Ln.E at h ⊢;dsimp only at h ⊢;split at h
 ·cases h
 ·rename_i h1;rw[if_neg h1];split at h
  ·cases h
  ·rename_i h2;rw[if_neg h2];split at h
   ·rename_i h3;simp only[hv,if_true]
   ·rename_i h3;exact absurd h h3
theorem N1 {c:Bool}:∀{l:List Pr} {i:Nat},(kB c l i).e=0->kB c l i= .none
 |[],_,_=>rfl
 |q::l,i,h=>by
  simp only[kB] at h ⊢;split at h
  ·rename_i g;rw[if_pos g];exact N1 h
  ·rename_i g;exact absurd h g
theorem VV {c:Bool}{p:Ln}(h:(p.E c).e=0):p.E c= .none:=by
 unfold Ln.E at h ⊢;split
 ·rename_i g;rw[if_pos g] at h;cases h
 ·rename_i g;rw[if_neg g] at h;split
  ·rename_i g2;rw[if_pos g2] at h;cases h
  ·rename_i g2;rw[if_neg g2] at h;have h0:=N1 (c:=c) (l:=p.ps) (i:=0);cases hf:kB c p.ps 0 with
   |none=>
    rw[hf] at h;dsimp only at h ⊢;split
    ·rfl
    ·rename_i g3;rw[if_neg g3] at h;cases h
   |errno e=>rw[hf] at h h0;exact absurd (h0 h) (λk=>by cases k)
   | «at» e q=>rw[hf] at h h0;exact absurd (h0 h) (λk=>by cases k)
theorem WN {v:Int}{x:Itm}(h:x.w v=0):x.p.E (cm v 4)= .none:=by
 unfold Itm.w at h;split at h
 ·rename_i k;exact k
 ·exact VV h
def iN (l:List Itm)(s:List UInt8)(k:Nat):Nat:=((l.take k).filter λx=>aS (al 97 122 (-32) x.1.n) s).length
theorem zX (l:List Itm)(s:List UInt8):iN l s 0=0:=rfl
theorem sO {l:List Itm}{s:List UInt8}{k:Nat}(hk:k<l.length):iN l s (k+1)=iN l s k+if aS (al 97 122 (-32) (l.getD k Itm.z).1.n) s then 1 else 0:=by
 unfold iN;rw[List.take_succ_eq_append_getElem hk,List.filter_append,List.length_append,List.getD_eq_getElem?_getD,List.getElem?_eq_getElem hk,Option.getD_some];congr 1
 simp only[List.filter_cons,List.filter_nil];split<;>rfl
theorem ro (l:List Itm)(s:List UInt8)(k:Nat):iN l s k<=k:=by
 unfold iN;refine Nat.le_trans (List.length_filter_le _ _) ?_;rw[List.length_take];omega
def kn (v:Int)(l:List Itm)(i:Nat):Int:=if 0<(ci v (l.getD i Itm.z).1.n).b/\(ci v (l.getD i Itm.z).1.n).b<=(iN l (al 97 122 (-32) (l.getD i Itm.z).1.n) i:Int) then 9 else 0
def H8 (v:Int)(l:List Itm)(i:Nat):Int:=if(iN l ((aH v).getD i []) l.length:Int)<(ci v ((aH v).getD i [])).a then 7 else 0
def Crd.E (c:Crd):Err:=if c.v=3\/c.v=4 then
  if 60<c.l.length then .errno 4
  else match tW (λi=>(c.l.getD i Itm.z).w c.v) c.l.length with
   |.none=>match tW (kn c.v c.l) c.l.length with
    |.none=>if Bk (H8 c.v c.l) (aH c.v).length=0 then .none else .errno 7
    |e=>e
   |e=>e
 else .errno 1
theorem yW:∀s:List UInt8,al 97 122 (-32) (al 97 122 (-32) s)=al 97 122 (-32) s
 |[]=>rfl
 |c::s=>by
  have ih:=yW s;have hc:UInt8.ofNat (dK 97 122 (-32) (UInt8.ofNat (dK 97 122 (-32) c.toNat).toNat).toNat).toNat=UInt8.ofNat (dK 97 122 (-32) c.toNat).toNat:=by
   have h1:=c.toNat_lt
   rw[<-UInt8.toNat_inj]
   simp only[UInt8.toNat_ofNat']
   unfold dK
   (repeat' split)<;>omega
  unfold al at ih ⊢
  simp only[List.map_cons,List.cons.injEq]
  exact⟨hc,ih⟩
theorem Qg (v:Int)(s:List UInt8):ci v (al 97 122 (-32) s)=ci v s:=by unfold ci;rw[yW]
theorem D8 {s:List UInt8}:∀l:List (List UInt8×Rl),(∀x∈l,0<=x.2.p)->0<=(fO s l).p
 |[],_=>by show(0:Int)<=0;decide
 |x::t,h=>by
  unfold fO;split
  ·exact h x (List.mem_cons_self ..)
  ·exact D8 t λy hy=>h y (List.mem_cons_of_mem _ hy)
theorem Tz (v:Int)(s:List UInt8):0<=(ci v s).p:=by
 unfold ci;split
 ·rename_i h;refine D8 _ λx hx=> ?_;have:∀w:Int,(w=3\/w=4)->(cO w).all (λx=>decide (0<=x.2.p))=true:=by
   rintro w (rfl|rfl)<;>decide
  exact of_decide_eq_true (List.all_eq_true.1 (this v h) x hx)
 ·decide
theorem MX {v:Int}{n:List UInt8}(h:n∈aH v):al 97 122 (-32) n=n/\n.length<=20:=by
 unfold aH at h;split at h
 ·rename_i hv;have:∀w:Int,(w=3\/w=4)->((cO w).map (·.1)).all (λn=>decide (al 97 122 (-32) n=n/\n.length<=20))=true:=by
   rintro w (rfl|rfl)<;>decide
  exact of_decide_eq_true (List.all_eq_true.1 (this v hv) n h)
 ·cases h
theorem zn (v:Int):(aH v).length<=100:=by
 unfold aH;split
 ·rename_i hv;have:∀w:Int,(w=3\/w=4)->((cO w).map (·.1)).length<=100:=by
   rintro w (rfl|rfl)<;>decide
  exact this v hv
 ·exact Nat.zero_le _
theorem Dq {v:Int}{i:Nat}(h:i<(aH v).length):al 97 122 (-32) ((aH v).getD i [])=(aH v).getD i []/\((aH v).getD i []).length<=20:=by
 rw[List.getD_eq_getElem?_getD,List.getElem?_eq_getElem h];exact MX (List.getElem_mem h)
def Crd.ok (c:Crd):Prop:=c.l.length<=1000000/\∀x∈c.l,Itm.OK 10000 x
theorem Crd.fine.ok {c:Crd}(h:c.fine):c.ok:=⟨by have:=h.1;omega,λx hx=>(h.2 x hx).mono (by decide)⟩
theorem Itm.fit {x:Itm}(h:x.OK 10000):x.ln.Fit:=⟨h.p.g,h.p.n,Vl.T_len (by have:=h.s;omega) h.L,h.p.ps,h.p.q⟩
theorem Itm.OK.v {x:Itm}(h:x.OK 10000):x.2.OK:=⟨by have:=h.s;omega,h.L.n,λk=>(h.L.k k).1,λk j=>by have:=(h.L.k k).2;have:=eo (l:=x.2.L.getD k []) (k:=j);omega⟩
end
section
def Js.fits (B:Nat):Nat->Js->Prop
 |0,x=>x.ks.length<=B/\x.l=[]
 |d+1,x=>x.ks.length<=B/\x.l.length<=B/\∀i,i<x.l.length->Js.fits B d (aA x.l i)
attribute [local irreducible] bN aw aa aC bg ab ae
end
section
def sJ (s:List UInt8):Js:=.mk 5 s [] []
def aJ (l:List Js):Js:=.mk 6 [] [] l
def qS:List UInt8:=[103,114,111,117,112]
def oL:Js:=aJ [sJ [118,101,114,115,105,111,110],.mk 7 [] [] [],sJ [116,101,120,116],sJ [52,46,48]]
end
section
set_option maxHeartbeats 8000000
attribute [local irreducible] bN aw aC bg ab ae
theorem D4 (n:Int):(jh n).length=4:=rfl
theorem gP (n:Int):(dc n).length=2:=rfl
theorem Hd (n:Int):(jp n).length<=100:=by
 unfold jp
 (repeat' split)<;>simp[gP]
theorem qf {t:Stm}(hf:t.frm=true){P:Prop}(h:TM (dT (aB t.y) (aB t.m) (aB t.d)) (dT (aB t.h) (aB t.i) (aB t.s))=true->(t.z=true->aB t.h=true)->P):P:=by
 unfold Stm.frm at hf;rw[Bool.and_eq_true] at hf;refine h hf.1 λhz=> ?_;have:=hf.2;rw[hz] at this;exact this
theorem VM {d t:Int}(h:TM d t=true):0<=d:=by
 unfold TM at h;exact(of_decide_eq_true h).1
theorem VL {d t:Int}(h:TM d t=true):0<=t:=by
 unfold TM at h;exact(of_decide_eq_true h).2.1
theorem Oq (t:Stm):(nS (aB t.y) (aB t.m) (aB t.d) t.y t.m t.d).length<=8:=by
 cases aB t.y<;>cases aB t.m<;>cases aB t.d<;>simp[nS,jh,dc,bL]
theorem LJ (t:Stm):(mU (aB t.h) (aB t.i) (aB t.s) t.h t.i t.s).length<=8:=by
 cases aB t.h<;>cases aB t.i<;>cases aB t.s<;>simp[mU,dc,bL]
def Stm.R (t:Stm):List AVal:=[.int .i64 t.y,.int .i64 t.m,.int .i64 t.d,.int .i64 t.h,.int .i64 t.i,.int .i64 t.s,.bool t.z,.int .i64 t.o]
attribute [local irreducible] jh dc jp
theorem xW {G:Glo}{m:Int}(hU:ab G (ct m))(t:Stm)(hf:t.frm=true)(hr:t.rng=true)(hE:t.E= .none):aj prog G 202 [t.A] (.tuple [.str t.txt,Err.none.A]):=by
 have h0:=j8 (G:=G) hU t;rw[hE] at h0
 have h1:=n5 (G:=G) t.y t.m t.d
 have h2:=n5 (G:=G) t.h t.i t.s
 have h3:=uT (G:=G) t.o
 have hc:=call229
 have k1:=λn a b=>IS (G:=G) n a b
 have k2:=λn a b=>K6 (G:=G) n a b
 have l1:=D4 t.y
 have l2:=gP t.m
 have l3:=gP t.d
 have l4:=gP t.h
 have l5:=gP t.i
 have l6:=gP t.s
 have l7:=Hd t.o
 have r:=hr
 unfold Stm.rng at r
 simp only[Bool.and_eq_true,uX] at r
 obtain⟨r1,r2,r3,r4,r5,r6, -⟩:=r
 have r3':t.d= -1\/1<=t.d/\t.d<=31:=by
  refine r3.imp_right λh=>⟨h.1,?_⟩
  have:=h.2
  unfold Stm.day ub at this
  (repeat' split at this)<;>omega
 clear r3
 have hx:t.txt=nS (aB t.y) (aB t.m) (aB t.d) t.y t.m t.d++mU (aB t.h) (aB t.i) (aB t.s) t.h t.i t.s++(if t.z then jp t.o else[]):=rfl
 have hD:=Oq t
 have hT:=LJ t
 refine qf hf λk kz=> ?_
 refine fN func202 call202 λC hC hGL=> ?_
 refine cut hC hGL [(1,.rop t.R 0)] [] True ?_ λ_=> ?_
 ·exact ba
 refine cut hC hGL [(1,.rop t.R 0)] [] True ?_ λ_=> ?_
 ·exact ba
 refine cut hC hGL [(1,.rop t.R 0),(5,.str [])] [] True ?_ λ_=> ?_
 ·exact ba
 refine cut hC hGL [(1,.rop t.R 0),(5,.str (nS (aB t.y) (aB t.m) (aB t.d) t.y t.m t.d))] [] True ?_ λ_=> ?_
 ·clear h0 h2 h3 hx hD hT kz l4 l5 l6 l7 r4 r5 r6
  cases e1:aB t.y
  all_goals cases e2:aB t.m
  all_goals cases e3:aB t.d
  all_goals rw[e1,e2,e3] at k h1
  all_goals try exact absurd (VM k) (by decide)
  all_goals clear k
  all_goals simp only[xV,U9,if_true,Bool.false_eq_true,if_false] at h1
  all_goals simp only[mT,Hm] at e1 e2 e3
  all_goals exact ba
 generalize nS (aB t.y) (aB t.m) (aB t.d) t.y t.m t.d=D at*
 clear h0 h1 l1 l2 l3 r1 r2 r3'
 refine cut hC hGL [(1,.rop t.R 0),(5,.str D),(6,.str (xV (aB t.h) (aB t.i) (aB t.s)))] [] True ?_ λ_=> ?_
 ·exact ba
 refine cut hC hGL [(1,.rop t.R 0),(5,.str D),(6,.str (xV (aB t.h) (aB t.i) (aB t.s)))] [] (xV (aB t.h) (aB t.i) (aB t.s)≠[45,45,45]) ?_ λhn=> ?_
 ·refine xw ?_
  repeat' first|exact .n|apply Lc.mk
  all_goals intros
  all_goals first
   |contradiction
   |(apply ak;refine congrArg (λl=>AVal.tuple [.str l,Err.none.A]) ?_;have hq:=(show xV (aB t.h) (aB t.i) (aB t.s)=[45,45,45] by assumption);rw[hx];revert hq kz;cases aB t.h<;>cases aB t.i<;>cases aB t.s<;>simp[xV,U9,mU]<;>(intro a b;rw[a] at b;cases b))
 refine cut hC hGL [(1,.rop t.R 0),(5,.str (D++[84])),(6,.str (xV (aB t.h) (aB t.i) (aB t.s)))] [] True ?_ λ_=> ?_
 ·exact ba
 refine cut hC hGL [(1,.rop t.R 0),(5,.str (D++[84])),(6,.str (xV (aB t.h) (aB t.i) (aB t.s))),(7,.bool false)] [] True ?_ λ_=> ?_
 ·exact ba
 refine dU hC hGL (λq:List UInt8=>[(1,.rop t.R 0),(5,.str q)]) (λ_=>[]) (λq=>q=D++mU (aB t.h) (aB t.i) (aB t.s) t.h t.i t.s) ?_ λq hq=> ?_
 ·clear hx kz hT h3
  cases e4:aB t.h
  all_goals cases e5:aB t.i
  all_goals cases e6:aB t.s
  all_goals rw[e4,e5,e6] at k hn
  all_goals try exact absurd (VL k) (by decide)
  all_goals try exact absurd rfl hn
  all_goals clear k hn
  all_goals simp only[mT,Hm] at e4 e5 e6
  all_goals simp only[xV,U9,if_true,Bool.false_eq_true,if_false]
  all_goals
   refine a6 ?_
   refine og hC hGL 4 ?_
   refine a6 ?_
   intros
   refine aP hC hGL (eB (i:=0) rfl rfl rfl rfl rfl rfl rfl (show _<3 by decide) rfl rfl) rfl rfl ?_
   refine a6 ?_
   intros
   refine aP hC hGL (eB (i:=1) rfl rfl rfl rfl rfl rfl rfl (show _<3 by decide) rfl rfl) rfl rfl ?_
   refine a6 ?_
   intros
   refine aP hC hGL (eB (i:=2) rfl rfl rfl rfl rfl rfl rfl (show _<3 by decide) rfl rfl) rfl rfl ?_
   refine a6 ?_
   intros
   refine cy _ ?_
   simp only[mU,List.append_assoc]
 subst hq
 refine dU hC hGL (λq:List UInt8=>[(1,.rop t.R 0),(5,.str q)]) (λ_=>[]) (λq=>q=t.txt) ?_ λq hq=> ?_
 ·rw[hx]
  refine xw ?_
  repeat' first|exact .n|apply Lc.mk
  all_goals intros
  all_goals first
   |(refine cy _ ?_;rw[if_pos (by assumption)])
   |(refine cy _ ?_;rw[if_neg (by rw[show t.z=false by assumption];decide),List.append_nil])
 subst hq
 exact am hC hGL ba
theorem EW {G:Glo}{m:Int}(hU:ab G (ct m))(t:Stm):aj prog G 202 [t.A] (.tuple [.str t.T,t.E.A]):=by
 cases hf:t.frm with
 |true=>
  cases hr:t.rng with
  |true=>
   have hE:t.E= .none:=by unfold Stm.E;rw[hf,hr];rfl
   rw[hE,show t.T=t.txt by unfold Stm.T;rw[hf,hr];rfl];exact xW hU t hf hr hE
  |false=>
   have h0:=j8 (G:=G) hU t;have hE:t.E= .errno 2:=by unfold Stm.E;rw[hf,hr];rfl
   rw[hE] at h0 ⊢;rw[show t.T=[] by unfold Stm.T;rw[hf,hr];rfl];refine ao func202 call202 λC hC hGL=> ?_;exact ba
 |false=>
  have h0:=j8 (G:=G) hU t;have hE:t.E= .errno 3:=by unfold Stm.E;rw[hf];rfl
  rw[hE] at h0 ⊢;rw[show t.T=[] by unfold Stm.T;rw[hf];rfl];refine ao func202 call202 λC hC hGL=> ?_;exact ba
end
section
def iY (i:Nat):List UInt8:=[[],[97],[97,98],[97,98,99],[98],[98,99],[99]].getD i []
def aU (i:Nat):List UInt8:=[[],[57,57,57,57],[57,57,57,57,45,57,57],[57,57,57,57,57,57,57,57],[45,45,57,57],[45,45,57,57,57,57],[45,45,45,57,57]].getD i []
def aT (i:Nat):List UInt8:=[[],[57,57],[57,57,57,57],[57,57,57,57,57,57],[45,57,57],[45,57,57,57,57],[45,45,57,57]].getD i []
def jE (i:Nat):AVal:=.agg [.str (iY i),.str (aU i),.str (aT i)]
def shapesTy:List (Nat×List AVal):=[(1,[.list 3 7 jE])]
set_option maxHeartbeats 8000000
attribute [local irreducible] bN aw aC bg ab ae
theorem od {G:Glo}(hGL:ab G shapesTy)(a b c:Int):aj prog G 174 [LL a b c] (.int .i64 (dT (aB a) (aB b) (aB c))):=by
 by_cases h1:a= -1;all_goals by_cases h2:b= -1
 all_goals by_cases h3:c= -1
 all_goals
  refine sF func174 call174 rfl rfl rfl rfl hGL ?_;intro C hC;refine a6 ?_;intros;refine og hC hGL 4 ?_;refine a6 ?_;intros;refine og hC hGL 8 ?_;refine xw ?_;repeat' first|exact .n|apply Lc.mk
  all_goals intros
  all_goals (apply ak;simp only[aB,h1,h2,h3,ne_eq,not_true_eq_false,not_false_eq_true,decide_true,decide_false];rfl)
end
end Go.Proofs.YtpgdnpielhfpgaaGreatDoor
