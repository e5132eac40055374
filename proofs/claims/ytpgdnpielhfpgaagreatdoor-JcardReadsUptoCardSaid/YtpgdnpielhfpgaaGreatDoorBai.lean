/- Parts of the proof of jcardReads_card. -/
import Derived.Lib.AtoiAll
import Derived.Laws.MakeOwn
import Derived.Laws.IdiomCopy
import Derived.Laws.LoneSync
import Derived.Test.YtpgdnpielhfpgaaGreatDoorBah
set_option linter.unusedVariables false
set_option linter.unusedSimpArgs false
set_option linter.unusedSectionVars false
namespace Go.Proofs.YtpgdnpielhfpgaaGreatDoor
open Go Go.RowKit
open Tryz
set_option maxRecDepth 20000
set_option maxHeartbeats 4000000
section
abbrev Sq (b:Nat)(r:Rl):HEnt:=.cells b (some 90) [.int .i64 r.t,.int .i64 r.a,.int .i64 r.b,.int .i64 r.p]
abbrev Sr (b:Nat):Value:=.pointer (some ⟨b,0,none⟩)
attribute [local irreducible] bN aw aa aC bg ab ae
attribute [local irreducible] al ku Pp cO To
theorem JB {G:Glo}{v:Int}(hv:v=3\/v=4)(s:List UInt8)(hl:s.length<=2000000):aj prog G 37 [.str s,.int .i64 v] (.tuple [(fO (al 97 122 (-32) s) (cO v)).A,.int .i64 0]):=by
 have hGL:ab G []:=aG;have hK:=zd (G:=G);generalize hup:al 97 122 (-32) s=up at*
 have hsame:∀k,k<36->aj prog G 36 [.str (ku k).n,.str s] (.bool (aS (ku k).n up)):=λk hk=>by
  have h:=gY (G:=G) (ku k).n s (by
   have:∀j,j<36->(ku j).n.length<=100:=by decide+kernel
   have:=this k hk;omega) (by omega)
  have e:aS (al 65 90 32 (ku k).n) (al 65 90 32 s)=aS (ku k).n up:=by
   rw[Bool.eq_iff_iff,bx,bx,zN (QV k),hup]
  rwa [e] at h
 refine Kg func37 call37 rfl rfl rfl rfl ?_
 intro C hC
 refine dU hC hGL (λb4:Nat=>[(0,.str s),(1,.int .i64 v),(4,.own 0 (Sr b4))]) (λb4=>[Sq b4 Rl.z]) (λ_=>True) ?_ λb4 _=> ?_
 ·refine Vi ?_
  intro b4
  intros
  exact cy b4 trivial
 refine cut hC hGL [(0,.str s),(1,.int .i64 v),(4,.own 0 (Sr b4))] [Sq b4 Rl.z] True ?_ λ_=> ?_
 ·refine xn ?_
  repeat' first|exact .n|apply Lc.mk
  all_goals intros
  all_goals first
   |exact Ct.w
   |(exfalso;omega)
 refine fY (cut hC hGL [(0,.str s),(1,.int .i64 v),(4,.own 0 (Sr b4)),(16,.list 3 36 F7),(17,.int .i64 (36:Nat)),(18,.int .i64 (0:Nat))] [Sq b4 Rl.z] True cx λ_=> ?_)
 refine lY (nX (X:=Nat) (λk=>[(0,.str s),(1,.int .i64 v),(4,.own 0 (Sr b4)),(16,.list 3 36 F7),(17,.int .i64 (36:Nat)),(18,.int .i64 (k:Nat))]) (λ_=>[Sq b4 Rl.z]) (λk=>k<=36/\∀j,j<k->((ku j).of v=none\/(ku j).n≠up)) (λk=>36-k) 0 ⟨Nat.zero_le _,λj h=>absurd h (Nat.not_lt_zero _)⟩ ad (List.Sublist.refl _) ?_)
 rintro k ⟨hk,hI⟩
 have hk:k<=36:=hk
 by_cases hlt:k<36
 ·have hs1:=hsame k hlt
  refine cut hC hGL [(0,.str s),(1,.int .i64 v),(4,.own 0 (Sr b4)),(16,.list 3 36 F7),(17,.int .i64 (36:Nat)),(18,.int .i64 (k:Nat)),(19,.bool (lx (k:Int) (36:Nat)))] [Sq b4 Rl.z] True cx λ_=> ?_
  refine cut hC hGL [(0,.str s),(1,.int .i64 v),(4,.own 0 (Sr b4)),(16,.list 3 36 F7),(17,.int .i64 (36:Nat)),(18,.int .i64 (k:Nat))] [Sq b4 Rl.z] True ?_ λ_=> ?_
  ·refine xn ?_
   repeat' first|exact .n|apply Lc.mk
   all_goals intros
   all_goals first
    |(intros;exact Ct.w)
    |(intros;exfalso;omega)
  rcases hkn:ku k with⟨n,o,w⟩
  have hkF:F7 k= .agg [.str n,JO o,JO w]:=by unfold F7;rw[hkn]
  rw[hkn] at hs1
  dsimp only at hs1
  have hnx:((ku k).of v=none\/n≠up)->∀j,j<k+1->((ku j).of v=none\/(ku j).n≠up):=λh j hj=>by
   by_cases e:j=k
   ·subst e;rw[hkn] at h ⊢;exact h
   ·exact hI j (by omega)
  rw[hkn] at hnx
  have hfound:∀r,(⟨n,o,w⟩:Kn).of v=some r->n=up->fO up (cO v)=r:=λr h1 h2=>by
   have e:=qO (i:=k) (by rw[kY];exact hlt)
   rw[hkn] at e
   unfold cO
   exact zS (k:=k) (by rw[kY];exact hlt) (λj hj hjk=>by have:=hI j hjk;rwa [qO hj] at this) (by rw[<-e];exact h1) (by rw[<-e];exact h2)
  rcases hv with rfl|rfl
  ·rcases o with _|o<;>rcases w with _|w
   all_goals
    refine am hC hGL ?_
    (conv=>whnf)
    refine Ix.w ?_
    rw[hkF]
    refine xn ?_
    repeat' first|exact .n|apply Lc.mk
    all_goals intros
    all_goals intros
    all_goals try exact⟨k+1,⟨by show k+1<=36;omega,hnx (.inl rfl)⟩,by show 36-(k+1)<36-k;omega,ad,an⟩
    all_goals try exact⟨k+1,⟨by show k+1<=36;omega,hnx (.inr (by assumption))⟩,by show 36-(k+1)<36-k;omega,ad,an⟩
   all_goals
    have hfd:=hfound o rfl (by assumption)
    refine aP hC hGL (iH (m:=3) rfl rfl rfl) rfl rfl ?_
    refine az ?_
    refine cR mixed hC hGL false (λ(_:HEnt)=>[(4,.own 0 (Sr b4)),(5,.int .i64 0)]) (λy=>[Sq b4 o,y]) .p8 (by kernel_rfl) ?_ ?_
    ·refine xn ?_
     repeat' first|exact .n|apply Lc.mk
     all_goals intros
     all_goals exact⟨_,ad,rfl⟩
    intro y
    refine az ?_
    rw[hfd]
    exact ak rfl
  ·rcases o with _|o<;>rcases w with _|w
   all_goals
    refine am hC hGL ?_
    (conv=>whnf)
    refine Ix.w ?_
    rw[hkF]
    refine xn ?_
    repeat' first|exact .n|apply Lc.mk
    all_goals intros
    all_goals intros
    all_goals try exact⟨k+1,⟨by show k+1<=36;omega,hnx (.inl rfl)⟩,by show 36-(k+1)<36-k;omega,ad,an⟩
    all_goals try exact⟨k+1,⟨by show k+1<=36;omega,hnx (.inr (by assumption))⟩,by show 36-(k+1)<36-k;omega,ad,an⟩
   all_goals
    have hfd:=hfound w rfl (by assumption)
    refine aP hC hGL (iH (m:=3) rfl rfl rfl) rfl rfl ?_
    refine az ?_
    refine cR mixed hC hGL false (λ(_:HEnt)=>[(4,.own 0 (Sr b4)),(5,.int .i64 0)]) (λy=>[Sq b4 w,y]) .p8 (by kernel_rfl) ?_ ?_
    ·refine xn ?_
     repeat' first|exact .n|apply Lc.mk
     all_goals intros
     all_goals exact⟨_,ad,rfl⟩
    intro y
    refine az ?_
    rw[hfd]
    exact ak rfl
 ·obtain rfl:k=36:=by omega
  have hno:fO up (cO v)=⟨8,0,0,0⟩:=by
   unfold cO
   exact D9 λj hj=>by have:=hI j (by rw[kY] at hj;exact hj);rwa [qO hj] at this
  refine am hC hGL (az ?_)
  intro _
  refine⟨λ_=> ?_,λh=>absurd rfl h⟩
  refine am hC hGL (az ?_)
  rw[hno]
  exact ak rfl
theorem nx {G:Glo}(v:Int)(s:List UInt8)(hl:s.length<=2000000):aj prog G 37 [.str s,.int .i64 v] (.tuple [(ci v s).A,.int .i64 (dR v).e]):=by
 by_cases hv:v=3\/v=4
 ·have e1:ci v s=fO (al 97 122 (-32) s) (cO v):=by unfold ci;rw[if_pos hv]
  have e2:dR v= .none:=by unfold dR;rw[if_pos hv]
  rw[e1,e2];exact JB hv s hl
 ·have e1:ci v s=Rl.z:=by unfold ci;rw[if_neg hv]
  have e2:dR v= .errno 1:=by unfold dR;rw[if_neg hv]
  rw[e1,e2];refine ao func37 call37 λC hC hGL=> ?_;refine xb ?_;repeat' first|exact .n|apply Lc.mk
  all_goals intros
  all_goals intros
  all_goals first
   |(exfalso;omega)
   |(apply ak;rfl)
def tR (v:Int)(k:Nat):List (List UInt8):=(Pp.take k).filterMap λk=>(k.of v).map λ_=>k.n
theorem MW {v:Int}{k:Nat}(h:k<36):tR v (k+1)=tR v k++(((ku k).of v).map λ_=>(ku k).n).toList:=by
 unfold tR;rw[List.take_add_one,List.filterMap_append,qO (by rw[kY];exact h),List.getElem?_eq_getElem (by rw[kY];exact h)];refine congrArg _ ?_;simp only[Option.toList_some,List.filterMap_cons,List.filterMap_nil];cases hx:(Pp[k]'(by rw[kY];exact h)).of v<;>simp
theorem QC (v:Int)(k:Nat):(tR v k).length<=36:=by
 unfold tR;refine Nat.le_trans (List.length_filterMap_le _ _) ?_;rw[List.length_take,kY];omega
theorem QD {v:Int}(hv:v=3\/v=4):tR v 36=aH v:=by
 have e:∀l:List Kn,(l.filterMap λk=>(k.of v).map λ_=>k.n)=(l.filterMap λk=>(k.of v).map λr=>(k.n,r)).map (·.1):=λl=>by
  induction l with
  |nil=>rfl
  |cons x t ih=>cases hx:x.of v<;>simp[List.filterMap_cons,hx,ih]
 unfold tR aH cO;rw[if_pos hv,List.take_of_length_le (by rw[kY];omega),e]
attribute [local irreducible] tR
theorem FK {G:Glo}{v:Int}(hv:v=3\/v=4):ae prog G 39 [.int .i64 v] [] (λr H=>∃va,r= .ret (.tuple [.own 0 va,.int .i64 0])/\H=[.row va none 1 (aH v).length (bc (aH v))]):=by
  have hGL:ab G []:=aG;have hK:=zd (G:=G);refine Kg func39 call39 rfl rfl rfl rfl ?_;intro C hC;refine cut hC hGL [(0,.int .i64 v)] [] True cx λ_=> ?_;refine cut hC hGL [(0,.int .i64 v)] [] True ?_ λ_=> ?_
  · refine xn ?_;repeat' first|exact .n|apply Lc.mk
    all_goals intros
    all_goals first
      |exact Ct.w
      |(exfalso;omega)
  refine cut hC hGL [(0,.int .i64 v),(4,.raw (.slice none 0 0))] [] True cx λ_=> ?_;refine fY (cut hC hGL [(0,.int .i64 v),(4,.raw (.slice none 0 0)),(13,.list 3 36 F7),(14,.int .i64 (36:Nat)),(15,.int .i64 (0:Nat))] [] True cx λ_=> ?_);refine UR (aE (gQ 1) (S2 (k:=4) (i:=0) rfl rfl)) ?_;have e0:tR v 0=[]:=by unfold tR;rfl
  refine lY (nX (X:=Nat×Value) (λx=>[(0,.int .i64 v),(4,.own 0 x.2),(13,.list 3 36 F7),(14,.int .i64 (36:Nat)),(15,.int .i64 (x.1:Nat))]) (λx=>[.row x.2 none 1 (tR v x.1).length (bc (tR v x.1))]) (λx=>x.1<=36) (λx=>36-x.1) (0,.slice none 0 0) (Nat.zero_le _) ad (by rw[e0];exact List.Sublist.refl _) ?_);rintro⟨k,y⟩ hk;have hk:k<=36:=hk;dsimp only
  by_cases hlt:k<36
  · have hln:=QC v k;have hsc:=MW (v:=v) hlt;rcases hkn:ku k with⟨n,o,w⟩
    have hkF:F7 k= .agg [.str n,JO o,JO w]:=by unfold F7;rw[hkn]
    rw[hkn] at hsc;refine cut hC hGL [(0,.int .i64 v),(4,.own 0 y),(13,.list 3 36 F7),(14,.int .i64 (36:Nat)),(15,.int .i64 (k:Nat)),(16,.bool (lx (k:Int) (36:Nat)))] [.row y none 1 (tR v k).length (bc (tR v k))] True cx λ_=> ?_;refine cut hC hGL [(0,.int .i64 v),(4,.own 0 y),(13,.list 3 36 F7),(14,.int .i64 (36:Nat)),(15,.int .i64 (k:Nat))] [.row y none 1 (tR v k).length (bc (tR v k))] True ?_ λ_=> ?_
    · refine xn ?_;repeat' first|exact .n|apply Lc.mk
      all_goals intros
      all_goals first
        |(intros;exact Ct.w)
        |(intros;exfalso;omega)
    generalize hnm:tR v k=nm at*
    rcases hv with rfl|rfl
    · rcases o with _|o<;>rcases w with _|w
      all_goals
        simp only[Kn.of,if_true,if_false,Int.reduceEq,Option.map_none,Option.map_some,Option.toList_none,Option.toList_some,List.append_nil,reduceIte] at hsc;refine am hC hGL ?_
        (conv=>whnf)
        refine Ix.w ?_;rw[hkF];refine az ?_;intros;first
          |exact⟨(k+1,y),by show k+1<=36;omega,by show 36-(k+1)<36-k;omega,ad,by show List.Sublist [HEnt.row y none 1 (tR 3 (k+1)).length (bc (tR 3 (k+1)))] _;rw[hsc];exact an⟩
          | (refine aP hC hGL (iH (m:=3) rfl rfl rfl) rfl rfl ?_
             refine az ?_
             intro wa wk wc _
             exact⟨(k+1,.slice wa wk wc),by show k+1<=36;omega,by show 36-(k+1)<36-k;omega,ad,by show List.Sublist [HEnt.row (.slice wa wk wc) none 1 (tR 3 (k+1)).length (bc (tR 3 (k+1)))] _;rw[hsc,<-bJ,List.length_append];exact an⟩)
    · rcases o with _|o<;>rcases w with _|w
      all_goals
        simp only[Kn.of,if_true,if_false,Int.reduceEq,Option.map_none,Option.map_some,Option.toList_none,Option.toList_some,List.append_nil,reduceIte] at hsc;refine am hC hGL ?_
        (conv=>whnf)
        refine Ix.w ?_;rw[hkF];refine az ?_;intros;first
          |exact⟨(k+1,y),by show k+1<=36;omega,by show 36-(k+1)<36-k;omega,ad,by show List.Sublist [HEnt.row y none 1 (tR 4 (k+1)).length (bc (tR 4 (k+1)))] _;rw[hsc];exact an⟩
          | (refine aP hC hGL (iH (m:=3) rfl rfl rfl) rfl rfl ?_
             refine az ?_
             intro wa wk wc _
             exact⟨(k+1,.slice wa wk wc),by show k+1<=36;omega,by show 36-(k+1)<36-k;omega,ad,by show List.Sublist [HEnt.row (.slice wa wk wc) none 1 (tR 4 (k+1)).length (bc (tR 4 (k+1)))] _;rw[hsc,<-bJ,List.length_append];exact an⟩)
  · obtain rfl:k=36:=by omega
    refine am hC hGL (az ?_);intro _;refine⟨λ_=> ?_,λh=>absurd rfl h⟩;refine am hC hGL (az ?_);rw[QD hv];exact⟨_,List.Sublist.refl _,y,rfl,rfl⟩
theorem yj {G:Glo}(v:Int):aj prog G 39 [.int .i64 v] (.tuple [.list 1 (aH v).length (ay (aH v)),.int .i64 (dR v).e]):=by
 by_cases hv:v=3\/v=4
 ·have e2:dR v= .none:=by unfold dR;rw[if_pos hv]
  rw[e2];exact jP (λa=>.tuple [a,.int .i64 0]) (we _) (ay (aH v)) (eq _) (cs:=bc (aH v)) (eT:=none) ((FK hv).mono λr H ⟨va,h1,h2⟩=>⟨_,va,h1,h2⟩)
 ·have e1:aH v=[]:=by unfold aH;rw[if_neg hv]
  have e2:dR v= .errno 1:=by unfold dR;rw[if_neg hv]
  rw[e1,e2];refine dC (H:=[]) (Qf:=λr H=>r= .ret (.tuple [.raw (.slice none 0 0),.int .i64 1])/\H=[]) ?_ (λr H h=>by
   obtain⟨rfl,rfl⟩:=h;rintro C R w e hm ⟨x,rfl,hx⟩;exact⟨R,hm,x,rfl,jX (Seal.le_refl R) hx λu hu=>by
    obtain rfl:=ar.1 (show bE R (.raw (.slice none 0 0)) u from hu);exact⟨⟨none,0,rfl,Nat.le_refl _,.inl rfl⟩,rfl⟩⟩)
  refine ao func39 call39 λC hC hGL=> ?_;refine xw ?_;repeat' first|exact .n|apply Lc.mk
  all_goals intros
  all_goals first
   |(exfalso;omega)
   |(apply ak;rfl)
end
section
section
variable {P:Program} [Tab P] {C:Ctx} {n:Nat} {H:Heap} {env:Env} {x y:Operand} {T:TypeId} {xT:TI} {e:TypeId} {xe:TI}
theorem eB {len i:Nat}{k0:IntKind}{cs:List AVal}{av:AVal}(hx:ai env x=some (.agg cs))(hy:ai env y=some (.int k0 (i:Int)))(h1:bC P T=some xT)(h2:xT.desc= .array len e)(h3:bC P e=some xe)(h4:xe.size=1)(h5:cv xe.desc=false)(hi:i<len)(hc:cs[i]? =some av)(ha:av.isAgg=false):
  bD P C H env (.index T x y) av:=by
 intro R ρ w hm hf dst t p af g;have hr:=hf _ _ hx;obtain⟨vs,hvs⟩:∃vs,ρ x= .agg vs:=by
  have:=hr.2;cases hv:ρ x<;>rw[hv] at this<;>simp[AVal.isAgg,cU] at this
  exact⟨_,rfl⟩
 rw[hvs] at hr;obtain⟨v,hv,hrv⟩:=eD (R:=R) (cs:=cs) (vs:=vs.toList) hr.1 hc;refine⟨v,?_,cG hrv ha⟩;have hv':vs[i]? =some v:=by simpa using hv
 have hn:(0:Int)<=i/\(i:Int)<len:=⟨by omega,by omega⟩;have hil:i<vs.size:=by
  rcases Nat.lt_or_ge i vs.size with h|h
  ·exact h
  ·rw[Array.getElem?_eq_none h] at hv';cases hv'
 simp only[execOp,hvs,aq.1 (hf _ _ hy),Instr.index,asIntOf,Sem.run_bind,Sem.run_pure,Result.andThen_ok,ap h1,h2,hn,part,Int.toNat_natCast];simp[aR h3,dE h3,h5,h4,hv']
end
end
section
def valN:List UInt8:=[86,65,76,85,69]
def dI (s:List UInt8):List Pr->Nat->Int
 |[],_=> -1
 |q::l,i=>if al 97 122 (-32) q.n=al 97 122 (-32) s then(i:Int) else dI s l (i+1)
def Vs (t:Int)(x:List UInt8):Int:=if x=[116,101,120,116] then(if t=2\/t=3 then t else 1)
 else if x=[117,114,105] then 4
 else if x=[100,97,116,101,45,97,110,100,45,111,114,45,116,105,109,101] then 5
 else if x=[100,97,116,101] then 5
 else if x=[100,97,116,101,45,116,105,109,101] then 5
 else if x=[116,105,109,101,115,116,97,109,112] then 5
 else if x=[117,116,99,45,111,102,102,115,101,116] then 6
 else if x=[108,97,110,103,117,97,103,101,45,116,97,103] then 7
 else 8
def p8 (t:Int)(l:List Pr):Int:=if dI valN l 0<0\/(l.getD (dI valN l 0).toNat Pr.z).vs.length=0 then t else Vs t (al 65 90 32 ((l.getD (dI valN l 0).toNat Pr.z).vs.getD 0 []))
def j9 (v:Int)(s:List UInt8)(l:List Pr):Int:=if v=3\/v=4 then p8 (ci v s).t l else 0
def iC (k:Int):List UInt8:=if k<1\/9<=k then[] else if k=4 then[117,114,105] else if k=5 then[100,97,116,101,45,97,110,100,45,111,114,45,116,105,109,101] else if k=6 then[117,116,99,45,111,102,102,115,101,116] else if k=7 then[108,97,110,103,117,97,103,101,45,116,97,103] else if k=8 then[117,110,107,110,111,119,110] else[116,101,120,116]
theorem nM {s:List UInt8}:∀{l:List Pr} {k:Nat} (i:Nat),k<l.length->(∀j,j<k->al 97 122 (-32) (l.getD j Pr.z).n≠al 97 122 (-32) s)->al 97 122 (-32) (l.getD k Pr.z).n=al 97 122 (-32) s->dI s l i=((i+k:Nat):Int)
 |[],k,i,h,_,_=>absurd h (Nat.not_lt_zero _)
 |q::l,0,i,_,_,h=>by
  have h:al 97 122 (-32) q.n=al 97 122 (-32) s:=h;simp only[dI,if_pos h,Nat.add_zero]
 |q::l,k+1,i,hk,h0,h=>by
  have h1:al 97 122 (-32) q.n≠al 97 122 (-32) s:=h0 0 (Nat.succ_pos k);have ih:=nM (s:=s) (l:=l) (k:=k) (i+1) (by simpa using hk) (λj hj=>by simpa using h0 (j+1) (by omega)) (by simpa using h);simp only[dI,if_neg h1,ih];omega
theorem wZ {s:List UInt8}:∀{l:List Pr} (i:Nat),(∀j,j<l.length->al 97 122 (-32) (l.getD j Pr.z).n≠al 97 122 (-32) s)->dI s l i= -1
 |[],_,_=>rfl
 |q::l,i,h0=>by
  have h1:al 97 122 (-32) q.n≠al 97 122 (-32) s:=h0 0 (by simp);have ih:=wZ (s:=s) (l:=l) (i+1) (λj hj=>by simpa using h0 (j+1) (by simpa using hj));simp only[dI,if_neg h1,ih]
theorem nL (s:List UInt8):∀(l:List Pr) (i:Nat),dI s l i= -1\/∃k,k<l.length/\dI s l i=((i+k:Nat):Int)
 |[],_=>.inl rfl
 |q::l,i=>by
  by_cases h:al 97 122 (-32) q.n=al 97 122 (-32) s
  ·exact .inr ⟨0,by simp,by simp only[dI,if_pos h,Nat.add_zero]⟩
  ·rcases nL s l (i+1) with h1|⟨k,h1,h2⟩
   ·exact .inl (by simp only[dI,if_neg h,h1])
   ·exact .inr ⟨k+1,by simpa using h1,by simp only[dI,if_neg h,h2];omega⟩
theorem NZ {c d:UInt8}:UInt8.ofNat (dK 65 90 32 c.toNat).toNat=UInt8.ofNat (dK 65 90 32 d.toNat).toNat↔UInt8.ofNat (dK 97 122 (-32) c.toNat).toNat=UInt8.ofNat (dK 97 122 (-32) d.toNat).toNat:=by
 have h1:=c.toNat_lt
 have h2:=d.toNat_lt;rw[<-UInt8.toNat_inj,<-UInt8.toNat_inj,UInt8.toNat_ofNat',UInt8.toNat_ofNat',UInt8.toNat_ofNat',UInt8.toNat_ofNat'];unfold dK
 (repeat' split)<;>omega
theorem D5:∀{n s:List UInt8},(al 65 90 32 n=al 65 90 32 s↔al 97 122 (-32) n=al 97 122 (-32) s)
 |[],[]=>by simp[al]
 |[],d::s=>by simp[al]
 |c::n,[]=>by simp[al]
 |c::n,d::s=>by
  have ih:=D5 (n:=n) (s:=s);have hb:=NZ (c:=c) (d:=d);unfold al at ih ⊢;simp only[List.map_cons,List.cons.injEq];rw[ih,hb]
theorem jj (n s:List UInt8):aS (al 65 90 32 n) (al 65 90 32 s)=aS (al 97 122 (-32) n) (al 97 122 (-32) s):=by
 rw[Bool.eq_iff_iff,bx,bx];exact D5
attribute [local irreducible] bN aw aa aC bg ab ae
attribute [local irreducible] al dI Vs
theorem vJ {G:Glo}(l:List Pr)(s:List UInt8)(hl:l.length<=9223372036854775807)(hn:∀k,(l.getD k Pr.z).n.length<=9223372036854775807)(hs:s.length<=2000000):aj prog G 92 [.list 2 l.length (fH l),.str s] (.int .i64 (dI s l 0)):=by
 have h1:=λk=>sm (G:=G) (l.getD k Pr.z).n s (by have:=hn k;omega) (by omega);refine ao func92 call92 λC hC hGL=> ?_;refine a6 ?_;intros;refine lp hC hGL (λ(k:Nat)=>[(1,.str s),(7,.list 2 l.length (fH l)),(8,.int .i64 (l.length:Nat)),(9,.int .i64 (k:Nat))]) (λ_=>[]) (λk=>k<=l.length/\∀j,j<k->al 97 122 (-32) (l.getD j Pr.z).n≠al 97 122 (-32) s) (λk=>l.length-k) 0 ⟨Nat.zero_le _,λj h=>absurd h (Nat.not_lt_zero _)⟩ ad rfl ?_;rintro k ⟨hk,hI⟩;have h2:=h1 k;refine xw ?_;repeat' first|exact .n|apply Lc.mk
 all_goals intros
 all_goals intros
 ·apply ak;rw[nM 0 (by omega) hI (by assumption),Nat.zero_add]
 ·exact cJ (k+1) ⟨by omega,aV hI (by assumption)⟩ (by omega) ad an
 ·apply ak;rw[wZ 0 λj hj=>hI j (by omega)];rfl
theorem Mt {G:Glo}(l:List Pr)(s:List UInt8)(hl:l.length<=9223372036854775807)(hn:∀k,(l.getD k Pr.z).n.length<=9223372036854775807)(hs:s.length<=2000000):aj prog G 122 [.list 2 l.length (fH l),.str s] (.int .i64 (dI s l 0)):=by
 have h1:=λk=>gY (G:=G) (l.getD k Pr.z).n s (by have:=hn k;omega) (by omega);refine ao func122 call122 λC hC hGL=> ?_;refine a6 ?_;intros;refine lp hC hGL (λ(k:Nat)=>[(0,.list 2 l.length (fH l)),(1,.str s),(7,.int .i64 (l.length:Nat)),(8,.int .i64 (k:Nat))]) (λ_=>[]) (λk=>k<=l.length/\∀j,j<k->al 97 122 (-32) (l.getD j Pr.z).n≠al 97 122 (-32) s) (λk=>l.length-k) 0 ⟨Nat.zero_le _,λj h=>absurd h (Nat.not_lt_zero _)⟩ ad rfl ?_;rintro k ⟨hk,hI⟩;have h2:=h1 k;rw[jj] at h2;refine xw ?_;repeat' first|exact .n|apply Lc.mk
 all_goals intros
 all_goals intros
 ·apply ak;rw[nM 0 (by omega) hI (by assumption),Nat.zero_add]
 ·exact cJ (k+1) ⟨by omega,aV hI (by assumption)⟩ (by omega) ad an
 ·apply ak;rw[wZ 0 λj hj=>hI j (by omega)];rfl
theorem Fz {G:Glo}(k:Int):aj prog G 46 [.int .i64 k] (.str (iC k)):=by
 by_cases hk:k<1\/9<=k
 ·have e:iC k=[]:=by unfold iC;rw[if_pos hk]
  rw[e];refine ao func46 call46 λC hC hGL=> ?_;refine xw ?_;repeat' first|exact .n|apply Lc.mk
  all_goals intros
  all_goals first
   |(apply ak;rfl)
   |(exfalso;omega)
 ·rcases(show k=1\/k=2\/k=3\/k=4\/k=5\/k=6\/k=7\/k=8 by omega) with rfl|rfl|rfl|rfl|rfl|rfl|rfl|rfl
  ·refine ao func46 call46 λC hC hGL=> ?_;refine a6 ?_;intros;refine aP hC hGL (eB (len:=9) (i:=1) rfl rfl rfl rfl rfl rfl rfl (Nat.le_of_ble_eq_true rfl) rfl rfl) rfl rfl ?_;exact ba
  ·refine ao func46 call46 λC hC hGL=> ?_;refine a6 ?_;intros;refine aP hC hGL (eB (len:=9) (i:=2) rfl rfl rfl rfl rfl rfl rfl (Nat.le_of_ble_eq_true rfl) rfl rfl) rfl rfl ?_;exact ba
  ·refine ao func46 call46 λC hC hGL=> ?_;refine a6 ?_;intros;refine aP hC hGL (eB (len:=9) (i:=3) rfl rfl rfl rfl rfl rfl rfl (Nat.le_of_ble_eq_true rfl) rfl rfl) rfl rfl ?_;exact ba
  ·refine ao func46 call46 λC hC hGL=> ?_;refine a6 ?_;intros;refine aP hC hGL (eB (len:=9) (i:=4) rfl rfl rfl rfl rfl rfl rfl (Nat.le_of_ble_eq_true rfl) rfl rfl) rfl rfl ?_;exact ba
  ·refine ao func46 call46 λC hC hGL=> ?_;refine a6 ?_;intros;refine aP hC hGL (eB (len:=9) (i:=5) rfl rfl rfl rfl rfl rfl rfl (Nat.le_of_ble_eq_true rfl) rfl rfl) rfl rfl ?_;exact ba
  ·refine ao func46 call46 λC hC hGL=> ?_;refine a6 ?_;intros;refine aP hC hGL (eB (len:=9) (i:=6) rfl rfl rfl rfl rfl rfl rfl (Nat.le_of_ble_eq_true rfl) rfl rfl) rfl rfl ?_;exact ba
  ·refine ao func46 call46 λC hC hGL=> ?_;refine a6 ?_;intros;refine aP hC hGL (eB (len:=9) (i:=7) rfl rfl rfl rfl rfl rfl rfl (Nat.le_of_ble_eq_true rfl) rfl rfl) rfl rfl ?_;exact ba
  ·refine ao func46 call46 λC hC hGL=> ?_;refine a6 ?_;intros;refine aP hC hGL (eB (len:=9) (i:=8) rfl rfl rfl rfl rfl rfl rfl (Nat.le_of_ble_eq_true rfl) rfl rfl) rfl rfl ?_;exact ba
end
section
def gi (m:Nat)(s:List UInt8):Bool:=(List.range m).any λi=>decide (Lib.decDigits (i+1)=s)
theorem GP {m:Nat}{s:List UInt8}:gi m s=true↔∃n,1<=n/\n<=m/\Lib.decDigits n=s:=by
 unfold gi;rw[List.any_eq_true];constructor
 ·rintro⟨i,hi,h⟩;exact⟨i+1,by omega,by have:=List.mem_range.1 hi;omega,of_decide_eq_true h⟩
 ·rintro⟨n,h1,h2,h3⟩;exact⟨n-1,List.mem_range.2 (by omega),decide_eq_true (by rw[show n-1+1=n by omega];exact h3)⟩
theorem xy {m:Nat}{s:List UInt8}:gi m s=false↔∀n,1<=n->n<=m->Lib.decDigits n≠s:=by
 rw[<-Bool.not_eq_true,GP];exact⟨λh n h1 h2 h3=>h ⟨n,h1,h2,h3⟩,λh ⟨n,h1,h2,h3⟩=>h n h1 h2 h3⟩
def nA (v:List UInt8):Bool:=gi 999 (Lib.cut v [46]).1&&(!(Lib.cut v [46]).2.2||gi 999 (Lib.cut v [46]).2.1)
def tZ (n:List UInt8)(vs:List (List UInt8)):Bool:=
 if n=[86,65,76,85,69]\/n=[65,76,84,73,68]\/n=[77,69,68,73,65,84,89,80,69]\/n=[69,78,67,79,68,73,78,71] then decide (vs.length=1)
 else if n=[76,65,78,71,85,65,71,69] then decide (vs.length=1)&&(dF (vs.getD 0 [])).isNone
 else if n=[80,82,69,70] then decide (vs.length=1)&&gi 100 (vs.getD 0 [])
 else if n=[84,89,80,69] then vs.all isS&&decide (0<vs.length)
 else if n=[80,73,68] then vs.all nA&&decide (0<vs.length)
 else decide (0<vs.length)
def Pr.fit (q:Pr):Bool:=tZ (al 97 122 (-32) q.n) q.vs
def WE (s:List UInt8)(a:AVal):Prop:=(∃n,a= .tuple [.int .i64 n,.raw .nilIface]/\Lib.atoiAll s= .ok n)\/(∃n t v,a= .tuple [.int .i64 n,.iface t (.raw v)]/\∀k,Lib.atoiAll s≠ .ok k)
def Aj (g:Nat)(R:Seal):Prop:=∃t v e fz,R g=some (.cells #[.iface t v] e fz)
def rJ (G:Glo):Prop:=∀R,G.p R->Aj 8 R/\Aj 9 R
theorem Bm {P:Program}{G:Glo}{f:FuncId}{avs:List AVal}{Qf:AVal->Prop}(hc:∀args w,(callFunc f args).run P w= .ok (.enter f args) w)
  (h:∀R args,dv R avs args.toList->∀w,G.p R->ei R w->Calls P f args w λe w'=>(∃u a,e= .returned u/\Qf a/\∀R,bE R a u)/\Below w.heap.size w w'):ae P G f avs [] (λr H=>(∃v,r= .ret v/\Qf v)/\H=[]):=by
 intro R w args hG hm ha;refine .inl ⟨hc args w,(h R args ha w hG hm.sealed).mono ?_⟩;rintro e w' ⟨⟨u,a,rfl,hq,hr⟩,hb⟩;refine⟨.ret a,[],R,⟨⟨a,rfl,hq⟩,rfl⟩,⟨_,rfl,hr R⟩,?_⟩;refine⟨?_,Seal.le_refl R,λ_ hb=>.inl hb,⟨λ_ h=>absurd h List.not_mem_nil,List.nodup_nil,λ_ h=>absurd h List.not_mem_nil⟩,λ_ h=>absurd h List.not_mem_nil,
  ⟨hb.os,hb.tape,hb.output,hb.size,λb hlt _=>hb.block b hlt⟩⟩
 intro b o ho;have h1:=hm.sealed b o ho;have hlt:b<w.heap.size:=(Array.getElem?_eq_some_iff.1 h1).1;rw[hb.block b hlt,h1]
theorem Ed {g:Nat}{R:Seal}{w:World}(h:Aj g R)(hs:ei R w):∃t v,w.cell? ⟨g,0,none⟩=some (.iface t v):=by
 obtain⟨t,v,e,fz,h⟩:=h;refine⟨t,v,?_⟩;unfold World.cell?;simp[hs _ _ h]
theorem Ap {G:Glo}(hE:rJ G)(s:List UInt8)(hl:s.length<=1000000):ae prog G 81 [.str s] [] (λr H=>(∃v,r= .ret v/\WE s v)/\H=[]):=by
 refine Bm call81 ?_;intro R args hr w hG hs;obtain⟨x,t,e',hx,rfl⟩:=hr;obtain rfl:=aI.1 hx;obtain rfl:=fb e';have hsz:(⟨s.toArray⟩:ByteArray).size<=1000000:=by rw[bG];exact hl
 obtain⟨⟨t1,v1,c1⟩,t2,v2,c2⟩:(∃t v,w.cell? ⟨8,0,none⟩=some (.iface t v))/\∃t v,w.cell? ⟨9,0,none⟩=some (.iface t v):=⟨Ed (hE R hG).1 hs,Ed (hE R hG).2 hs⟩;cases ha:Lib.atoiAll s
 ·rename_i n;refine(strconv_Atoi_ok ⟨s.toArray⟩ (by omega) n (by simpa using ha) w).mono ?_;rintro e w' ⟨rfl,hw⟩;refine⟨⟨_,_,rfl,.inl ⟨n,rfl,ha⟩,λR=>lI (aq.2 rfl) (ar.2 rfl)⟩,?_⟩;rcases hw with rfl|⟨t,rfl⟩
  ·exact Below.refl _ _
  ·exact⟨rfl,rfl,rfl,by rw[Lib.bytesWorld_size];omega,λk hk=>Lib.bytesWorld_at_old _ _ _ _ hk⟩
 ·refine(strconv_Atoi_syntax ⟨s.toArray⟩ (by omega) (by simpa using ha) _ w c1 (.inr ⟨_,_,rfl⟩)).mono ?_;rintro e w' ⟨N,rfl,_,_,hb⟩;exact⟨⟨_,_,rfl,.inr ⟨0,_,_,rfl,λk h=>by rw[ha] at h;cases h⟩,λR=>lI (aq.2 rfl) ⟨⟨_,rfl,rfl,rfl⟩,rfl⟩⟩,hb⟩
 ·refine(strconv_Atoi_range ⟨s.toArray⟩ (by omega) (by simpa using ha) _ w c2 (.inr ⟨_,_,rfl⟩)).mono ?_;rintro e w' ⟨N,rfl,_,_,hb⟩;exact⟨⟨_,_,rfl,.inr ⟨_,_,_,rfl,λk h=>by rw[ha] at h;cases h⟩,λR=>lI (aq.2 rfl) ⟨⟨_,rfl,rfl,rfl⟩,rfl⟩⟩,hb⟩
theorem xI:∀k:Fin 1000,Lib.atoiAll (Lib.decDigits k.val)= .ok (k.val:Int):=by decide+kernel
attribute [local irreducible] bN aw aa aC bg ab ae
theorem mr {G:Glo}(hE:rJ G)(hP:fW G)(s:List UInt8)(m:Nat)(hl:s.length<=1000000)(hm:m<=999):aj prog G 148 [.str s,.int .i64 (m:Int)] (.bool (gi m s)):=by
 have hA:=Ap hE s hl;have hI:=λn h=>strconv_Itoa (G:=G) hP n h;refine ao func148 call148 λC hC hGL=> ?_;refine a6 ?_;intros;refine Bv hA ?_;rintro a (⟨n,rfl,h⟩|⟨n,t,v,rfl,h⟩)
 ·by_cases hn:1<=n/\n<=m
  ·obtain⟨k,rfl⟩:∃k:Nat,n=k:=⟨n.toNat,by omega⟩;have hI:=hI k (by omega);have e:aS (Lib.decDigits k) s=gi m s:=by
    cases hc:gi m s with
    |true=>
     obtain⟨j,h1,h2,h3⟩:=GP.1 hc;have:=xI ⟨j,by omega⟩;rw[h3,h] at this;have e:(k:Int)=j:=by simpa using this
     rw[Int.ofNat.inj e,h3];exact bx.2 rfl
    |false=>exact du.2 (xy.1 hc k (by omega) (by omega))
   rw[<-e]
   exact ba
  ·have e:gi m s=false:=by
    refine xy.2 λj h1 h2 h3=>hn ?_
    have:=xI ⟨j,by omega⟩
    rw[h3,h] at this
    have e:n=j:=by simpa using this
    omega
   rw[e]
   exact ba
 ·have e:gi m s=false:=by
   refine xy.2 λj h1 h2 h3=>h (j:Int) ?_
   have:=xI ⟨j,by omega⟩
   rwa [h3] at this
  rw[e]
  exact ba
end
section
abbrev prA (q:Pr):AVal:=.agg [.str q.n,.list 1 q.vs.length (ay q.vs)]
abbrev MY:List UInt8:=[86,65,76,85,69]
abbrev M1:List UInt8:=[65,76,84,73,68]
abbrev MZ:List UInt8:=[77,69,68,73,65,84,89,80,69]
abbrev M0:List UInt8:=[69,78,67,79,68,73,78,71]
abbrev yr:List UInt8:=[76,65,78,71,85,65,71,69]
abbrev nPRE:List UInt8:=[80,82,69,70]
abbrev nTYP:List UInt8:=[84,89,80,69]
abbrev yq:List UInt8:=[80,73,68]
inductive NmC (n:List UInt8):Prop
 |one (h:n=MY\/n=M1\/n=MZ\/n=M0)
 |lan (h:n=yr)
 |pre (h:n=nPRE)
 |typ (h:n=nTYP)
 |pid (h:n=yq)
 |els (h1:n≠MY) (h2:n≠M1) (h3:n≠MZ) (h4:n≠M0) (h5:n≠yr) (h6:n≠nPRE) (h7:n≠nTYP) (h8:n≠yq)
theorem WZ (n:List UInt8):NmC n:=by
 by_cases h:n=MY\/n=M1\/n=MZ\/n=M0
 ·exact .one h
 simp only[not_or] at h;obtain⟨h1,h2,h3,h4⟩:=h;by_cases h5:n=yr
 ·exact .lan h5
 by_cases h6:n=nPRE
 ·exact .pre h6
 by_cases h7:n=nTYP
 ·exact .typ h7
 by_cases h8:n=yq
 ·exact .pid h8
 exact .els h1 h2 h3 h4 h5 h6 h7 h8
theorem xM {p:List UInt8->Bool}{l:List (List UInt8)}(h:∀k,k<l.length->p (l.getD k [])=true):l.all p=true:=by
 rw[List.all_eq_true];intro x hx;obtain⟨i,hi,rfl⟩:=List.getElem_of_mem hx;have:=h i hi;rwa [List.getD_eq_getElem?_getD,List.getElem?_eq_getElem hi] at this
theorem uO {p:List UInt8->Bool}{l:List (List UInt8)}{k:Nat}(hk:k<l.length)(h:p (l.getD k [])=false):l.all p=false:=by
 rw[List.all_eq_false];refine⟨l[k],List.getElem_mem hk,?_⟩;rw[List.getD_eq_getElem?_getD,List.getElem?_eq_getElem hk] at h;simpa using h
theorem Oy (s:List UInt8)(c:UInt8):(Lib.cut s [c]).1.length<=s.length/\(Lib.cut s [c]).2.1.length<=s.length:=by
 unfold Lib.cut;split
 ·exact⟨List.length_take_le' ..,by dsimp only;rw[List.length_drop];omega⟩
 ·exact⟨Nat.le_refl _,Nat.zero_le _⟩
attribute [local irreducible] bN aw aa aC bg ab ae
attribute [local irreducible] gi dF isS nA Lib.cut
theorem FA {G:Glo}{m:Int}(hE:rJ G)(hP:fW G)(hM:ab G (ct m))(q:Pr)(h0:q.n.length<=2000000)(h1:q.vs.length<=1000000)(h2:∀k,(q.vs.getD k []).length<=90000):aj prog G 91 [prA q] (.bool q.fit):=by
 have hU:=fK (G:=G) q.n (by omega);unfold Pr.fit;obtain⟨nm,vs⟩:=q;dsimp only at h0 h1 h2 hU ⊢;generalize al 97 122 (-32) nm=n at*
 cases WZ n with
 |one h=>
  have e:tZ n vs=cm (vs.length:Int) 1:=by
   unfold tZ;rw[if_pos h];unfold cm;exact decide_eq_decide.2 (by omega)
  rw[e];rcases h with rfl|rfl|rfl|rfl
  all_goals
   refine ao func91 call91 λC hC hGL=> ?_;exact ba
 |lan h=>
  subst h;have hR:=pQ (G:=G) (vs.getD 0 []) (by have:=h2 0;omega);have e:tZ yr vs=(decide (vs.length=1)&&(dF (vs.getD 0 [])).isNone):=rfl;rw[e];by_cases hv:vs.length=1
  ·rw[decide_eq_true hv];rcases hx:dF (vs.getD 0 []) with _|e|⟨e,p⟩
   all_goals
    rw[hx] at hR;refine ao func91 call91 λC hC hGL=> ?_;exact ba
  ·rw[decide_eq_false hv];refine ao func91 call91 λC hC hGL=> ?_;exact ba
 |pre h=>
  subst h;have hR:=mr hE hP (vs.getD 0 []) 100 (by have:=h2 0;omega) (by decide);have e:tZ nPRE vs=(decide (vs.length=1)&&gi 100 (vs.getD 0 [])):=rfl;rw[e];by_cases hv:vs.length=1
  ·rw[decide_eq_true hv];refine ao func91 call91 λC hC hGL=> ?_;exact ba
  ·rw[decide_eq_false hv];refine ao func91 call91 λC hC hGL=> ?_;exact ba
 |typ h=>
  subst h;have e:tZ nTYP vs=(vs.all isS&&lx 0 (vs.length:Int)):=by
   unfold lx;rw[show decide ((0:Int)<(vs.length:Int))=decide (0<vs.length) from decide_eq_decide.2 (by omega)];rfl
  rw[e];refine ao func91 call91 λC hC hGL=> ?_;refine a6 ?_;intros;refine lp hC hGL (λk:Nat=>[(1,.rop [.str nm,.list 1 vs.length (ay vs)] 0),(48,.list 1 vs.length (ay vs)),(49,.int .i64 (vs.length:Int)),(50,.int .i64 (k:Int))]) (λ_=>[]) (λk=>k<=vs.length/\∀j,j<k->isS (vs.getD j [])=true) (λk=>vs.length-k) 0 ⟨Nat.zero_le _,λj h=>absurd h (Nat.not_lt_zero _)⟩ ad rfl ?_;rintro k ⟨hk1,hk2⟩;by_cases hk:k<vs.length
  ·have hI:=qJ (G:=G) (vs.getD k []) (by have:=h2 k;omega);cases hs:isS (vs.getD k []) with
   |true=>
    rw[hs] at hI;refine a6 ?_;intros;refine di (k+1) ⟨by omega,λj hj=> ?_⟩ (by omega) ad rfl;rcases Nat.lt_or_eq_of_le (Nat.le_of_lt_succ hj) with h|rfl
    ·exact hk2 j h
    ·exact hs
   |false=>
    rw[hs] at hI;rw[uO hk hs];exact ba
  ·rw[xM λj hj=>hk2 j (by omega)];exact ba
 |pid h=>
  subst h;have e:tZ yq vs=(vs.all nA&&lx 0 (vs.length:Int)):=by
   unfold lx;rw[show decide ((0:Int)<(vs.length:Int))=decide (0<vs.length) from decide_eq_decide.2 (by omega)];rfl
  rw[e];refine ao func91 call91 λC hC hGL=> ?_;refine a6 ?_;intros;refine lp hC hGL (λk:Nat=>[(1,.rop [.str nm,.list 1 vs.length (ay vs)] 0),(61,.list 1 vs.length (ay vs)),(62,.int .i64 (vs.length:Int)),(63,.int .i64 (k:Int))]) (λ_=>[]) (λk=>k<=vs.length/\∀j,j<k->nA (vs.getD j [])=true) (λk=>vs.length-k) 0 ⟨Nat.zero_le _,λj h=>absurd h (Nat.not_lt_zero _)⟩ ad rfl ?_;rintro k ⟨hk1,hk2⟩;by_cases hk:k<vs.length
  ·have hl:=h2 k;have hcut:=Cn (G:=G) hM (vs.getD k []) 46 (by omega);have hcl:=Oy (vs.getD k []) 46;have hp:nA (vs.getD k [])=(gi 999 (Lib.cut (vs.getD k []) [46]).1&&(!(Lib.cut (vs.getD k []) [46]).2.2||gi 999 (Lib.cut (vs.getD k []) [46]).2.1)):=by unfold nA;rfl
   generalize Lib.cut (vs.getD k []) [46]=cu at*
   obtain⟨a,b,tw⟩:=cu;dsimp only at hcut hcl hp;have hA:=mr hE hP a 999 (by omega) (by decide);have hB:=mr hE hP b 999 (by omega) (by decide);have go:nA (vs.getD k [])=true->k+1<=vs.length/\∀j,j<k+1->nA (vs.getD j [])=true:=λhs=>⟨by omega,λj hj=>by
    rcases Nat.lt_or_eq_of_le (Nat.le_of_lt_succ hj) with h|rfl
    ·exact hk2 j h
    ·exact hs⟩
   cases ha:gi 999 a with
   |false=>
    rw[ha] at hA hp;rw[uO hk hp];exact ba
   |true=>
    rw[ha] at hA hp;cases tw with
    |false=>
     refine a6 ?_;intros;exact di (k+1) (go hp) (by omega) ad rfl
    |true=>
     cases hb:gi 999 b with
     |true=>
      rw[hb] at hB hp;refine a6 ?_;intros;exact di (k+1) (go hp) (by omega) ad rfl
     |false=>
      rw[hb] at hB hp;rw[uO hk hp];exact ba
  ·rw[xM λj hj=>hk2 j (by omega)];exact ba
 |els h3 h4 h5 h6 h7 h8 h9 h10=>
  have e:tZ n vs=lx 0 (vs.length:Int):=by
   unfold tZ;rw[if_neg (by simp[*]),if_neg h7,if_neg h8,if_neg h9,if_neg h10];unfold lx;exact decide_eq_decide.2 (by omega)
  rw[e];refine ao func91 call91 λC hC hGL=> ?_;exact ba
end
section
theorem ND {c:Nat}(h:c<256):isS (bL [(c:Int)])=cT c:=by
 have hb:aa (bL [(c:Int)]) 0=c:=by
  unfold bL aa;simp;omega
 rw[Bool.eq_iff_iff,isS];have hl:(bL [(c:Int)]).length=1:=rfl;rw[hl];simp only[Bool.and_eq_true,xN,hl,decide_eq_true_eq];constructor
 ·intro h;have:=h.1 0 (by omega);rwa [hb] at this
 ·intro h;exact⟨λj hj=>by rw[show j=0 by omega,hb];exact h,by omega,by omega⟩
theorem F2 {c:Int}(h:cT c=true)(hc:c≠45):(48<=c/\c<=57)↔c<=57:=by
 rw[sq] at h;omega
theorem pR {b:Bool}{a:Nat}{x:List UInt8}{xs:List (List UInt8)}:eO b a (x::xs)=if(eE b a x).isNone then eO false (a+x.length+1) xs else eE b a x:=by rw[eO]
theorem AZ {x:List UInt8}(h:(45:UInt8)∉x){j:Nat}(hj:j<x.length):aa x j≠45:=by
 intro e;rw[bM hj] at e;exact h (by rw[<-show x[j]=45 from UInt8.toNat_inj.1 (by rw[e];rfl)];exact List.getElem_mem hj)
theorem vZ {first:Bool}{a:Nat}{x:List UInt8}{i:Nat}(hi:i<x.length)(hb:wn first (aa x i:Int)=false)(h0:∀j,j<i->wn first (aa x j:Int)=true):eE first a x= .at 3 ((a:Int)+i):=by
 have hf:jf (λc=> !wn first c) x=i:=mG hi (by rw[hb];rfl) (λj hj=>by rw[h0 j hj];rfl);unfold eE;rw[hf,if_pos (by omega)]
theorem nz {first:Bool}{a:Nat}{x:List UInt8}(h0:∀j,j<x.length->wn first (aa x j:Int)=true):eE first a x=if x.length=0 then .at 7 a else if 8<x.length then .at 4 a else .none:=by
 have hf:jf (λc=> !wn first c) x= -1:=iM (λj hj=>by rw[h0 j hj];rfl);unfold eE;rw[hf,if_neg (by omega)]
theorem n8 (c:UInt8):∀s:List UInt8,(cf c s).length<=s.length+1/\∀p,p∈cf c s->p.length<=s.length
 |[]=>⟨Nat.le_refl _,λp h=>by simp[cf] at h;subst h;exact Nat.le_refl _⟩
 |x::t=>by
  obtain⟨h1,h2⟩:=n8 c t;by_cases hx:x=c
  ·rw[cf,if_pos hx];refine⟨by simp only[List.length_cons];omega,λp hp=> ?_⟩;rcases List.mem_cons.1 hp with rfl|hp
   ·simp
   ·have:=h2 p hp;simp only[List.length_cons];omega
  ·rw[cf,if_neg hx];cases h3:cf c t with
   |nil=>exact absurd h3 (qk c t)
   |cons q qs=>
    rw[h3] at h1 h2;refine⟨by simp only[List.length_cons] at*;omega,λp hp=> ?_⟩;rcases List.mem_cons.1 hp with rfl|hp
    ·have:=h2 q (by simp);simp only[List.length_cons];omega
    ·have:=h2 p (by simp[hp]);simp only[List.length_cons];omega
attribute [local irreducible] bN aw aa aC bg ab ae
attribute [local irreducible] cf eO wn isS cT eE
theorem ll {G:Glo}{m:Int}(hM:ab G (ct m))(s:List UInt8)(hl:s.length<=10000):aj prog G 69 [.str s] (.agg [.int .i64 (dF s).e,.int .i64 (dF s).p]):=by
 have h1:=vn (G:=G) hM s 45 (by omega);have hgd:=fG (G:=G);have hmem:∀k,k<(cf 45 s).length->(45:UInt8)∉(cf 45 s).getD k []:=λk hk=>by
  rw[List.getD_eq_getElem?_getD,List.getElem?_eq_getElem hk];exact ql (List.getElem_mem hk)
 have hX:dF s=eO true 0 (cf 45 s):=rfl;have hlen:∀p,p∈cf 45 s->p.length<=10000:=λp hp=>Nat.le_trans ((n8 45 s).2 p hp) hl;have hPl:(cf 45 s).length<=10001:=by have:=(n8 45 s).1;omega
 generalize cf 45 s=P at*
 refine ao func69 call69 λC hC hGL=> ?_;refine a6 ?_;intros;rename Nat=>bl0
 refine lp hC hGL (λ(x:Nat×Nat)=>[(2,.own 0 (.pointer (some ⟨bl0,0,none⟩))),(3,.int .i64 x.2),(9,.list 1 P.length (ay P)),(10,.int .i64 P.length),(11,.int .i64 x.1)]) (λ_=>[.cells bl0 (some 32) [.int .i64 0,.int .i64 0]]) (λx=>x.1<=P.length/\x.2<=4000*x.1/\dF s=eO (decide (x.1=0)) x.2 (P.drop x.1)) (λx=>P.length-x.1) (0,0) ?_ ad rfl ?_
 ·exact⟨Nat.zero_le _,Nat.zero_le _,hX⟩
 rintro⟨k,a⟩ ⟨g1,g2,g3⟩;dsimp only at g1 g2 g3 ⊢;by_cases hk:k<P.length
 ·have hx:∃x,P.getD k []=x/\P.drop k=x::P.drop (k+1)/\(45:UInt8)∉x/\x.length<=10000:=by
   refine⟨P.getD k [],rfl,?_,hmem k hk,?_⟩
   ·rw[List.drop_eq_getElem_cons hk,List.getD_eq_getElem?_getD,List.getElem?_eq_getElem hk];rfl
   ·rw[List.getD_eq_getElem?_getD,List.getElem?_eq_getElem hk];exact hlen _ (List.getElem_mem hk)
  obtain⟨x,hx,hd,hm,hxl⟩:=hx;have hxe:ay P k= .str x:=by unfold ay;rw[hx]
  rw[hd,pR] at g3;have hkl:k<=4000*k:=by omega
  repeat' (first|(conv=>whnf);first|refine .w ?_|refine .v ?_|refine cj ?_ ?_<;>(intro hb;try exact dd hb)|apply aF|apply bf|(apply bQ<;>intro hb)|(apply bR;intro hbd)|(apply aZ;exact hgd)|(apply aL (i:=0) rfl;exact hgd)|(apply bS;intro bl)|(apply cb;intro va vk vc hva)|(apply ca;intro v)|(apply cd;intro bl cap hcap)|apply cg|(apply bZ<;>intro hnx)|apply cK mixed hC hGL (by kernel_rfl)|(apply cq;assumption;exact hgd;exact rfl)|(show Rt _ _ _;exact bK)|fail)
  all_goals try conv=>whnf
  rw[hx] at*
  rw[hxe] at*
  refine lp hC hGL (λ(i:Nat)=>[(2,.own 0 (.pointer (some ⟨bl0,0,none⟩))),(3,.int .i64 a),(4,.int .i64 k),(5,.str x),(9,.list 1 P.length (ay P)),(10,.int .i64 P.length),(11,.int .i64 k),(17,.own 1 (.slice (some ⟨bl,0,none⟩) x.length cap)),(18,.int .i64 x.length),(19,.int .i64 i)]) (λ_=>[.cells bl0 (some 32) [.int .i64 0,.int .i64 0],.buf bl x cap]) (λi=>i<=x.length/\∀j,j<i->wn (decide (k=0)) (aa x j:Int)=true) (λi=>x.length-i) 0 ?_ ad rfl ?_
  ·exact⟨Nat.zero_le _,by intro j hj;omega⟩
  rintro i ⟨hi,hb0⟩;have hI:i<x.length->aj prog G 118 [.str (bL [(aa x i:Int)])] (.bool (cT (aa x i))):=λh=>by
   have:=vQ (G:=G) (bL [(aa x i:Int)]) (by show 1<=_;omega);rwa [ND (bu _ _)] at this
  have hW:=eY (G:=G) (aa x i:Int) 48 57;refine xw ?_;repeat' first|exact .n|apply Lc.mk
  all_goals intros
  ·refine aP hC hGL (cW [_] rfl (by intro v hv;simp only[List.mem_cons,List.not_mem_nil,or_false] at hv;omega) rfl rfl rfl rfl rfl rfl) rfl rfl ?_;repeat' (first|(conv=>whnf);first|refine .w ?_|refine .v ?_|refine cj ?_ ?_<;>(intro hb;try exact dd hb)|apply aF|apply bf|(apply bQ<;>intro hb)|(apply bR;intro hbd)|(apply aZ;first|exact hI (by omega)|exact hW)|(apply aL (i:=0) rfl;first|exact hI (by omega)|exact hW)|(apply bS;intro bl)|(apply cb;intro va vk vc hva)|(apply ca;intro v)|(apply cd;intro bl cap hcap)|apply cg|(apply bZ<;>intro hnx)|apply cK mixed hC hGL (by kernel_rfl)|(apply cq;assumption;(first|exact hI (by omega)|exact hW);exact rfl)|(show Rt _ _ _;exact bK)|fail)
   all_goals try conv=>whnf
   ·apply ak;rw[Bool.and_eq_true,decide_eq_true_eq,decide_eq_true_eq] at hb;rw[g3,vZ (by omega) (H7.2 (.inr ⟨by simp;omega,by omega⟩)) hb0];rfl
   ·rw[Bool.and_eq_false_iff,decide_eq_false_iff_not,decide_eq_false_iff_not] at hb;refine di (i+1) ?_ ?_ ad rfl
    ·refine⟨by omega,bT hb0 (H6.2 ⟨by assumption,λ_=> ?_⟩)⟩;have:=(F2 (c:=(aa x i:Int)) (by assumption) (by have:=AZ hm (j:=i) (by omega);omega));omega
    ·omega
   ·refine di (i+1) ?_ ?_ ad rfl
    ·exact⟨by omega,bT hb0 (H6.2 ⟨by assumption,λh=>by simp at h;omega⟩)⟩
    ·omega
   ·apply ak;rw[g3,vZ (by omega) (H7.2 (.inl hb)) hb0];rfl
  ·apply ak;have hp:=nz (first:=decide (k=0)) (a:=a) (x:=x) (λj hj=>hb0 j (by omega));rw[if_pos (by omega)] at hp;rw[g3,hp];rfl
  ·apply ak;have hp:=nz (first:=decide (k=0)) (a:=a) (x:=x) (λj hj=>hb0 j (by omega));rw[if_neg (by omega),if_pos (by omega)] at hp;rw[g3,hp];rfl
  ·have hp:=nz (first:=decide (k=0)) (a:=a) (x:=x) (λj hj=>hb0 j (by omega));rw[if_neg (by omega),if_neg (by omega)] at hp;rw[hp,if_pos (show Err.none.isNone=true from rfl)] at g3;refine cJ (k+1,a+x.length+1) ⟨by omega,by dsimp only;omega,?_⟩ (by dsimp only;omega) ⟨rfl,?_,rfl,rfl,rfl,trivial⟩ an
   ·dsimp only
    rw[g3];simp
   ·exact congrArg (λz=>some (AVal.int .i64 z)) (by dsimp only;omega)
 ·refine a6 ?_;intros;apply ak;rw[g3,List.drop_eq_nil_of_le (by omega),eO];rfl
end
section
theorem Cw (c:UInt8)(s:List UInt8):cf c s=if(Lib.cut s [c]).2.2 then(Lib.cut s [c]).1::cf c (Lib.cut s [c]).2.1 else[s]:=by
 have h:=mh c s;rcases Lib.index_spec s [c] with⟨h2,_⟩|⟨i,h2,_⟩
 ·rw[Lib.count_miss h2] at h;have e:Lib.cut s [c]=(s,[],false):=by unfold Lib.cut;rw[if_neg (by omega)]
  rw[e,if_neg Bool.false_ne_true,<-h];rfl
 ·have e:Lib.cut s [c]=(s.take i,s.drop (i+1),true):=by unfold Lib.cut;rw[if_pos (by omega),h2];rfl
  rw[Lib.count_hit (by simp) h2,Nat.add_comm,mi h2] at h;rw[e,if_pos rfl,<-h];congr 1
  exact mh c _
theorem Kq:∀k:Fin 1000,(46:UInt8)∉Lib.decDigits k.val:=by decide+kernel
theorem Kx {m:Nat}{s:List UInt8}(hm:m<=999)(h:(46:UInt8)∈s):gi m s=false:=by
 refine xy.2 λn h1 h2 h3=> ?_;subst h3;exact Kq ⟨n,by omega⟩ h
theorem UB {s:List UInt8}{c:UInt8}(h:(Lib.cut s [c]).2.2=true):c∈s:=by
 unfold Lib.cut at h;split at h
 ·rename_i hi;rw[Lib.index_one] at hi;rcases Classical.em (c∈s) with g|g
  ·exact g
  ·exfalso;have:Lib.indexByte s c= -1:=by
    have:=Lib.index_spec s [c];rcases this with⟨h1,_⟩|⟨i,h1,h2,h3,_⟩
    ·rwa [Lib.index_one] at h1
    ·exfalso;apply g;unfold Lib.occAt at h3;cases hd:s.drop i with
     |nil=>rw[hd] at h3;simp at h3
     |cons x t=>
      rw[hd] at h3;have:c=x:=by simpa[List.isPrefixOf] using h3
      rw[this];exact List.mem_of_mem_drop (by rw[hd];exact List.mem_cons_self ..)
   omega
 ·cases h
def Qw (l:List (List UInt8)):Bool:=decide (l.length<=2)&&l.all (gi 999)
theorem Qv (v:List UInt8):Qw (cf 46 v)=nA v:=by
 rw[Cw];unfold nA Qw;cases ht:(Lib.cut v [46]).2.2 with
 |false=>
  have e:(Lib.cut v [46]).1=v:=by
   unfold Lib.cut at ht ⊢;split at ht
   ·cases ht
   ·rename_i h;rw[if_neg h]
  rw[e];simp
 |true=>
  rw[if_pos rfl,Cw];cases ht2:(Lib.cut (Lib.cut v [46]).2.1 [46]).2.2 with
  |false=>simp
  |true=>
   have h1:=Kx (m:=999) (Nat.le_refl _) (UB ht2);rw[h1,if_pos rfl];have h3:=qk 46 (Lib.cut (Lib.cut v [46]).2.1 [46]).2.1;have h4:0<(cf 46 (Lib.cut (Lib.cut v [46]).2.1 [46]).2.1).length:=List.length_pos_iff.2 h3;rw[decide_eq_false (by simp only[List.length_cons];omega)];simp
abbrev Cz:List UInt8:=[32,86,65,76,85,69,32,65,76,84,73,68,32,77,69,68,73,65,84,89,80,69,32,69,78,67,79,68,73,78,71,32,76,65,78,71,85,65,71,69,32,80,82,69,70,32]
def ml (n:List UInt8):Bool:=decide (n=MY\/n=M1\/n=MZ\/n=M0\/n=yr\/n=nPRE)
theorem C7:∀{n L:List UInt8},(n++[32]).isPrefixOf L=true->(32:UInt8)∉n->n=L.takeWhile (· != 32)
 |[],[],h,_=>by simp at h
 |[],x::L,h,_=>by
  simp only[List.nil_append,List.isPrefixOf,Bool.and_true,beq_iff_eq] at h;subst h;simp
 |a::n,[],h,_=>by simp at h
 |a::n,x::L,h,hn=>by
  simp only[List.cons_append,List.isPrefixOf,Bool.and_eq_true,beq_iff_eq] at h;obtain⟨rfl,h⟩:=h;have ha:a≠32:=λe=>hn (by rw[e];exact List.mem_cons_self ..);have:=C7 h (λe=>hn (List.mem_cons_of_mem _ e));rw[List.takeWhile_cons,if_pos (by simpa using ha),<-this]
theorem Ji:∀i:Fin 47,∀L,Cz.drop i.val=32::L->L.takeWhile (· != 32)=[]\/ml (L.takeWhile (· != 32))=true:=by
 have h:∀i:Fin 47,(match Cz.drop i.val with|x::L=>x != 32||((L.takeWhile (· != 32)).isEmpty||ml (L.takeWhile (· != 32)))|[]=>true)=true:=by decide+kernel
 intro i L hL;have:=h i;rw[hL] at this;replace this:((32:UInt8) != 32||((L.takeWhile (· != 32)).isEmpty||ml (L.takeWhile (· != 32))))=true:=this;generalize L.takeWhile (· != 32)=u at*
 rw[show((32:UInt8) != 32)=false by decide,Bool.false_or,Bool.or_eq_true,List.isEmpty_iff] at this;exact this
theorem Tc {n:List UInt8}(h:ml n=true):Lib.contains Cz (32::n++[32])=true:=by
 have h:n=MY\/n=M1\/n=MZ\/n=M0\/n=yr\/n=nPRE:=of_decide_eq_true h;rcases h with rfl|rfl|rfl|rfl|rfl|rfl<;>decide+kernel
theorem Td {n:List UInt8}(h0:n≠[])(hn:(32:UInt8)∉n):Lib.contains Cz (32::n++[32])=ml n:=by
 cases hb:ml n with
 |true=>exact Tc hb
 |false=>
  unfold Lib.contains;rcases Lib.index_spec Cz (32::n++[32]) with⟨h1,_⟩|⟨i,h1,h2,h3,_⟩
  ·rw[h1];rfl
  ·exfalso;unfold Lib.occAt at h3;cases hd:Cz.drop i with
   |nil=>rw[hd] at h3;simp at h3
   |cons x L=>
    rw[hd] at h3;simp only[List.cons_append,List.isPrefixOf,Bool.and_eq_true,beq_iff_eq] at h3;obtain⟨rfl,h3⟩:=h3;have e:=C7 h3 hn;rcases Ji ⟨i,by have:Cz.length=46:=rfl;omega⟩ L hd with h|h
    ·exact h0 (e.trans h)
    ·rw[<-e,hb] at h;cases h
theorem A1 {s:List UInt8}(h:isS s=true):al 97 122 (-32) s≠[]/\(32:UInt8)∉al 97 122 (-32) s:=by
 unfold isS at h;simp only[Bool.and_eq_true,decide_eq_true_eq] at h;obtain⟨h1,h2,_⟩:=h;refine⟨λe=>h2 ?_,λhm=> ?_⟩
 ·have:=congrArg List.length e;unfold al at this;rwa [List.length_map] at this
 ·unfold al at hm;rw[List.mem_map] at hm;obtain⟨c,hc,e⟩:=hm;unfold Ha at h1;have hl:=List.all_eq_true.1 h1 c hc;unfold cT at hl;have hl:=of_decide_eq_true hl;have e:=congrArg UInt8.toNat e;rw[UInt8.toNat_ofNat'] at e;have hlt:=UInt8.toNat_lt c;unfold dK at e;have e32:(32:UInt8).toNat=32:=rfl;rw[e32] at e;split at e<;>omega
end
section
theorem iF {G:Glo}{m:Int}(hU:ab G (ct m))(s t:List UInt8)(hl:s.length<100000):aj prog G 29 [.str s,.str t] (.bool (Lib.contains s t)):=by
 refine bO rfl call29 ?_;rintro R args ⟨x,u,e,hx,y,u',e',hy,rfl⟩ w hG hs;obtain rfl:=aI.1 hx;obtain rfl:=aI.1 hy;subst e';obtain rfl:=fb e;refine(strings_Contains ⟨s.toArray⟩ ⟨t.toArray⟩ m w (by show s.toArray.size<_;simp;omega) (qK hU hG hs)).mono ?_;rintro e w' ⟨rfl,rfl⟩;exact⟨by simp[AVal.conc],Below.refl _ _⟩
end
section
attribute [local irreducible] bN aw aa aC bg ab ae
attribute [local irreducible] fx Lv gk To
abbrev tz (e p:Int):AVal:=.iface 82 (.agg [.int .i64 e,.int .i64 p])
theorem zc {G:Glo}(e p:Int):ae prog G 33 [.int .i64 e,.int .i64 p] [] (λr H=>r= .panic (tz e p)/\H=[]):=by
 refine ao func33 call33 λC hC hGL=> ?_;refine a6 ?_;exact VD rfl
theorem FI {G:Glo}(b:Nat)(e p:Int)(x y:AVal):fx prog G 18 [.own 0 (.pointer (some ⟨b,0,none⟩))] (.pan (tz e p)) [.cells b (some 32) [x,y]]
  (λr m H=>m= .rcv (tz e p)/\r= .ret (.tuple [])/\H=[.cells b (some 32) [.int .i64 e,.int .i64 p]]):=by
 have hGL:ab G []:=aG;refine Oi (rs:=[]) (GL:=[]) func18 rfl rfl rfl rfl rfl rfl hGL ?_;intro C hC;exact ba
theorem AP {G:Glo}(b:Nat)(x:HEnt):fx prog G 18 [.own 0 (.pointer (some ⟨b,0,none⟩))] .ret [x]
  (λr m H=>m= .ret/\r= .ret (.tuple [])/\H=[x]):=by
 have hGL:ab G []:=aG;refine Oi (rs:=[]) (GL:=[]) func18 rfl rfl rfl rfl rfl rfl hGL ?_;intro C hC;exact ba
theorem jI {G:Glo}(e p:Int):aj prog G 17 [.agg [.int .i64 e,.int .i64 p]] (.bool (cm e 0)):=by
 refine ao func17 call17 λC hC hGL=> ?_;exact ba
end
section
def zk (n:List UInt8)(v:List UInt8):Bool:=if n=yr then(dF v).isNone else if n=nPRE then gi 100 v else if n=nTYP then isS v else if n=yq then nA v else true
theorem Uj (n:List UInt8)(vs:List (List UInt8)):tZ n vs=(decide (vs.length≠0)&&((!ml n||decide (vs.length=1))&&vs.all (zk n))):=by
 have one:∀{p:List UInt8->Bool},vs.length=1->vs.all p=p (vs.getD 0 []):=λh=>by
  obtain⟨v,rfl⟩:=List.length_eq_one_iff.1 h
  simp
 cases WZ n with
 |one h=>
  have e:∀v,zk n v=true:=λv=>by
   unfold zk
   rcases h with rfl|rfl|rfl|rfl<;>rfl
  have e2:vs.all (zk n)=true:=List.all_eq_true.2 λv _=>e v
  have e3:ml n=true:=by rcases h with rfl|rfl|rfl|rfl<;>rfl
  unfold tZ
  rw[if_pos h,e2,e3]
  by_cases hv:vs.length=1
  ·simp[hv]
  ·simp[hv]
 |lan h=>
  subst h
  show(decide (vs.length=1)&&(dF (vs.getD 0 [])).isNone)=_
  rw[show ml yr=true from rfl]
  by_cases hv:vs.length=1
  ·rw[one hv];simp[hv,zk]
  ·simp[hv]
 |pre h=>
  subst h
  show(decide (vs.length=1)&&gi 100 (vs.getD 0 []))=_
  rw[show ml nPRE=true from rfl]
  by_cases hv:vs.length=1
  ·rw[one hv];simp[hv,zk]
  ·simp[hv]
 |typ h=>
  subst h
  show(vs.all isS&&decide (0<vs.length))=_
  rw[show ml nTYP=false from rfl,show zk nTYP=isS from rfl]
  by_cases hv:vs.length=0
  ·simp[hv]
  ·simp[hv,Nat.pos_of_ne_zero hv]
 |pid h=>
  subst h
  show(vs.all nA&&decide (0<vs.length))=_
  rw[show ml yq=false from rfl,show zk yq=nA from rfl]
  by_cases hv:vs.length=0
  ·simp[hv]
  ·simp[hv,Nat.pos_of_ne_zero hv]
 |els h1 h2 h3 h4 h5 h6 h7 h8=>
  have e:∀v,zk n v=true:=λv=>by
   unfold zk
   rw[if_neg h5,if_neg h6,if_neg h7,if_neg h8]
  have e2:vs.all (zk n)=true:=List.all_eq_true.2 λv _=>e v
  have e3:ml n=false:=by
   unfold ml
   exact decide_eq_false (by simp only[not_or];exact⟨h1,h2,h3,h4,h5,h6⟩)
  unfold tZ
  rw[if_neg (by simp only[not_or];exact⟨h1,h2,h3,h4⟩),if_neg h5,if_neg h6,if_neg h7,if_neg h8,e2,e3]
  by_cases hv:vs.length=0
  ·simp[hv]
  ·simp[hv,Nat.pos_of_ne_zero hv]
theorem zw:∀(b:Bool) (a:Nat) (l:List (List UInt8)),(eO b a l).isNone=cm (eO b a l).e 0
 |b,a,[]=>by unfold eO;exact(bP.2 rfl).symm
 |b,a,x::l=>by
  unfold eO;have ih:=zw false (a+x.length+1) l;have hp:eE b a x= .none\/∃e p,eE b a x= .at e p/\e≠0:=by
   unfold eE;split
   ·exact .inr ⟨_,_,rfl,by decide⟩
   ·split
    ·exact .inr ⟨_,_,rfl,by decide⟩
    ·split
     ·exact .inr ⟨_,_,rfl,by decide⟩
     ·exact .inl rfl
  rcases hp with h|⟨e,p,h,he⟩
  ·rw[h];exact ih
  ·rw[h];exact(fV.2 he).symm
theorem JZ (s:List UInt8):(dF s).isNone=cm (dF s).e 0:=zw true 0 (cf 45 s)
attribute [local irreducible] bN aw aa aC bg ab ae
attribute [local irreducible] gi dF isS nA cf zk ml
theorem s5 {G:Glo}(hP:fW G)(s:List UInt8)(m:Nat)(hm:m<=999):aj prog G 121 [.str s,.int .i64 (m:Int)] (.bool (gi m s)):=by
 refine ao func121 call121 λC hC hGL=> ?_
 refine a6 ?_;intros;refine lp hC hGL (λk:Nat=>[(0,.str s),(1,.int .i64 (m:Int)),(5,.int .i64 (k:Int))]) (λ_=>[]) (λk=>1<=k/\k<=m+1/\∀n,1<=n->n<k->Lib.decDigits n≠s) (λk=>m+1-k) 1 ⟨Nat.le_refl _,by omega,λn h1 h2=>by omega⟩ ad rfl ?_;rintro k ⟨h1,h2,h3⟩;by_cases hk:k<=m
 ·have hI:=strconv_Itoa (G:=G) hP k (by omega);by_cases he:Lib.decDigits k=s
  ·rw[GP.2 ⟨k,h1,hk,he⟩];exact ba
  ·refine a6 ?_;intros;refine di (k+1) ⟨by omega,by omega,λn g1 g2=> ?_⟩ (by omega) ad rfl;rcases Nat.lt_or_eq_of_le (Nat.le_of_lt_succ g2) with h|rfl
   ·exact h3 n g1 h
   ·exact he
 ·rw[xy.2 λn g1 g2=>h3 n g1 (by omega)]
  exact ba
theorem Ms {G:Glo}{m:Int}(hP:fW G)(hM:ab G (ct m))(q:Pr)(hq:isS q.n=true)(h0:q.n.length<=2000000)(h1:q.vs.length<=1000000)(h2:∀k,(q.vs.getD k []).length<=10000):aj prog G 71 [prA q] (.bool q.fit):=by
 have hU:=sf (G:=G) q.n (by omega);obtain⟨hb1,hb2⟩:=A1 hq;unfold Pr.fit;rw[Uj];obtain⟨nm,vs⟩:=q;dsimp only at h0 h1 h2 hU hb1 hb2 ⊢;have hnl:(al 97 122 (-32) nm).length<=2000000:=by unfold al;rw[List.length_map];exact h0
 clear hq;generalize al 97 122 (-32) nm=n at*
 have hS:=iF (G:=G) hM Cz (32::n++[32]) (by decide);rw[Td hb1 hb2] at hS;by_cases hv:vs.length=0
 ·rw[decide_eq_false (by omega)];refine ao func71 call71 λC hC hGL=> ?_;exact ba
 rw[decide_eq_true hv];by_cases hs:ml n=true/\vs.length≠1
 ·rw[hs.1] at hS ⊢;rw[decide_eq_false hs.2];refine ao func71 call71 λC hC hGL=> ?_;exact ba
 have e1:(!ml n||decide (vs.length=1))=true:=by
  rcases Bool.eq_false_or_eq_true (ml n) with h|h
  ·rw[h,decide_eq_true (Classical.not_not.1 λg=>hs ⟨h,g⟩)];rfl
  ·rw[h];rfl
 rw[e1,Bool.true_and,Bool.true_and];have ok1:∀{k:Nat},k<vs.length->zk n (vs.getD k [])=true->(∀j,j<k->zk n (vs.getD j [])=true)->∀j,j<k+1->zk n (vs.getD j [])=true:=λhk h g j hj=>by
  rcases Nat.lt_or_eq_of_le (Nat.le_of_lt_succ hj) with h'|rfl
  ·exact g j h'
  ·exact h
 refine fN func71 call71 λC hC hGL=> ?_;refine cut hC hGL [(1,.rop [.str nm,.list 1 vs.length (ay vs)] 0)] [] True ?_ λ_=> ?_
 ·exact ba
 refine cut hC hGL [(1,.rop [.str nm,.list 1 vs.length (ay vs)] 0)] [] True ?_ λ_=> ?_
 ·exact ba
 refine cut hC hGL [(1,.rop [.str nm,.list 1 vs.length (ay vs)] 0),(3,.str n)] [] True ?_ λ_=> ?_
 ·exact ba
 refine cut hC hGL [(1,.rop [.str nm,.list 1 vs.length (ay vs)] 0),(3,.str n)] [] True ?_ λ_=> ?_
 ·cases h6:ml n with
  |true=>
   rw[h6] at hS hs;have hl1:vs.length=1:=Classical.not_not.1 λg=>hs ⟨rfl,g⟩;exact ba
  |false=>
   rw[h6] at hS;exact ba
 refine am hC hGL (a6 ?_);intros;refine lp hC hGL (λk:Nat=>[(3,.str n),(28,.list 1 vs.length (ay vs)),(29,.int .i64 (vs.length:Int)),(30,.int .i64 (k:Int))]) (λ_=>[]) (λk=>k<=vs.length/\∀j,j<k->zk n (vs.getD j [])=true) (λk=>vs.length-k) 0 ⟨Nat.zero_le _,λj h=>absurd h (Nat.not_lt_zero _)⟩ ad rfl ?_;rintro k ⟨hk1,hk2⟩;by_cases hk:k<vs.length
 ·have hl:=h2 k;have ok2:=λh=>ok1 hk h hk2;have bad:zk n (vs.getD k [])=false->vs.all (zk n)=false:=uO hk;have hLR:=ll hM (vs.getD k []) hl;have hFI:=jI (G:=G) (dF (vs.getD k [])).e (dF (vs.getD k [])).p;have hCN:=s5 hP (vs.getD k []) 100 (by decide);have hIS:=vQ (G:=G) (vs.getD k []) (by omega);have hSP:=vn (G:=G) hM (vs.getD k []) 46 (by omega);have hCT:=λx=>s5 hP x 999 (Nat.le_refl _);have hlE:=JZ (vs.getD k []);have hpE:=Qv (vs.getD k []);have hd:zk n (vs.getD k [])=(if n=yr then(dF (vs.getD k [])).isNone else if n=nPRE then gi 100 (vs.getD k []) else if n=nTYP then isS (vs.getD k []) else if n=yq then nA (vs.getD k []) else true):=by unfold zk;rfl
  cases WZ n with
  |one h=>
   have e:(if n=yr then(dF (vs.getD k [])).isNone else if n=nPRE then gi 100 (vs.getD k []) else if n=nTYP then isS (vs.getD k []) else if n=yq then nA (vs.getD k []) else true)=true:=by rcases h with rfl|rfl|rfl|rfl<;>rfl
   have e:=ok2 (hd.trans e);rcases h with rfl|rfl|rfl|rfl
   all_goals
    refine a6 ?_;intros;exact di (k+1) ⟨by omega,e⟩ (by omega) ad rfl
  |lan h=>
   subst h;cases hc:(dF (vs.getD k [])).isNone with
   |true=>
    rw[hc] at hlE;rw[<-hlE] at hFI;refine a6 ?_;intros;exact di (k+1) ⟨by omega,ok2 (by rw[hd];exact hc)⟩ (by omega) ad rfl
   |false=>
    rw[hc] at hlE;rw[<-hlE] at hFI;rw[bad (by rw[hd];exact hc)];exact ba
  |pre h=>
   subst h;cases hc:gi 100 (vs.getD k []) with
   |true=>
    rw[hc] at hCN;refine a6 ?_;intros;exact di (k+1) ⟨by omega,ok2 (by rw[hd];exact hc)⟩ (by omega) ad rfl
   |false=>
    rw[hc] at hCN;rw[bad (by rw[hd];exact hc)];exact ba
  |typ h=>
   subst h;cases hc:isS (vs.getD k []) with
   |true=>
    rw[hc] at hIS;refine a6 ?_;intros;exact di (k+1) ⟨by omega,ok2 (by rw[hd];exact hc)⟩ (by omega) ad rfl
   |false=>
    rw[hc] at hIS;rw[bad (by rw[hd];exact hc)];exact ba
  |pid h=>
   subst h;have hln:=n8 46 (vs.getD k []);have hpd:Qw (cf 46 (vs.getD k []))=(decide ((cf 46 (vs.getD k [])).length<=2)&&(cf 46 (vs.getD k [])).all (gi 999)):=by unfold Qw;rfl
   rw[hpE] at hpd;generalize cf 46 (vs.getD k [])=l at hln hpd hSP;refine a6 ?_;intros;refine lp hC hGL (λj:Nat=>[(3,.str yq),(6,.bool (decide (l.length<=2)&&(l.take j).all (gi 999))),(28,.list 1 vs.length (ay vs)),(29,.int .i64 (vs.length:Int)),(30,.int .i64 (k:Int)),(55,.list 1 l.length (ay l)),(56,.int .i64 (l.length:Int)),(57,.int .i64 (j:Int))]) (λ_=>[]) (λj=>j<=l.length) (λj=>l.length-j) 0 (Nat.zero_le _) ⟨rfl,?_,rfl,rfl,rfl,rfl,rfl,rfl,trivial⟩ rfl ?_
   ·show Env.get _ 6=_;rw[List.take_zero,List.all_nil,Bool.and_true];exact congrArg (λz=>some (AVal.bool z)) (by unfold lx;rw[<-decide_not];exact decide_eq_decide.2 (by omega))
   intro j hj;by_cases hjl:j<l.length
   ·have hC1:=hCT (l.getD j []);have e2:(l.take (j+1)).all (gi 999)=((l.take j).all (gi 999)&&gi 999 (l.getD j [])):=by
     rw[List.take_succ_eq_append_getElem hjl,List.all_append,List.getD_eq_getElem?_getD,List.getElem?_eq_getElem hjl];simp
    cases hb:(decide (l.length<=2)&&(l.take j).all (gi 999)) with
    |true=>
     refine a6 ?_;intros;refine di (j+1) (by omega) (by omega) ⟨rfl,?_,rfl,rfl,rfl,rfl,rfl,rfl,trivial⟩ rfl;rw[e2,<-Bool.and_assoc,hb];rfl
    |false=>
     refine a6 ?_;intros;refine di (j+1) (by omega) (by omega) ⟨rfl,?_,rfl,rfl,rfl,rfl,rfl,rfl,trivial⟩ rfl;rw[e2,<-Bool.and_assoc,hb];rfl
   ·obtain rfl:j=l.length:=by omega
    rw[List.take_length,<-hpd];cases hc:nA (vs.getD k []) with
    |true=>
     refine a6 ?_;intros;exact di (k+1) ⟨by omega,ok2 (by rw[hd];exact hc)⟩ (by omega) ad rfl
    |false=>
     rw[bad (by rw[hd];exact hc)];exact ba
  |els h3 h4 h5 h6 h7 h8 h9 h10=>
   have e:=ok2 (by rw[hd,if_neg h7,if_neg h8,if_neg h9,if_neg h10]);refine a6 ?_;intros;exact di (k+1) ⟨by omega,e⟩ (by omega) ad rfl
 ·rw[xM λj hj=>hk2 j (by omega)];exact ba
end
section
theorem Cf {t:Int}{l:List Pr}(h:dI valN l 0= -1):p8 t l=t:=by unfold p8;rw[h,if_pos (.inl (by decide))]
theorem yV {t:Int}{l:List Pr}{k:Nat}(h:dI valN l 0=(k:Int))(h2:(l.getD k Pr.z).vs.length=0):p8 t l=t:=by unfold p8;rw[h,Int.toNat_natCast,if_pos (.inr h2)]
theorem Cg {t:Int}{l:List Pr}{k:Nat}(h:dI valN l 0=(k:Int))(h2:(l.getD k Pr.z).vs.length≠0):p8 t l=Vs t (al 65 90 32 ((l.getD k Pr.z).vs.getD 0 [])):=by unfold p8;rw[h,Int.toNat_natCast,if_neg (by rintro(h|h);omega;exact h2 h)]
attribute [local irreducible] bN aw aa aC bg ab ae
attribute [local irreducible] al dI ci
theorem Fy {G:Glo}(hS:rI G)(v:Int)(s:List UInt8)(l:List Pr)(hs:s.length<=2000000)(hl:l.length<=9223372036854775807)(hn:∀k,(l.getD k Pr.z).n.length<=9223372036854775807)(hv:∀k,(l.getD k Pr.z).vs.length<=9223372036854775807/\((l.getD k Pr.z).vs.getD 0 []).length<=9223372036854775807):
  aj prog G 93 [.str s,.list 2 l.length (fH l),.int .i64 v] (.tuple [.int .i64 (j9 v s l),(dR v).A]):=by
 have h1:=nr (G:=G) hS v s hs;have h2:aj prog G 92 [.list 2 l.length (fH l),.str [86,65,76,85,69]] (.int .i64 (dI valN l 0)):=vJ (G:=G) l valN hl hn (by decide);by_cases hver:v=3\/v=4
 ·have e2:dR v= .none:=by unfold dR;rw[if_pos hver]
  have e3:j9 v s l=p8 (ci v s).t l:=by unfold j9;rw[if_pos hver]
  rw[e2] at h1 ⊢;rw[e3];generalize ci v s=r at*
  simp only[Err.A,fq] at h1 ⊢;rcases nL valN l 0 with hf|⟨k,hk,hf⟩
  ·rw[Cf hf];rw[hf] at h2;refine ao func93 call93 λC hC hGL=> ?_;refine xw ?_;repeat' first|exact .n|apply Lc.mk
   all_goals intros
   all_goals intros
   all_goals first
    |(apply ak;rfl)
    |(exfalso;omega)
  ·rw[Nat.zero_add] at hf;rw[hf] at h2;by_cases h0:(l.getD k Pr.z).vs.length=0
   ·rw[yV hf h0];refine ao func93 call93 λC hC hGL=> ?_;refine xw ?_;repeat' first|exact .n|apply Lc.mk
    all_goals intros
    all_goals intros
    all_goals first
     |(apply ak;rfl)
     |(exfalso;omega)
     |trace_state
   ·rw[Cg hf h0];have h3:=FW (G:=G) ((l.getD k Pr.z).vs.getD 0 []) (by have:=(hv k).2;omega);have h3:aj prog G 149 [ay (l.getD k Pr.z).vs 0] _:=h3;generalize al 65 90 32 ((l.getD k Pr.z).vs.getD 0 [])=x at*
    refine ao func93 call93 λC hC hGL=> ?_;refine xw ?_;repeat' first|exact .n|apply Lc.mk
    all_goals intros
    all_goals intros
    all_goals try (exfalso;omega)
    all_goals
     apply ak;refine congrArg (λz=>AVal.tuple [.int .i64 z,.raw .nilIface]) (Eq.symm ?_);clear h1 h2 h3 hn hv hf hC hGL;unfold Vs;simp[*]
 ·have e2:dR v= .errno 1:=by unfold dR;rw[if_neg hver]
  have e3:j9 v s l=0:=by unfold j9;rw[if_neg hver]
  rw[e2] at h1 ⊢;rw[e3];simp only[Err.A,fq] at h1 ⊢;refine ao func93 call93 λC hC hGL=> ?_;refine xw ?_;repeat' first|exact .n|apply Lc.mk
  all_goals intros
  all_goals intros
  all_goals first
   |(apply ak;rfl)
   |(exfalso;omega)
theorem Mn {G:Glo}(v:Int)(s:List UInt8)(l:List Pr)(hs:s.length<=2000000)(hl:l.length<=9223372036854775807)(hn:∀k,(l.getD k Pr.z).n.length<=9223372036854775807)(hv:∀k,(l.getD k Pr.z).vs.length<=9223372036854775807/\((l.getD k Pr.z).vs.getD 0 []).length<=9223372036854775807):
  aj prog G 72 [.str s,.list 2 l.length (fH l),.int .i64 v] (.tuple [.int .i64 (j9 v s l),.int .i64 (dR v).e]):=by
 have h1:=nx (G:=G) v s hs;have h2:aj prog G 122 [.list 2 l.length (fH l),.str [86,65,76,85,69]] (.int .i64 (dI valN l 0)):=Mt (G:=G) l valN hl hn (by decide);by_cases hver:v=3\/v=4
 ·have e2:dR v= .none:=by unfold dR;rw[if_pos hver]
  have e3:j9 v s l=p8 (ci v s).t l:=by unfold j9;rw[if_pos hver]
  rw[e2] at h1 ⊢;rw[e3];generalize ci v s=r at*
  simp only[Err.e] at h1 ⊢;rcases nL valN l 0 with hf|⟨k,hk,hf⟩
  ·rw[Cf hf];rw[hf] at h2;refine ao func72 call72 λC hC hGL=> ?_;refine xw ?_;repeat' first|exact .n|apply Lc.mk
   all_goals intros
   all_goals intros
   all_goals first
    |(apply ak;rfl)
    |(exfalso;omega)
  ·rw[Nat.zero_add] at hf;rw[hf] at h2;by_cases h0:(l.getD k Pr.z).vs.length=0
   ·rw[yV hf h0];refine ao func72 call72 λC hC hGL=> ?_;refine xw ?_;repeat' first|exact .n|apply Lc.mk
    all_goals intros
    all_goals intros
    all_goals first
     |(apply ak;rfl)
     |(exfalso;omega)
   ·rw[Cg hf h0];have h3:=sg (G:=G) ((l.getD k Pr.z).vs.getD 0 []) (by have:=(hv k).2;omega);have h3:aj prog G 59 [ay (l.getD k Pr.z).vs 0] _:=h3;generalize al 65 90 32 ((l.getD k Pr.z).vs.getD 0 [])=x at*
    refine ao func72 call72 λC hC hGL=> ?_;refine xn ?_;repeat' first|exact .n|apply Lc.mk
    all_goals intros
    all_goals intros
    all_goals try (exfalso;omega)
    all_goals
     apply ak;refine congrArg (λz=>AVal.tuple [.int .i64 z,.int .i64 0]) (Eq.symm ?_);clear h1 h2 h3 hn hv hf hC hGL;unfold Vs;simp[*]
 ·have e2:dR v= .errno 1:=by unfold dR;rw[if_neg hver]
  have e3:j9 v s l=0:=by unfold j9;rw[if_neg hver]
  rw[e2] at h1 ⊢;rw[e3];simp only[Err.e] at h1 ⊢;refine ao func72 call72 λC hC hGL=> ?_;refine xw ?_;repeat' first|exact .n|apply Lc.mk
  all_goals intros
  all_goals intros
  all_goals first
   |(apply ak;rfl)
   |(exfalso;omega)
end
section
theorem Nb (v:Value)(n:Nat):(madeCells #[v] n).toList=List.replicate n v:=by
 unfold madeCells;refine List.ext_getElem (by simp) (λi h1 h2=> ?_);simp[Nat.mod_one]
section
variable {P:Program} [Tab P] {C:Ctx} {n:Nat} {env:Env} {H:Heap} {Q:aQ->Env->Heap->Prop} {ops:Array Oper} {rest:List Oper} {G:Glo} {GL:List (Nat×List AVal)}
variable {d:Nat} {t:TypeId} {p:String} {af:Array Edge} {g:Option (Nat×Bool)} {b:Bool}
variable {x y:Operand} {T e:TypeId} {xT xe:TI}
theorem sX {ρ:Operand->Value}{w w':World}{a c u:Value}(ha:ρ x=a)(hc:ρ y=c)(hr:(Instr.makeSlice T a c).run P w= .ok u w'):
  (execOp ρ {dst:=some d,op:=.makeSlice T x y,type:=t,pos:=p,after:=af,guard:=g}).run P w= .ok (.value u) w':=by
 simp only[execOp,ha,hc,Sem.run_bind,hr,Result.andThen_ok,Sem.run_pure]
theorem on {k1 k2:IntKind}{m:Nat}(hC:C.G=G)(hGL:ab G GL)(hx:ai env x=some (.int k1 (m:Int)))(hy:ai env y=some (.int k2 (m:Int)))(hm0:m<=1000000000000)(ht:bC P T=some xT)(hd:xT.desc= .slice e)(he:bC P e=some xe)(hz:xe.zero=some (.int .u8 0))(hs:xe.size=1)(hb:xe.bytes=1)
  (hg:a8 ops env g=some (b,b)) (hdn:Nat.ble (d+1) n=true)
  (k:∀bl,mw P C n G GL ops Q rest ((d,.own H.length (.slice (some ⟨bl,0,none⟩) m m))::env) (H++[.buf bl (List.replicate m 0) m])):
  uj P C n ops ({dst:=some d,op:=.makeSlice T x y,type:=t,pos:=p,after:=af,guard:=g}::rest) env H Q:=by
 refine⟨gt (X:=Nat) (av:=λbl=>.raw (.slice (some ⟨bl,0,none⟩) m m)) (H':=λbl=>.buf bl (List.replicate m 0) m::H) hg rfl hdn (λR ρ w hm hf=> ?_)
  (λbl=>mP (fP (i:=H.length) rfl (eZ hC hGL _ _ _ (k bl))))⟩
 obtain⟨i,hi,his,hib,hiz,_⟩:=gR he
 have hr:=run_make (P:=P) w T e i (.int .u8 0) (by rw[ck ht,hd]) hi (by rw[hiz,hz]) k1 k2 (m:Int) (m:Int) (by omega) (by omega) (by rw[hib,hb];omega) (by omega)
 simp only[Int.toNat_natCast] at hr
 have hrun:=sX (d:=d) (t:=t) (p:=p) (af:=af) (g:=g) (aq.1 (hf _ _ hx)) (aq.1 (hf _ _ hy)) hr
 refine⟨w.heap.size,_,_,R,hrun,Seal.le_refl R,ar.2 rfl,?_⟩
 ·rw[mE]
  refine hm.alloc _ _ rfl ⟨by simp,_,_,_,fS w _,?_,.inl (Nat.le_refl _)⟩
  rw[his,hs,Nat.mul_one,show(Value.int .u8 0).cells=#[.int .u8 0] from rfl,Nb]
  have:fA (List.replicate m 0) m=List.replicate m (.int .u8 0):=by simp[fA,byteA]
  rw[this]
  exact kg (show bh R (.int .u8 0) [.int .u8 0] from rfl) _
theorem zj {k1 k2:IntKind}{m:Nat}(hC:C.G=G)(hGL:ab G GL)(hx:ai env x=some (.int k1 0))(hy:ai env y=some (.int k2 (m:Int)))(hm0:m<=1000000000)(ht:bC P T=some xT)(hd:xT.desc= .slice e)(he:bC P e=some xe){z:Value}(hz:xe.zero=some z)(hb:Nat.ble xe.bytes 1024=true)
  (hg:a8 ops env g=some (b,b)) (hdn:Nat.ble (d+1) n=true)
  (k:∀bl,mw P C n G GL ops Q rest ((d,.own H.length (.slice (some ⟨bl,0,none⟩) 0 m))::env) (H++[.row (.slice (some ⟨bl,0,none⟩) 0 m) (some e) xe.size 0 []])):
  uj P C n ops ({dst:=some d,op:=.makeSlice T x y,type:=t,pos:=p,after:=af,guard:=g}::rest) env H Q:=by
 refine⟨gt (X:=Nat) (av:=λbl=>.raw (.slice (some ⟨bl,0,none⟩) 0 m)) (H':=λbl=>.row (.slice (some ⟨bl,0,none⟩) 0 m) (some e) xe.size 0 []::H) hg rfl hdn (λR ρ w hm hf=> ?_)
  (λbl=>mP (fP (i:=H.length) rfl (eZ hC hGL _ _ _ (k bl))))⟩
 obtain⟨i,hi,his,hib,hiz,_⟩:=gR he;have hb:=Nat.le_of_ble_eq_true hb;have hmul:xe.bytes*m<=1024*1000000000:=Nat.mul_le_mul hb hm0;have hr:=run_make (P:=P) w T e i z (by rw[ck ht,hd]) hi (by rw[hiz,hz]) k1 k2 0 (m:Int) (by omega) (by omega) (by rw[hib,<-Int.natCast_mul];omega) (by omega);simp only[Int.toNat_natCast,Int.toNat_zero] at hr;have hrun:=sX (d:=d) (t:=t) (p:=p) (af:=af) (g:=g) (aq.1 (hf _ _ hx)) (aq.1 (hf _ _ hy)) hr;refine⟨w.heap.size,_,_,R,hrun,Seal.le_refl R,ar.2 rfl,?_⟩
 ·rw[mE];refine hm.alloc _ _ rfl ⟨by simp,.inr ⟨_,_,_,_,_,rfl,fS w _,?_,Nat.zero_le _,?_,.inl (Nat.le_refl _),λt ht=>by cases ht;rfl⟩⟩
  ·rw[size_madeCells,his]
  ·simp[ce]
end
end
section
section
variable {P:Program} [Tab P] {C:Ctx} {n:Nat} {env:Env} {H:Heap} {Q:aQ->Env->Heap->Prop} {ops:Array Oper} {rest:List Oper} {G:Glo} {GL:List (Nat×List AVal)}
variable {d:Nat} {t:TypeId} {p:String} {af:Array Edge} {g:Option (Nat×Bool)} {b:Bool}
variable {x y:Operand} {T T2 e:TypeId} {xT xe:TI}
theorem ME {s s2:List UInt8}{cap o:Nat}(ho:o+s2.length<=s.length)(hc:s.length<=cap):
  fA (s.take o++s2++s.drop (o+s2.length)) cap=(fA s cap).take o++s2.map byteA++(fA s cap).drop (o+s2.length):=by
 have e:(s.take o++s2++s.drop (o+s2.length)).length=s.length:=by
  simp only[List.length_append,List.length_take,List.length_drop];omega
 unfold fA;rw[e,List.map_append,List.map_append,List.map_take,List.map_drop];rw[List.take_append_of_le_length (by simp;omega),List.drop_append_of_le_length (by simp;omega),<-List.append_assoc]
theorem CQ {ρ:Operand->Value}{ty:TypeId}{w w':World}{a c u:Value}(ha:ρ x=a)(hc:ρ y=c)(hr:(Builtin.copy_ #[T,T2] t #[a,c]).run P w= .ok u w'):
  (execOp ρ {dst:=some d,op:=.call {callee:=.builtin .copy,args:=#[x,y],argTypes:=#[T,T2]},type:=t,pos:=p,after:=af,guard:=g}).run P w= .ok (.value u) w':=by
 simp only[execOp,resolve,Sem.run_bind,Sem.run_pure,Result.andThen_ok,invoke,List.map_toArray,List.map_cons,List.map_nil,ha,hc];simp only[builtin,Sem.run_bind,hr,Result.andThen_ok,Sem.run_pure]
theorem FR {i bl l c o:Nat}{k0:IntKind}(hC:C.G=G)(hGL:ab G GL)(hx:ai env x=some (.own i (.slice (some ⟨bl,0,none⟩) l c)))(hy:ai env y=some (.int k0 (o:Int)))(ho:o<=l)(hoc:o<c)(ht:bC P T=some xT)(hd:xT.desc= .slice e)(he:bC P e=some xe)(hs:xe.size=1)
  (hg:a8 ops env g=some (b,b)) (hdn:Nat.ble (d+1) n=true)
  (k:mw P C n G GL ops Q rest ((d,.own i (.slice (some ⟨bl,o,none⟩) (l-o) (c-o)))::env) H):
  uj P C n ops ({dst:=some d,op:=.slice T x (some y) none none,type:=t,pos:=p,after:=af,guard:=g}::rest) env H Q:=by
 refine⟨sT hg rfl hdn (av:=.own i (.slice (some ⟨bl,o,none⟩) (l-o) (c-o))) (H':=H) (λR ρ w hm hf=> ?_) (eZ hC hGL _ _ _ k)⟩;have hel:P.elem T=e:=by simp[Program.elem,ck ht,hd]
 have hr:=run_slice_l (P:=P) w T (some ⟨bl,0,none⟩) l c (by rw[ck ht,hd,hel]) k0 (o:Int) (by omega) (by omega);have hsz:=aR he w;refine⟨.slice (some ⟨bl,o,none⟩) (l-o) (c-o),w,R,?_,Seal.le_refl R,a7.2 ⟨rfl,rfl⟩,hm⟩;simp only[execOp,(a7.1 (hf _ _ hx)).1,Option.map_some,Option.map_none,aq.1 (hf _ _ hy),Sem.run_bind,run_sliceAt_slice w T _ _ _ _ (show P.underlying T=some (.slice (P.elem T)) by rw[ck ht,hd,hel]),hr,hel,hsz,Result.andThen_ok,Sem.run_pure];simp only[sliced,Int.toNat_natCast];rw[if_neg (by omega)];simp[hs,Addr.add];by_cases h0:o=0
 ·simp[h0]
 ·simp[h0]
end
end
section
def jx (s:List UInt8)(i:Nat):AVal:=byteA (s.getD i 0)
structure R7 (F:UInt8->List UInt8) (ks:List UInt8) (cs:List AVal):Prop where
 yes:∀c,c∈ks->cs[c.toNat]? =some (.list 1 2 (jx (F c)))/\(F c).length=2
 no:∀c,c∉ks->cs[c.toNat]? =some (.raw (.slice none 0 0))/\F c=[c]
 last:cs[256]? =some (.list 1 ks.length (λi=>.str [ks.getD i 0]))
 nd:ks.Nodup
def oS (ks:List UInt8)(s:List UInt8)(i:Nat):Nat:=s.countP λc=>decide (c∈ks.take i)
theorem UI (ks s:List UInt8):oS ks s 0=0:=by simp[oS]
theorem Ky {ks s:List UInt8}{i:Nat}(hi:i<ks.length)(hn:ks.Nodup):oS ks s (i+1)=oS ks s i+s.countP (· ==ks.getD i 0):=by
 have hx:ks[i]∉ks.take i:=by
  intro h;obtain⟨j,hj,he⟩:=List.getElem_of_mem h;rw[List.getElem_take] at he;have hj2:j<i:=by rw[List.length_take] at hj;omega
  exact List.pairwise_iff_getElem.1 hn j i (by omega) hi hj2 he
 have e:∀c:UInt8,c∈ks.take (i+1)↔c∈ks.take i\/c=ks[i]:=λc=>by rw[List.take_succ_eq_append_getElem hi,List.mem_append,List.mem_singleton]
 unfold oS;rw[List.getD_eq_getElem?_getD,List.getElem?_eq_getElem hi,Option.getD_some];induction s with
 |nil=>rfl
 |cons c s ih=>
  rw[List.countP_cons,List.countP_cons,List.countP_cons,ih];by_cases h1:c=ks[i]
  ·subst h1;have h2:=(e ks[i]).2 (.inr rfl);simp only[h2,hx,decide_true,decide_false,if_true,Bool.false_eq_true,if_false,beq_self_eq_true];omega
  ·by_cases h2:c∈ks.take i
   ·have h3:=(e c).2 (.inl h2);have h4:(c==ks[i])=false:=by simpa using h1
    simp only[h2,h3,h4,decide_true,if_true,Bool.false_eq_true,if_false];omega
   ·have h3:¬c∈ks.take (i+1):=λh=>((e c).1 h).elim h2 h1;have h4:(c==ks[i])=false:=by simpa using h1
    simp only[h2,h3,h4,decide_false,Bool.false_eq_true,if_false];omega
section
variable {F:UInt8->List UInt8} {ks:List UInt8} {cs:List AVal}
theorem UK (h:R7 F ks cs)(s:List UInt8):(s.flatMap F).length=s.length+s.countP λc=>decide (c∈ks):=by
 induction s with
 |nil=>rfl
 |cons c s ih=>
  rw[List.flatMap_cons,List.length_append,ih,List.countP_cons,List.length_cons];by_cases hc:c∈ks
  ·rw[(h.yes c hc).2];simp[hc];omega
  ·rw[(h.no c hc).2];simp[hc];omega
theorem Ws (h:R7 F ks cs){s:List UInt8}(h0:(s.countP λc=>decide (c∈ks))=0):s.flatMap F=s:=by
 induction s with
 |nil=>rfl
 |cons c s ih=>
  rw[List.countP_cons] at h0;have hc:c∉ks:=λhc=>by simp[hc] at h0
  rw[List.flatMap_cons,(h.no c hc).2,ih (by omega)];rfl
theorem RL {s:List UInt8}{i:Nat}(h:i<s.length):(s.take (i+1)).flatMap F=(s.take i).flatMap F++F s[i]:=by
 rw[List.take_succ_eq_append_getElem h,List.flatMap_append,List.flatMap_singleton]
theorem UL {s:List UInt8}{i:Nat}(h:i<s.length):((s.take (i+1)).countP λc=>decide (c∈ks))=((s.take i).countP λc=>decide (c∈ks))+if s[i]∈ks then 1 else 0:=by
 rw[List.take_succ_eq_append_getElem h,List.countP_append,List.countP_singleton];simp
theorem SM {s:List UInt8}{i:Nat}:((s.take i).flatMap F).length+((s.drop i).flatMap F).length=(s.flatMap F).length:=by
 rw[<-List.length_append,<-List.flatMap_append,List.take_append_drop]
end
theorem MS.seal_buf {C:Ctx}{R:Seal}{w:World}{H:Heap}{b cap:Nat}{s:List UInt8}(h:MS C R (.buf b s cap::H) w):
  ∃R',R.le R'/\MS C R' H w/\bE R' (.list 1 s.length (jx s)) (.slice (some ⟨b,0,none⟩) s.length cap):=by
 obtain⟨hcap,Cs,e1,fz,hb,hrel,hfz⟩:=h.heap.holds _ (List.mem_cons_self ..);obtain⟨h1,h2⟩:=h.fixed (b:=b) rfl hb;refine⟨_,h2,h1,⟨⟨_,cap,rfl,hcap,.inr ⟨b,0,Cs,e1,fz,rfl,Seal.put_at _ _ _,λi hi=> ?_⟩⟩,rfl⟩⟩;have h3:=cZ 1 (dm i (dJ h2 _ _ hrel));have h4:((fA s cap).drop i).take 1=[jx s i]:=by
  unfold fA jx
  rw[List.drop_append_of_le_length (by simp;omega),List.take_append_of_le_length (by simp;omega),<-List.map_drop,<-List.map_take]
  rw[List.drop_eq_getElem_cons hi,List.take_succ_cons,List.take_zero,List.getD_eq_getElem?_getD,List.getElem?_eq_getElem hi]
  rfl
 rw[h4] at h3
 rw[Nat.zero_add,Nat.mul_one]
 obtain⟨v,t,e,hr,ht⟩:=h3
 have ht:t=[]:=ht
 rw[e,ht]
 exact hr
theorem ij {R:Seal}{p b:Nat}{eT:Option TypeId}{a a':AVal}{cs cs':List AVal}(h:cs.set p a'=cs')(hp:cs[p]? =some a)(ht:∀v,bh R a [v]->bh R a' [v]):mS R p a' (.cells b eT cs) (.cells b eT cs'):=h▸ .cells hp ht
section
variable {C:Ctx} {n:Nat} {e:Env} {h:Heap}
theorem kb {i k p b cap:Nat}{s:List UInt8}{x y:HEnt}(hi:h[i]? =some (.buf b s cap))(hk:(h.eraseIdx i)[k]? =some x)
  (hc:∀R,bE R (.list 1 s.length (jx s)) (.slice (some ⟨b,0,none⟩) s.length cap)->mS R p (.list 1 s.length (jx s)) x y):To C n e h e ((h.eraseIdx i).set k y):=λR a w hm hfs=>by
 obtain⟨R',hle,hm',hr⟩:=MS.seal_buf (hm.perm (fI hi));obtain⟨h1,h2⟩:=(hc R' hr).holds (hm'.heap.holds x (List.mem_of_getElem? hk));exact⟨R',hle,hm'.setEnt hk h2 h1,hfs.mono hle⟩
end
section
variable {P:Program} [Tab P] {C:Ctx} {n:Nat} {env:Env} {H:Heap} {Q:aQ->Env->Heap->Prop} {ops:Array Oper} {rest:List Oper} {G:Glo} {GL:List (Nat×List AVal)}
variable {d:Nat} {t:TypeId} {p:String} {af:Array Edge} {g:Option (Nat×Bool)} {b:Bool}
variable {x y:Operand} {T T2 e:TypeId} {xT xe:TI}
theorem JP {i bl o l c cap:Nat}{s s2:List UInt8}(hC:C.G=G)(hGL:ab G GL)(hx:ai env x=some (.own i (.slice (some ⟨bl,o,none⟩) l c)))(hy:ai env y=some (.list 1 s2.length (jx s2)))(h0:0<s2.length)
  (hi:H[i]? =some (.buf bl s cap)) (ho:o+s2.length<=s.length) (hl:s2.length<=l) (ht:bC P T=some xT) (hd:xT.desc= .slice e) (he:bC P e=some xe) (hs:xe.size=1)
  (hg:a8 ops env g=some (b,b)) (hdn:Nat.ble (d+1) n=true)
  (k:mw P C n G GL ops Q rest ((d,.int .i64 s2.length)::env) (H.set i (.buf bl (s.take o++s2++s.drop (o+s2.length)) cap))):
  uj P C n ops ({dst:=some d,op:=.call {callee:=.builtin .copy,args:=#[x,y],argTypes:=#[T,T2]},type:=t,pos:=p,after:=af,guard:=g}::rest) env H Q:=by
 refine⟨sT hg rfl hdn (av:=.int .i64 s2.length) (H':=H.set i (.buf bl (s.take o++s2++s.drop (o+s2.length)) cap)) (λR ρ w hm hf=> ?_) (eZ hC hGL _ _ _ k)⟩;obtain⟨hcap,Cs,e1,fz,hb,hrel,hfz⟩:=hm.heap.holds _ (List.mem_of_getElem? hi);obtain⟨a2,c2,hv2,hle2,hz⟩:=bA (hf _ _ hy) rfl;have hv2:ρ y= .slice a2 s2.length c2:=by simpa using hv2
 rcases hz with hz|⟨b2,o2,C2,e2,fz2,rfl,hR2,hin⟩
 ·omega
 have hb2:=hm.sealed _ _ hR2;have hlen:=aO hrel;have hown:(fA s cap).length=cap:=by simp[fA];omega
 rw[hown,Array.length_toList] at hlen;obtain⟨ti,hti,his,_,_,_⟩:=gR he;have hn1:(s2.map λc=>Value.int .u8 (c.toNat:Int)).length=s2.length:=by simp
 have hone:∀v∈s2.map (λc=>Value.int .u8 (c.toNat:Int)),v.oneCell'=true:=by
  intro v hv;obtain⟨c,_,rfl⟩:=List.mem_map.1 hv;rfl
 have hcell:∀j,j<(s2.map λc=>Value.int .u8 (c.toNat:Int)).length->(w.cell? ⟨bl,o+j,none⟩).isSome=true:=by
  intro j hj;rw[hn1] at hj;simp only[World.cell?,hb];simp;omega
 have hfro:∀j,j<(s2.map λc=>Value.int .u8 (c.toNat:Int)).length->w.frozen? ⟨bl,o+j,none⟩=false:=by
  intro j hj;rw[hn1] at hj;obtain⟨lo,hi'⟩:=fz;simp only[World.frozen?,hb,m7] at hfz ⊢;simp;omega
 have hsrc:∀j v,(s2.map λc=>Value.int .u8 (c.toNat:Int))[j]? =some v->w.cell? ((⟨b2,o2,none⟩:Addr).add j)=some v:=by
  intro j v hv;have hj2:j<s2.length:=by
   have:=(List.getElem?_eq_some_iff.1 hv).1;simpa using this
  rw[List.getElem?_map,List.getElem?_eq_getElem hj2] at hv;simp only[Option.map_some,Option.some.injEq] at hv;have hr:=hin j hj2;unfold jx at hr;rw[List.getD_eq_getElem?_getD,List.getElem?_eq_getElem hj2,Nat.mul_one] at hr;have hr:(C2.toList.drop (o2+j)).take 1=[Value.int .u8 (s2[j].toNat:Int)]:=hr;have hg2:C2.toList[o2+j]? =some (Value.int .u8 (s2[j].toNat:Int)):=by
   have h4:=congrArg (λl=>l[0]?) hr;simpa using h4
  subst hv;have hadd:(⟨b2,o2,none⟩:Addr).add j=⟨b2,o2+j,none⟩:=by
   simp only[Addr.add];by_cases h0:j=0
   ·simp[h0]
   ·simp[h0]
  rw[hadd];simp only[World.cell?,hb2];simpa using hg2
 have hr:=run_copy_cells (P:=P) w T T2 t e bl o l c ⟨b2,o2,none⟩ s2.length c2 _ (by rw[ck ht,hd]) (by rw[hti];simp[his,hs]) (by rw[hn1];exact(Nat.min_eq_left hl).symm) hsrc hcell hfro hone;have hrun:=CQ (ty:=t) (d:=d) (p:=p) (af:=af) (g:=g) (a7.1 (hf _ _ hx)).1 hv2 hr;obtain⟨w',hw',ho'⟩:=ez (P:=P) (s2.map λc=>Value.int .u8 (c.toNat:Int)) o 0 Cs w hb (by rw[hn1];omega) hfz (λu hu=>by
  obtain⟨c,_,rfl⟩:=List.mem_map.1 hu;exact⟨rfl,λa h=>by cases h⟩)
 have hst:=run_storeCells_cells (P:=P) bl o (s2.map λc=>Value.int .u8 (c.toNat:Int)) 0 w (by simpa using hcell) (by simpa using hfro) hone;rw[hst] at hw';simp only[Result.ok.injEq,true_and] at hw';simp only[Nat.add_zero] at hw' ho';refine⟨_,_,R,hrun,Seal.le_refl R,?_,?_⟩
 ·rw[hn1];exact aq.2 rfl
 ·rw[hw'];refine hm.write hi rfl ho' rfl ⟨?_,_,_,_,ho'.at_,?_,?_⟩
  ·simp only[List.length_append,List.length_take,List.length_drop];omega
  ·rw[ME ho hcap,hn1];exact cr (cr (cZ _ hrel) (pH R s2)) (dm _ hrel)
  ·have:((Cs.toList.take o++(s2.map λc=>Value.int .u8 (c.toNat:Int))++Cs.toList.drop (o+(s2.map λc=>Value.int .u8 (c.toNat:Int)).length)).toArray).size=Cs.size:=by
    simp only[List.size_toArray,List.length_append,List.length_take,List.length_drop,Array.length_toList,hn1];omega
   rw[this];exact hfz
end
end
section
theorem Wv (s:List UInt8){i:Nat}(h:i<s.length):aa s i=s[i].toNat:=by
 unfold aa;rw[List.getD_eq_getElem?_getD,List.getElem?_eq_getElem h];rfl
theorem Wx {A e:List UInt8}{N j:Nat}{c:UInt8}(hj:j=A.length)(h:A.length+e.length<=N):(A++List.replicate (N-A.length) c).take j++e++(A++List.replicate (N-A.length) c).drop (j+e.length)=A++e++List.replicate (N-(A++e).length) c:=by
 subst hj;rw[List.take_left,List.drop_append,List.drop_eq_nil_of_le (by omega),List.nil_append,List.drop_replicate,List.length_append];congr 2
 omega
theorem Ww {A:List UInt8}{N j:Nat}{c d:UInt8}(hj:j=A.length)(h:A.length<N):(A++List.replicate (N-A.length) c).set j d=A++[d]++List.replicate (N-(A++[d]).length) c:=by
 subst hj;rw[List.set_append_right _ _ (Nat.le_refl _),Nat.sub_self,show N-A.length=(N-(A++[d]).length)+1 by rw[List.length_append,List.length_singleton];omega,List.replicate_succ,List.set_cons_zero,List.append_assoc];rfl
attribute [local irreducible] bN aw aa aC bg ab ae
attribute [local irreducible] oS
theorem RK {G:Glo}{Fn:UInt8->List UInt8}{ks:List UInt8}{cs:List AVal}(hT:R7 Fn ks cs)(hk:ks.length<=100)(s:List UInt8)(hl:s.length<=2000000)(hct:∀c,aj prog G 209 [.str s,.str [c]] (.int .i64 (s.countP (· ==c):Nat))):
  aj prog G 333 [.rop cs 0,.str s] (.str (s.flatMap Fn)):=by
 have hL:=UK hT s;have hI:=λh=>Ws hT (s:=s) h;have hcn:=List.countP_le_length (p:=λc=>decide (c∈ks)) (l:=s);refine fN func333 call333 λC hC hGL=> ?_;refine cut hC hGL [(0,.rop cs 0),(1,.str s)] [] True cx λ_=> ?_;refine cut hC hGL [(0,.rop cs 0),(1,.str s),(5,.int .i64 (s.length:Nat))] [] True cx λ_=> ?_;refine cut hC hGL [(0,.rop cs 0),(1,.str s),(5,.int .i64 (s.length:Nat)),(6,.bool false)] [] True cx λ_=> ?_;refine yF (λ_:Unit=>[(0,.rop cs 0),(1,.str s),(5,.int .i64 ((s.flatMap Fn).length:Nat)),(6,.bool (decide ((s.countP λc=>decide (c∈ks))≠0)))]) (λ_=>[]) (λ_=>True) (am hC hGL ?_) ?_
 ·by_cases hc:(ks.length:Int)*8<=s.length
  ·refine az ?_;intros;erw[hT.last];refine az ?_;intros;erw[hT.last];refine az ?_;intros;refine lp hC hGL (λi:Nat=>[(0,.rop cs 0),(1,.str s),(5,.int .i64 ((s.length+oS ks s i:Nat):Int)),(6,.bool (decide (oS ks s i≠0))),(30,.list 1 ks.length (λi=>.str [ks.getD i 0])),(31,.int .i64 (ks.length:Nat)),(32,.int .i64 (i:Nat))]) (λ_=>[]) (λi=>i<=ks.length) (λi=>ks.length-i) 0 (Nat.zero_le _) (by rw[UI];exact ad) rfl ?_;intro i hi;by_cases hik:i<ks.length
   ·have hs:=Ky (s:=s) hik hT.nd;have hq:=hct (ks.getD i 0);have hmem:ks.getD i 0∈ks:=by rw[List.getD_eq_getElem?_getD,List.getElem?_eq_getElem hik];exact List.getElem_mem hik
    have hy:=(hT.yes _ hmem).1;have hy2:cs[0+0+aa [ks.getD i 0] 0*1]? =some (.list 1 2 (jx (Fn (ks.getD i 0)))):=by
     rw[show 0+0+aa [ks.getD i 0] 0*1=(ks.getD i 0).toNat by unfold aa;simp];exact hy
    have hle:s.countP (· ==ks.getD i 0)<=s.length:=List.countP_le_length;have hle2:oS ks s i<=s.length:=by unfold oS;exact List.countP_le_length
    generalize s.countP (· ==ks.getD i 0)=m at*
    by_cases hm:m=0
    ·subst hm;rw[Nat.add_zero] at hs;refine az ?_;intros;exact cJ (i+1) hik (by omega) (by rw[hs];exact ad) an
    ·refine az ?_;intros;refine cR mixed hC hGL true (λ_:Unit=>[(0,.rop cs 0),(1,.str s),(5,.int .i64 ((s.length+oS ks s (i+1):Nat):Int)),(30,.list 1 ks.length (λi=>.str [ks.getD i 0])),(31,.int .i64 (ks.length:Nat)),(32,.int .i64 (i:Nat))]) (λ_=>[]) (.t 0 (.t 1 (.t 2 (.t 3 (.t 4 (.t 5 (.t 6 (.t 7 (.t 8 (.t 9 (.t 10 (.t 11 (.t 12 (.t 13 .done)))))))))))))) (by kernel_rfl) ?_ ?_
     ·refine az ?_;intros;erw[hy2];refine az ?_;intros;refine⟨(),⟨rfl,rfl,?_,rfl,rfl,rfl,trivial⟩,rfl⟩;show some (AVal.int .i64 _)=some (AVal.int .i64 ((s.length+oS ks s (i+1):Nat):Int));congr 2
      rw[hs];show((s.length+oS ks s i:Nat):Int)+(m:Nat)*1=_;omega
     intro _;refine az ?_;intros;refine cJ (i+1) hik (by omega) ⟨rfl,rfl,rfl,?_,rfl,rfl,rfl,trivial⟩ an;show some (AVal.bool true)=some (AVal.bool (decide (oS ks s (i+1)≠0)));rw[decide_eq_true (by omega)]
   ·obtain rfl:i=ks.length:=by omega
    have e:oS ks s ks.length=s.countP λc=>decide (c∈ks):=by unfold oS;rw[List.take_length]
    rw[e];refine az ?_;intros;exact BY () trivial (cQ (by rw[hL];exact ad) an)
  ·refine az ?_;intros;erw[hT.last];refine az ?_;intros;refine lp hC hGL (λi:Nat=>[(0,.rop cs 0),(1,.str s),(5,.int .i64 ((s.length+(s.take i).countP (λc=>decide (c∈ks)):Nat):Int)),(6,.bool (decide ((s.take i).countP (λc=>decide (c∈ks))≠0))),(10,.int .i64 (i:Nat))]) (λ_=>[]) (λi=>i<=s.length) (λi=>s.length-i) 0 (Nat.zero_le _) ad rfl ?_;intro i hi;by_cases hik:i<s.length
   ·have hs:=UL (ks:=ks) hik;have hb:=Wv s hik;have hle:(s.take i).countP (λc=>decide (c∈ks))<=s.length:=Nat.le_trans List.countP_le_length (by rw[List.length_take];omega);generalize (s.take i).countP (λc=>decide (c∈ks))=m at*
    have ho:0+0+aa s i*1=(s[i]).toNat:=by rw[hb];omega
    by_cases hm:s[i]∈ks
    ·have hy2:cs[0+0+aa s i*1]? =some (.list 1 2 (jx (Fn s[i]))):=by rw[ho];exact(hT.yes _ hm).1
     rw[if_pos hm] at hs;refine az ?_;intros;erw[hy2];refine az ?_;intros;refine aP hC hGL (iH (m:=1) rfl rfl rfl) rfl rfl ?_;refine az ?_;intros;erw[hy2];refine az ?_;intros;refine cJ (i+1) hik (by omega) ⟨rfl,rfl,?_,?_,rfl,trivial⟩ an
     ·show some (AVal.int .i64 _)=some (AVal.int .i64 ((s.length+(s.take (i+1)).countP (λc=>decide (c∈ks)):Nat):Int));congr 2
      rw[hs];show((s.length+m:Nat):Int)+1=_;omega
     ·show some (AVal.bool true)=some (AVal.bool (decide ((s.take (i+1)).countP (λc=>decide (c∈ks))≠0)));rw[decide_eq_true (by omega)]
    ·have hy2:cs[0+0+aa s i*1]? =some (.raw (.slice none 0 0)):=by rw[ho];exact(hT.no _ hm).1
     rw[if_neg hm,Nat.add_zero] at hs;refine az ?_;intros;erw[hy2];refine az ?_;intros;exact cJ (i+1) hik (by omega) (by rw[hs];exact ad) an
   ·obtain rfl:i=s.length:=by omega
    rw[List.take_length];refine az ?_;intros;exact BY () trivial (cQ (by rw[hL];exact ad) an)
 intro _ _;by_cases h0:(s.countP λc=>decide (c∈ks))=0
 ·rw[hI h0,decide_eq_false (λh=>h h0)];exact am hC hGL cx
 rw[decide_eq_true h0];refine cut hC hGL [(0,.rop cs 0),(1,.str s),(5,.int .i64 ((s.flatMap Fn).length:Nat))] [] True cx λ_=> ?_;refine am hC hGL (az ?_);intros;have hN:(s.flatMap Fn).length<=4000000:=by omega
 refine on (m:=(s.flatMap Fn).length) (by assumption) hGL rfl rfl (by omega) rfl rfl rfl rfl rfl rfl rfl rfl (λbo=> ?_);refine az ?_;intros;refine lp hC hGL (λx:Nat×List UInt8=>[(0,.rop cs 0),(1,.str s),(12,.own 0 (.slice (some ⟨bo,0,none⟩) (s.flatMap Fn).length (s.flatMap Fn).length)),(13,.int .i64 (((s.take x.1).flatMap Fn).length:Nat)),(14,.int .i64 (x.1:Nat))]) (λx=>[.buf bo x.2 (s.flatMap Fn).length]) (λx=>x.1<=s.length/\x.2=(s.take x.1).flatMap Fn++List.replicate ((s.flatMap Fn).length-((s.take x.1).flatMap Fn).length) 0) (λx=>s.length-x.1) (0,List.replicate (s.flatMap Fn).length 0) ⟨Nat.zero_le _,rfl⟩ ad rfl ?_;rintro⟨i,t⟩ ⟨hi,ht⟩;have hi:i<=s.length:=hi;have ht:t=((s.take i).flatMap Fn)++List.replicate ((s.flatMap Fn).length-((s.take i).flatMap Fn).length) 0:=ht;dsimp only
 have e0:=SM (F:=Fn) (s:=s) (i:=i);have hl2:t.length=(s.flatMap Fn).length:=by rw[ht,List.length_append,List.length_replicate];omega
 by_cases hik:i<s.length;case neg=>
  obtain rfl:i=s.length:=by omega
  rw[List.take_length,Nat.sub_self,List.replicate_zero,List.append_nil] at ht;subst ht;exact cx
 have et:=RL (F:=Fn) hik;have e1:=SM (F:=Fn) (s:=s) (i:=i+1);have hb:=Wv s hik;have ho:0+0+aa s i*1=(s[i]).toNat:=by rw[hb];omega
 rw[et,List.length_append] at e1;by_cases hm:s[i]∈ks
 ·obtain⟨hy,h2⟩:=hT.yes _ hm;have hy2:cs[0+0+aa s i*1]? =some (.list 1 2 (jx (Fn s[i]))):=by rw[ho];exact hy
  rw[h2] at e1;refine az ?_;intros;erw[hy2];refine az ?_;intros;refine aP hC hGL (iH (m:=1) rfl rfl rfl) rfl rfl ?_;refine az ?_;intros;refine cR mixed hC hGL false (λ_:Unit=>[(0,.rop cs 0),(1,.str s),(12,.own 0 (.slice (some ⟨bo,0,none⟩) (s.flatMap Fn).length (s.flatMap Fn).length)),(13,.int .i64 ((((s.take i).flatMap Fn).length:Nat)+2)),(14,.int .i64 (i:Nat))]) (λ_=>[.buf bo (t.take ((s.take i).flatMap Fn).length++Fn s[i]++t.drop (((s.take i).flatMap Fn).length+(Fn s[i]).length)) (s.flatMap Fn).length]) (.t 0 (.t 1 (.t 2 (.t 4 (.t 5 (.t 6 (.t 7 (.t 8 (.t 9 (.b 3 (.b 10 (.t 11 (.t 12 .done))))))))))))) (by kernel_rfl) ?_ ?_
  ·refine az ?_;intros;erw[hy2];refine az ?_;intros;refine FR (i:=0) (o:=((s.take i).flatMap Fn).length) (l:=(s.flatMap Fn).length) (c:=(s.flatMap Fn).length) (by assumption) hGL rfl rfl (by omega) (by omega) rfl rfl rfl rfl rfl rfl ?_;refine az ?_;intros;refine JP (i:=0) (bl:=bo) (o:=((s.take i).flatMap Fn).length) (l:=(s.flatMap Fn).length-((s.take i).flatMap Fn).length) (s:=t) (s2:=Fn s[i]) (by assumption) hGL rfl (by rw[h2];rfl) (by omega) rfl (by omega) (by omega) rfl rfl rfl rfl rfl rfl ?_;rw[h2];refine az ?_;intros;exact⟨(),⟨rfl,rfl,rfl,rfl,rfl,trivial⟩,rfl⟩
  intro _;refine az ?_;intros;refine cJ (i+1,t.take ((s.take i).flatMap Fn).length++Fn s[i]++t.drop (((s.take i).flatMap Fn).length+(Fn s[i]).length)) ⟨hik,?_⟩ (by show s.length-(i+1)<s.length-i;omega) ⟨rfl,rfl,rfl,?_,rfl,trivial⟩ an
  ·show t.take ((s.take i).flatMap Fn).length++Fn s[i]++t.drop (((s.take i).flatMap Fn).length+(Fn s[i]).length)=(s.take (i+1)).flatMap Fn++List.replicate ((s.flatMap Fn).length-((s.take (i+1)).flatMap Fn).length) 0;rw[ht,et];exact Wx rfl (by omega)
  ·show some (AVal.int .i64 ((((s.take i).flatMap Fn).length:Nat)+2))=some (AVal.int .i64 (((s.take (i+1)).flatMap Fn).length:Nat));rw[et,List.length_append,h2];rfl
 ·obtain⟨hy,h2⟩:=hT.no _ hm;have hy2:cs[0+0+aa s i*1]? =some (.raw (.slice none 0 0)):=by rw[ho];exact hy
  rw[h2] at e1 et;rw[List.length_singleton] at e1;refine az ?_;intros;erw[hy2];have h7:((s.take i).flatMap Fn).length<t.length:=by omega
  refine az ?_;intros;refine cJ (i+1,t.set ((s.take i).flatMap Fn).length (UInt8.ofNat (aa s i))) ⟨hik,?_⟩ (by show s.length-(i+1)<s.length-i;omega) ⟨rfl,rfl,rfl,?_,rfl,trivial⟩ an
  ·show t.set ((s.take i).flatMap Fn).length (UInt8.ofNat (aa s i))=(s.take (i+1)).flatMap Fn++List.replicate ((s.flatMap Fn).length-((s.take (i+1)).flatMap Fn).length) 0;rw[ht,et,hb,UInt8.ofNat_toNat];exact Ww rfl (by omega)
  ·show some (AVal.int .i64 ((((s.take i).flatMap Fn).length:Nat)+1))=some (AVal.int .i64 (((s.take (i+1)).flatMap Fn).length:Nat));rw[et,List.length_append];rfl
end
section
theorem mj {P:Program}[Tab P]{G:Glo}{f:FuncId}{avs:List AVal}{b:Nat}{eT:Option TypeId}{cs cs':List AVal}{v:AVal}
  (hrun:∀R w Cs e fz args,w.heap[b]? =some (.cells Cs e fz)->ce R cs Cs.toList->m7 fz Cs.size->dv R avs args.toList->∃x w' Cs',(callFunc f args).run P w= .ok (.value x) w'/\bE R v x/\mR w b (.cells Cs' e fz) w'/\ce R cs' Cs'.toList/\Cs'.size=Cs.size):
  ae P G f avs [.cells b eT cs] (λr H=>r= .ret v/\H=[.cells b eT cs']):=by
 intro R w args hG hm ha;obtain⟨Cs,e,fz,hb,hl,hfz,het⟩:=hm.heap.holds _ (List.mem_cons_self ..);obtain⟨x,w',Cs',h1,h2,h3,h4,h5⟩:=hrun R w Cs e fz args hb hl hfz ha;refine .inr ⟨x,w',h1,.ret v,[.cells b eT cs'],R,⟨rfl,rfl⟩,⟨x,rfl,h2⟩,?_⟩;exact hm.write (i:=0) rfl rfl h3 rfl ⟨Cs',e,fz,h3.at_,h4,by rw[h5];exact hfz,het⟩
theorem Dk {w:World}{b:Nat}{o:Obj}(h:w.heap[b]? =some o):mR w b o w:=⟨rfl,rfl,rfl,rfl,h,λ_ _=>rfl⟩
theorem pK {w:World}{b off e:Nat}{Cs:Array Value}{fz:Nat×Nat}{v:Value}(h:w.heap[b]? =some (.cells Cs e fz))(ho:off<Cs.size):mR w b (.cells (Cs.setIfInBounds off v) e fz) (w.setCell ⟨b,off,none⟩ v):=by
 have hlt:b<w.heap.size:=by
  rcases Nat.lt_or_ge b w.heap.size with h1|h1
  ·exact h1
  ·simp[Array.getElem?_eq_none h1] at h
 refine⟨rfl,rfl,rfl,by simp[World.setCell],?_,λk hk=> ?_⟩
 ·simp only[World.setCell,Array.getElem?_modify,if_true,h,Option.map_some,Option.isSome_none,Bool.false_eq_true,if_false]
 ·simp only[World.setCell,Array.getElem?_modify]
  rw[if_neg (λe=>hk e.symm)]
theorem qB {R:Seal}{a:AVal}{v:Value}(ha:bh R a [v]):∀{cs:List AVal} {vs:List Value} {p:Nat},ce R cs vs->p<cs.length->ce R (cs.set p a) (vs.set p v)
 |[],_,_,_,h=>absurd h (Nat.not_lt_zero _)
 |c::cs,_,0,⟨u,t,rfl,h1,h2⟩,_=>⟨v,t,rfl,ha,h2⟩
 |c::cs,_,p+1,⟨u,t,rfl,h1,h2⟩,hp=>⟨u,_,rfl,h1,qB ha h2 (by simpa using hp)⟩
theorem WB {R:Seal}{v:Value}{args:Array Value}(h:dv R [.raw v] args.toList):args=#[v]:=by
 obtain⟨x,t,e,hx,rfl⟩:=h
 obtain rfl:=ar.1 (show bE R (.raw v) x from hx);exact Array.ext' e
theorem WA {R:Seal}{v:Value}{k:IntKind}{n:Int}{args:Array Value}(h:dv R [.raw v,.int k n] args.toList):args=#[v,.int k n]:=by
 obtain⟨x,t,e,hx,y,t2,rfl,hy,rfl⟩:=h;obtain rfl:=ar.1 (show bE R (.raw v) x from hx);obtain rfl:=aq.1 (show bE R (.int k n) y from hy);exact Array.ext' e
theorem W9 {R:Seal}{v:Value}{k k2:IntKind}{n m:Int}{args:Array Value}(h:dv R [.raw v,.int k n,.int k2 m] args.toList):args=#[v,.int k n,.int k2 m]:=by
 obtain⟨x,t,e,hx,y,t2,rfl,hy,z,t3,rfl,hz,rfl⟩:=h;obtain rfl:=ar.1 (show bE R (.raw v) x from hx);obtain rfl:=aq.1 (show bE R (.int k n) y from hy);obtain rfl:=aq.1 (show bE R (.int k2 m) z from hz);exact Array.ext' e
section
variable {G:Glo} {b off:Nat} {eT:Option TypeId} {cs:List AVal}
abbrev pv (b off:Nat):Value:=.pointer (some ⟨b,off,none⟩)
theorem rq {R:Seal}{w:World}{Cs:Array Value}{e:Nat}{fz:Nat×Nat}{k:IntKind}{n:Int}(hb:w.heap[b]? =some (.cells Cs e fz))(hl:ce R cs Cs.toList)(hc:cs[off]? =some (.int k n)):w.cell? ⟨b,off,none⟩=some (.int k n)/\off<Cs.size:=by
 obtain⟨v,hv,hr⟩:=eD hl hc;simp only[bh,List.cons.injEq,and_true] at hr;subst hr;refine⟨by simp only[World.cell?,hb];simpa using hv,?_⟩;have:=(List.getElem?_eq_some_iff.1 hv).1
 simpa using this
theorem pM {w:World}{Cs:Array Value}{e:Nat}{fz:Nat×Nat}(hb:w.heap[b]? =some (.cells Cs e fz))(hfz:m7 fz Cs.size)(ho:off<Cs.size):w.frozen? ⟨b,off,none⟩=false:=by
 obtain⟨lo,hi⟩:=fz;simp only[World.frozen?,hb,m7] at hfz ⊢;simp;omega
theorem RV {n:Int}(hc:cs[off]? =some (.int .u32 n)):ae prog G 251 [.raw (pv b off)] [.cells b eT cs] (λr H=>r= .ret (.int .u32 n)/\H=[.cells b eT cs]):=by
 refine mj λR w Cs e fz args hb hl hfz ha=> ?_;obtain rfl:=WB ha;obtain⟨h1,_⟩:=rq hb hl hc;exact⟨_,_,Cs,run_call_load func251 (by kernel_rfl) (by kernel_rfl) (by kernel_rfl) .u32 (by kernel_rfl) h1,aq.2 rfl,Dk hb,hl,rfl⟩
theorem O5 {n y:Int}(hc:cs[off]? =some (.int .u32 n)):ae prog G 264 [.raw (pv b off),.int .u32 y] [.cells b eT cs] (λr H=>r= .ret (.tuple [])/\H=[.cells b eT (cs.set off (.int .u32 y))]):=by
 refine mj λR w Cs e fz args hb hl hfz ha=> ?_;obtain rfl:=WA ha;obtain⟨h1,ho⟩:=rq hb hl hc;have hlen:=aO hl;rw[Array.length_toList] at hlen;refine⟨_,_,Cs.setIfInBounds off (.int .u32 y),run_call_store func264 (by kernel_rfl) (by kernel_rfl) (by kernel_rfl) (by kernel_rfl) h1 (pM hb hfz ho),⟨⟨#[],rfl,rfl⟩,rfl⟩,pK hb ho,?_,by simp⟩;rw[Array.toList_setIfInBounds];exact qB (show bh R (.int .u32 y) [.int .u32 y] from rfl) hl (by omega)
theorem UU {n y:Int}(hc:cs[off]? =some (.int .i32 n)):ae prog G 271 [.raw (pv b off),.int .i32 n,.int .i32 y] [.cells b eT cs] (λr H=>r= .ret (.bool true)/\H=[.cells b eT (cs.set off (.int .i32 y))]):=by
 refine mj λR w Cs e fz args hb hl hfz ha=> ?_;obtain rfl:=W9 ha;obtain⟨h1,ho⟩:=rq hb hl hc;have hlen:=aO hl;rw[Array.length_toList] at hlen;refine⟨_,_,Cs.setIfInBounds off (.int .i32 y),run_call_cas_hit func271 (by kernel_rfl) (by kernel_rfl) (by kernel_rfl) .i32 (by kernel_rfl) h1 (pM hb hfz ho),aW.2 rfl,pK hb ho,?_,by simp⟩;rw[Array.toList_setIfInBounds];exact qB (show bh R (.int .i32 y) [.int .i32 y] from rfl) hl (by omega)
theorem UT (hc:cs[off]? =some (.int .i32 1)):ae prog G 276 [.raw (pv b off),.int .i32 (-1)] [.cells b eT cs] (λr H=>r= .ret (.int .i32 0)/\H=[.cells b eT (cs.set off (.int .i32 0))]):=by
 refine mj λR w Cs e fz args hb hl hfz ha=> ?_;obtain rfl:=WA ha;obtain⟨h1,ho⟩:=rq hb hl hc;have hlen:=aO hl;rw[Array.length_toList] at hlen;refine⟨_,_,Cs.setIfInBounds off (.int .i32 0),run_call_add func276 (by kernel_rfl) (by kernel_rfl) (by kernel_rfl) .i32 (by kernel_rfl) (s:=0) h1 (pM hb hfz ho) (by simp[go_sem];rfl),aq.2 rfl,pK hb ho,?_,by simp⟩;rw[Array.toList_setIfInBounds];exact qB (show bh R (.int .i32 0) [.int .i32 0] from rfl) hl (by omega)
end
end
end Go.Proofs.YtpgdnpielhfpgaaGreatDoor
