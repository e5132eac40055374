/- Parts of the proof of canonItems_card. -/
import Derived.Laws.StructEq
import Derived.Test.YtmdhmodenkjmdaaGreatDoorBai
set_option linter.unusedVariables false
set_option linter.unusedSimpArgs false
set_option linter.unusedSectionVars false
namespace Go.Proofs.YtmdhmodenkjmdaaGreatDoor
open Go Go.RowKit
open Tryz
set_option maxRecDepth 20000
set_option maxHeartbeats 4000000
section
attribute [local irreducible] bI ap aa az aW ab ad
attribute [local irreducible] lR dR fp isS gc dJ
theorem mD {G:Glo}(s:List UInt8)(hl:s.length<=9223372036854775807):an prog G 136 [.str s] (.bool (dR false s)):=by
 have hB:=Ce (G:=G) s hl;have k1:=λi (_:0<=(aa s i:Int))=>vW (G:=G) (aa s i);refine aw func136 call136 λC hC hGL=> ?_;refine aZ ?_;refine lp hC hGL (λi:Nat=>[(0,.str s),(5,.int .i64 (s.length:Nat)),(6,.int .i64 (i:Nat))]) (λ_=>[]) (λi=>i<=s.length/\∀j,j<i->lR false (aa s j:Int)=false) (λi=>s.length-i) 0 ?_ ai rfl ?_
 ·exact⟨Nat.zero_le _,λj h=>absurd h (Nat.not_lt_zero _)⟩
 rintro i ⟨h1,h2⟩;refine xw ?_;repeat' first|exact .n|apply Lc.mk
 all_goals intros
 all_goals first
  |(apply aj;rw[Ht (i:=i) (by omega) (by assumption) h2];rfl)
  |(refine db (i+1) ⟨by omega,cB h2 (by assumption)⟩ (by omega) ai rfl)
  |(apply aj;rw[C9 (i:=i) (by omega) h2])
theorem mE {G:Glo}(s:List UInt8)(c:Bool)(hl:s.length<=2000000):an prog G 135 [.str s,.bool c] (.bool (gc c s)):=by
 have hq:=λt=>bB (G:=G) t 34 (by decide) (by decide);cases c with
 |true=>
  have hE:=nL (G:=G) s hl (lJ _);have hC1:=mD (G:=G) (dJ s) (by have:=(nG s).2;omega);have hq1:=hq (dJ s);have e:gc true s=(dR false (dJ s)&&decide (bQ (dJ s) 34<0)):=by unfold gc mN;rfl
  rw[e];refine aw func135 call135 λC hC hGL=> ?_;refine xw ?_;repeat' first|exact .n|apply Lc.mk
  all_goals intros
  all_goals (apply aj;refine congrArg AVal.bool ?_;rw[show dR false (dJ s)=_ by assumption])
  all_goals (rw[Bool.eq_iff_iff];simp[mf])
 |false=>
  have hC1:=mD (G:=G) s (by omega);have hq1:=hq s;have e:gc false s=(dR false s&&decide (bQ s 34<0)):=by unfold gc mN;rfl
  rw[e];refine aw func135 call135 λC hC hGL=> ?_;refine xw ?_;repeat' first|exact .n|apply Lc.mk
  all_goals intros
  all_goals (apply aj;refine congrArg AVal.bool ?_;rw[show dR false s=_ by assumption])
  all_goals (rw[Bool.eq_iff_iff];simp[mf])
theorem rn {G:Glo}(p:Ln)(c:Bool)(ho:p.Fit):an prog G 85 [p.A,.bool c] (p.E c).A:=by
  have n1:=np (G:=G) p.n (by have:=ho.n;omega);have n2:=np (G:=G) p.g (by have:=ho.g;omega);have hv:=mD (G:=G) p.v (by have:=ho.v;omega);have hps:=ho.ps;refine aw func85 call85 λC hC hGL=> ?_;refine xw ?_;repeat' first|exact .n|apply Lc.mk
  all_goals intros
  all_goals try (apply aj;first|(rw[Ln.E_5 (.inl (by assumption))];rfl)|(rw[Ln.E_5 (.inr ⟨by assumption,by assumption⟩)];rfl)|(rw[Ln.E_4 (by assumption) (.inl (by assumption)) (by omega)];rfl)|(rw[Ln.E_4 (by assumption) (.inr (by assumption)) (by omega)];rfl))
  all_goals
    have q1:isS p.n=true:=by assumption
    have q2:p.g.length=0\/isS p.g=true:=by first|exact .inl (by assumption)|exact .inr (by assumption)
    have q3:p.ps.length<=20:=by omega
    refine lp hC hGL (λk:Nat=>[(1,.bool c),(2,.rop [.str p.g,.str p.n,.list 2 p.ps.length (dM p.ps),.str p.v] 0),(34,.list 2 p.ps.length (dM p.ps)),(35,.int .i64 (p.ps.length:Nat)),(36,.int .i64 (k:Nat))]) (λ_=>[]) (λk=>k<=p.ps.length/\∀j,j<k->oA c (p.ps.getD j Pr.z)=0) (λk=>p.ps.length-k) 0 ?_ ai rfl ?_
    · exact⟨Nat.zero_le _,λj h=>absurd h (Nat.not_lt_zero _)⟩
    rintro k ⟨h1,h2⟩;have hq:=ho.q k;have n3:=np (G:=G) (p.ps.getD k Pr.z).n (by omega);by_cases hk:k<p.ps.length
    · cases hn:isS (p.ps.getD k Pr.z).n with
      | false=>
        rw[hn] at n3;refine xw ?_;repeat' first|exact .n|apply Lc.mk
        all_goals intros
        · refine lp hC hGL (λx:Nat×Int=>[(1,.bool c),(2,.rop [.str p.g,.str p.n,.list 2 p.ps.length (dM p.ps),.str p.v] 0),(5,.int .i64 (k:Nat)),(7,.int .i64 x.2),(34,.list 2 p.ps.length (dM p.ps)),(35,.int .i64 (p.ps.length:Nat)),(36,.int .i64 (k:Nat)),(52,.list 1 (p.ps.getD k Pr.z).vs.length (aE (p.ps.getD k Pr.z).vs)),(53,.int .i64 ((p.ps.getD k Pr.z).vs.length:Nat)),(54,.int .i64 (x.1:Nat))]) (λ_=>[.cells _ (some 64) [.str (p.ps.getD k Pr.z).n,.list 1 (p.ps.getD k Pr.z).vs.length (aE (p.ps.getD k Pr.z).vs)]]) (λx=>x.1<=(p.ps.getD k Pr.z).vs.length/\IR c (p.ps.getD k Pr.z) x.1 x.2) (λx=>(p.ps.getD k Pr.z).vs.length-x.1) (0,5) ?_ ai rfl ?_
          · exact⟨Nat.zero_le _,.inl ⟨hn,rfl⟩⟩
          rintro⟨j,e⟩ ⟨g1,g2⟩;dsimp only at g1 g2;have hj:=mE (G:=G) ((p.ps.getD k Pr.z).vs.getD j []) c (by have:=cR (l:=(p.ps.getD k Pr.z).vs) (k:=j);omega);refine xw ?_;repeat' first|exact .n|apply Lc.mk
          all_goals intros
          all_goals try dsimp only at*
          all_goals first
            |exact db (j+1,e) ⟨by dsimp only;omega,qW g2 (by assumption)⟩ (by dsimp only;omega) ai rfl
            |exact db (j+1,e) ⟨by dsimp only;omega,AX g2 (by assumption) (by assumption)⟩ (by dsimp only;omega) ai rfl
            |exact db (j+1,3) ⟨by dsimp only;omega,vK g2 (by assumption) (by omega) (by assumption)⟩ (by dsimp only;omega) ai rfl
            |exact eg (k+1) ⟨by omega,dl h2 ((lr g2 (by omega)).symm.trans (by assumption))⟩ (by omega) ai aH
            | (apply aj
               have e1:=lr g2 (by omega)
               rw[Ln.E_at q1 q2 q3 (by omega) h2 (by rw[<-e1];assumption),<-e1]
               rfl)
      | true=>
        rw[hn] at n3;by_cases hz:(p.ps.getD k Pr.z).vs.length=0
        · refine xw ?_;repeat' first|exact .n|apply Lc.mk
          all_goals intros
          · refine lp hC hGL (λx:Nat×Int=>[(1,.bool c),(2,.rop [.str p.g,.str p.n,.list 2 p.ps.length (dM p.ps),.str p.v] 0),(5,.int .i64 (k:Nat)),(7,.int .i64 x.2),(34,.list 2 p.ps.length (dM p.ps)),(35,.int .i64 (p.ps.length:Nat)),(36,.int .i64 (k:Nat)),(52,.list 1 (p.ps.getD k Pr.z).vs.length (aE (p.ps.getD k Pr.z).vs)),(53,.int .i64 ((p.ps.getD k Pr.z).vs.length:Nat)),(54,.int .i64 (x.1:Nat))]) (λ_=>[.cells _ (some 64) [.str (p.ps.getD k Pr.z).n,.list 1 (p.ps.getD k Pr.z).vs.length (aE (p.ps.getD k Pr.z).vs)]]) (λx=>x.1<=(p.ps.getD k Pr.z).vs.length/\IR c (p.ps.getD k Pr.z) x.1 x.2) (λx=>(p.ps.getD k Pr.z).vs.length-x.1) (0,8) ?_ ai rfl ?_
            · exact⟨Nat.zero_le _,.inr (.inl ⟨hn,hz,rfl⟩)⟩
            rintro⟨j,e⟩ ⟨g1,g2⟩;dsimp only at g1 g2;have hj:=mE (G:=G) ((p.ps.getD k Pr.z).vs.getD j []) c (by have:=cR (l:=(p.ps.getD k Pr.z).vs) (k:=j);omega);refine xw ?_;repeat' first|exact .n|apply Lc.mk
            all_goals intros
            all_goals try dsimp only at*
            all_goals first
              |exact db (j+1,e) ⟨by dsimp only;omega,qW g2 (by assumption)⟩ (by dsimp only;omega) ai rfl
              |exact db (j+1,e) ⟨by dsimp only;omega,AX g2 (by assumption) (by assumption)⟩ (by dsimp only;omega) ai rfl
              |exact db (j+1,3) ⟨by dsimp only;omega,vK g2 (by assumption) (by omega) (by assumption)⟩ (by dsimp only;omega) ai rfl
              |exact eg (k+1) ⟨by omega,dl h2 ((lr g2 (by omega)).symm.trans (by assumption))⟩ (by omega) ai aH
              | (apply aj
                 have e1:=lr g2 (by omega)
                 rw[Ln.E_at q1 q2 q3 (by omega) h2 (by rw[<-e1];assumption),<-e1]
                 rfl)
        · refine xw ?_;repeat' first|exact .n|apply Lc.mk
          all_goals intros
          · refine lp hC hGL (λx:Nat×Int=>[(1,.bool c),(2,.rop [.str p.g,.str p.n,.list 2 p.ps.length (dM p.ps),.str p.v] 0),(5,.int .i64 (k:Nat)),(7,.int .i64 x.2),(34,.list 2 p.ps.length (dM p.ps)),(35,.int .i64 (p.ps.length:Nat)),(36,.int .i64 (k:Nat)),(52,.list 1 (p.ps.getD k Pr.z).vs.length (aE (p.ps.getD k Pr.z).vs)),(53,.int .i64 ((p.ps.getD k Pr.z).vs.length:Nat)),(54,.int .i64 (x.1:Nat))]) (λ_=>[.cells _ (some 64) [.str (p.ps.getD k Pr.z).n,.list 1 (p.ps.getD k Pr.z).vs.length (aE (p.ps.getD k Pr.z).vs)]]) (λx=>x.1<=(p.ps.getD k Pr.z).vs.length/\IR c (p.ps.getD k Pr.z) x.1 x.2) (λx=>(p.ps.getD k Pr.z).vs.length-x.1) (0,0) ?_ ai rfl ?_
            · exact⟨Nat.zero_le _,.inr (.inr ⟨hn,hz,.inl ⟨rfl,λi hi=>absurd hi (Nat.not_lt_zero _)⟩⟩)⟩
            rintro⟨j,e⟩ ⟨g1,g2⟩;dsimp only at g1 g2;have hj:=mE (G:=G) ((p.ps.getD k Pr.z).vs.getD j []) c (by have:=cR (l:=(p.ps.getD k Pr.z).vs) (k:=j);omega);refine xw ?_;repeat' first|exact .n|apply Lc.mk
            all_goals intros
            all_goals try dsimp only at*
            all_goals first
              |exact db (j+1,e) ⟨by dsimp only;omega,qW g2 (by assumption)⟩ (by dsimp only;omega) ai rfl
              |exact db (j+1,e) ⟨by dsimp only;omega,AX g2 (by assumption) (by assumption)⟩ (by dsimp only;omega) ai rfl
              |exact db (j+1,3) ⟨by dsimp only;omega,vK g2 (by assumption) (by omega) (by assumption)⟩ (by dsimp only;omega) ai rfl
              |exact eg (k+1) ⟨by omega,dl h2 ((lr g2 (by omega)).symm.trans (by assumption))⟩ (by omega) ai aH
              | (apply aj
                 have e1:=lr g2 (by omega)
                 rw[Ln.E_at q1 q2 q3 (by omega) h2 (by rw[<-e1];assumption),<-e1]
                 rfl)
    · refine xw ?_;repeat' first|exact .n|apply Lc.mk
      all_goals intros
      all_goals (apply aj;first|(rw[Ln.E_3 q1 q2 q3 (by omega) h2 (by assumption)];rfl)|(rw[Ln.E_0 q1 q2 q3 (by omega) h2 (by assumption)];rfl))
end
section
theorem EK {a b c:UInt8}(r:Int):(0<=bQ [a,b,c] r↔∃x∈[a,b,c],r=x.toNat):=by
 unfold bQ;simp only[j8,List.mem_cons,List.not_mem_nil,or_false,exists_eq_or_imp,exists_eq_left];split
 ·omega
 ·split
  ·omega
  ·split<;>omega
end
section
def IP (G:Glo)(cs:List UInt8):Prop:=∀r:Int,lO r=true->∃z:Int,an prog G 205 [.str cs,.int .i32 r] (.int .i64 z)/\(0<=z↔∃x∈cs,r=x.toNat)
theorem v8 {cs:List UInt8}(x:UInt8):cs.contains x=true↔∃y∈cs,(x.toNat:Int)=y.toNat:=by
 rw[List.contains_iff_exists_mem_beq];exact⟨λ⟨y,h,e⟩=>⟨y,h,by rw[beq_iff_eq.1 e]⟩,λ⟨y,h,e⟩=>⟨y,h,beq_iff_eq.2 (UInt8.toNat_inj.1 (by omega))⟩⟩
theorem JT {cs:List UInt8}{x:UInt8}(h:¬ ∃y∈cs,(x.toNat:Int)=y.toNat):cs.contains x=false:=by
 cases hc:cs.contains x with
 |false=>rfl
 |true=>exact absurd ((v8 x).1 hc) h
theorem EU {r:Int}(h1:128<=r)(hv:lO r=true):(∃x y:UInt8,(Utf8.encode r).data.toList=[x,y]/\128<=y.toNat)\/(∃x y z:UInt8,(Utf8.encode r).data.toList=[x,y,z]/\128<=z.toNat)\/(∃x y z u:UInt8,(Utf8.encode r).data.toList=[x,y,z,u]/\128<=u.toNat):=by
 rw[mC] at hv;rw[J7 hv];have hb:∀k:Nat,128<=((UInt8.ofNat (128+k%64)).toNat):=by
  intro k;have e:128+k%64<256:=by omega
  rw[UInt8.toNat_ofNat_of_lt' (by simpa using e)];omega
 split
 ·omega
 ·split
  ·exact .inl ⟨_,_,rfl,hb _⟩
  ·split
   ·exact .inr (.inl ⟨_,_,_,rfl,hb _⟩)
   ·exact .inr (.inr ⟨_,_,_,_,rfl,hb _⟩)
theorem fM {a b c:UInt8}:aa [a,b,c] 0=a.toNat/\aa [a,b,c] 1=b.toNat/\aa [a,b,c] 2=c.toNat:=⟨rfl,rfl,rfl⟩
attribute [local irreducible] bI ap aa az aW ab ad
attribute [local irreducible] aA fp gt dO ga dQ lO
theorem Cw {a b c x y:UInt8}{p:Prop}(hb:b.toNat<128)(hc:c.toNat<128)(hy:128<=y.toNat)(h:(aa [a,b,c] 1:Int)=(aa [x,y] 1:Int)):p:=by
 rw[fM.2.1,Lw] at h;omega
theorem xX {a b c x y z:UInt8}{p:Prop}(hb:b.toNat<128)(hc:c.toNat<128)(hy:128<=z.toNat)(h:(aa [a,b,c] 2:Int)=(aa [x,y,z] 2:Int)):p:=by
 rw[fM.2.2,fM.2.2] at h;omega
theorem sW {G:Glo}{a b c:UInt8}(ha:a.toNat<128)(hb':b.toNat<128)(hc':c.toNat<128)(r:Int)(h1:128<=r)(hv:lO r=true)(hne:r≠65533):an prog G 205 [.str [a,b,c],.int .i32 r] (.int .i64 (-1)):=by
 have hV:=z7 (G:=G) r;rw[hv] at hV;obtain⟨g0,g1,g2⟩:=fM (a:=a) (b:=b) (c:=c);have hix:∀q:Int,128<=q->q<=255->an prog G 55 [.str [c],.int .u8 q] (.int .i64 (-1)):=λq h0 h1=>by
  have:=bB (G:=G) [c] q (by omega) h1;rwa [show bQ [c] q= -1 by unfold bQ;simp only[j8];split<;>omega] at this
 have hix0:∀q:Int,0<=q->q<=255->an prog G 55 [.str [],.int .u8 q] (.int .i64 (-1)):=λq h0 h1=>bB [] q h0 h1;have hcall:=call55;rcases EU h1 hv with⟨x,y,he,hy⟩|⟨x,y,z,he,hy⟩|⟨x,y,z,u,he,hy⟩
 ·have f1:aa [x,y] 1=y.toNat:=Lw;have e1:aa [a,b,c] ([x,y].length-Nat.succ 0)=b.toNat:=fM.2.1;have e2:aa [x,y] ([x,y].length-Nat.succ 0)=y.toNat:=Lw;have f2:=hix (aa [x,y] 1) (by omega) (by have:=bG [x,y] 1;omega);refine aw func205 call205 λC hC hGL=> ?_;refine aZ ?_;intros;apply kW hC hGL;refine aZ ?_;intros;refine aO hC hGL (vp rfl rfl rfl rfl) rfl rfl ?_;rw[he];refine aZ ?_;intros;refine ja hC hGL 1 ?_;refine xw ?_;repeat' first|exact .n|apply Lc.mk
  all_goals intros
  all_goals first|(rename_i hb;exact Cw hb' hc' hy hb)|skip
  apply kW hC hGL;refine xw ?_;repeat' first|exact .n|apply Lc.mk
  all_goals intros
  all_goals first|(rename_i hb;exact Cw hb' hc' hy hb)|skip
 ·have f1:aa [x,y,z] 2=z.toNat:=fM.2.2;have e1:aa [a,b,c] ([x,y,z].length-Nat.succ 0)=c.toNat:=fM.2.2;have e2:aa [x,y,z] ([x,y,z].length-Nat.succ 0)=z.toNat:=fM.2.2;have f2:=hix0 (aa [x,y,z] 2) (by omega) (by have:=bG [x,y,z] 2;omega);refine aw func205 call205 λC hC hGL=> ?_;refine aZ ?_;intros;apply kW hC hGL;refine aZ ?_;intros;refine aO hC hGL (vp rfl rfl rfl rfl) rfl rfl ?_;rw[he];refine aZ ?_;intros;refine ja hC hGL 1 ?_;refine xw ?_;repeat' first|exact .n|apply Lc.mk
  all_goals intros
  all_goals first|(rename_i hb;exact xX hb' hc' hy hb)|skip
  apply kW hC hGL;refine xw ?_;repeat' first|exact .n|apply Lc.mk
  all_goals intros
  all_goals first|(rename_i hb;exact xX hb' hc' hy hb)|skip
 ·refine aw func205 call205 λC hC hGL=> ?_;refine aZ ?_;intros;apply kW hC hGL;refine aZ ?_;intros;refine aO hC hGL (vp rfl rfl rfl rfl) rfl rfl ?_;rw[he];refine aZ ?_;intros;refine ja hC hGL 1 ?_;exact bK
theorem rG {G:Glo}{a b c:UInt8}(ha:a.toNat<128)(hb':b.toNat<128)(hc':c.toNat<128):an prog G 205 [.str [a,b,c],.int .i32 65533] (.int .i64 (-1)):=by
 refine aw func205 call205 λC hC hGL=> ?_;refine aZ ?_;intros;refine ja hC hGL 4 ?_;refine xw ?_;repeat' first|exact .n|apply Lc.mk
 all_goals intros
 all_goals (
  exfalso
  have f1:=AJ (x:=a) (t:=[b,c]) ha
  have f2:=AJ (x:=b) (t:=[c]) hb'
  have f3:=AJ (x:=c) (t:=[]) hc'
  simp only[List.drop_zero,f1,f2,f3,Nat.zero_add,List.drop_succ_cons,List.length_cons,List.length_nil] at*
  omega)
theorem sV {G:Glo}{a b c:UInt8}(r:Int)(h0:0<=r)(h1:r<128):an prog G 205 [.str [a,b,c],.int .i32 r] (.int .i64 (bQ [a,b,c] r)):=by
 refine aw func205 call205 λC hC hGL=> ?_;have hI:=bB (G:=G) [a,b,c] r h0 (by omega);exact bK
theorem Fs {G:Glo}{a b c:UInt8}(ha:a.toNat<128)(hb':b.toNat<128)(hc':c.toNat<128):IP G [a,b,c]:=by
 intro r hv;have hm:=hv;rw[mC] at hm;have key:128<=r->¬ ∃x∈[a,b,c],r=x.toNat:=by
  rintro h ⟨x,hx,e⟩;simp only[List.mem_cons,List.not_mem_nil,or_false] at hx;rcases hx with rfl|rfl|rfl<;>omega
 by_cases h1:r<128
 ·exact⟨_,sV r hm.1 h1,EK r⟩
 ·by_cases h2:r=65533
  ·subst h2;exact⟨-1,rG ha hb' hc',by omega,λh=>absurd h (key (by omega))⟩
  ·exact⟨-1,sW ha hb' hc' r (by omega) hv h2,by omega,λh=>absurd h (key (by omega))⟩
theorem pI {G:Glo}{cs:List UInt8}(hA:IP G cs)(hlo:∀c∈cs,c.toNat<128)(hc2:2<=cs.length)(hc9:cs.length<=1000)(s:List UInt8)(hl:s.length<=8):an prog G 155 [.str s,.str cs] (.int .i64 (Lib.indexAny s cs)):=by
 refine aw func155 call155 λC hC hGL=> ?_;have hS:=Ax (G:=G) s.length;repeat' (first|(conv=>whnf);first|refine .w ?_|refine .v ?_|refine bu ?_ ?_<;>(intro hb;try exact dd hb)|apply au|apply aM|(apply a6<;>intro hb)|(apply ba;intro hbd)|(apply aJ;exact hS)|(apply ax (i:=0) rfl;exact hS)|(apply bc;intro bl)|(apply bh;intro va vk vc hva)|(apply bg;intro v)|(apply bj;intro bl cap hcap)|apply bx|(apply bf<;>intro hnx)|apply ct mixed hC hGL (by kernel_rfl)|(apply cq;assumption;exact hS;exact rfl)|(show Rt _ _ _;exact a7)|fail)
 all_goals try conv=>whnf
 refine lp hC hGL (λ(i:Nat)=>[(1,.str cs),(45,.own 0 (.pointer (some ⟨bl,0,none⟩)))]) (λi=>[.iter bl s i]) (λi=>i<=s.length/\Lib.NoAny s cs i) (λi=>s.length-i) 0 ?_ ai rfl ?_
 ·exact⟨Nat.zero_le _,Lib.NoAny.zero _ _⟩
 rintro i ⟨hi,hno⟩;have hz:=λ(h:i<s.length)=>D3 (s.drop i) (by rw[List.length_drop];omega);have hR:∃z:Int,i<s.length->an prog G 205 [.str cs,.int .i32 (ga (s.drop i))] (.int .i64 z)/\(0<=z↔∃x∈cs,(ga (s.drop i):Int)=x.toNat):=by
  by_cases h:i<s.length
  ·obtain⟨z,h1,h2⟩:=hA (ga (s.drop i)) (hz h).1;exact⟨z,λ_=>⟨h1,h2⟩⟩
  ·exact⟨0,λh'=>absurd h' h⟩
 obtain⟨z,hR⟩:=hR;repeat' (first|(conv=>whnf);first|refine .w ?_|refine .v ?_|refine bu ?_ ?_<;>(intro hb;try exact dd hb)|apply au|apply aM|(apply a6<;>intro hb)|(apply ba;intro hbd)|(apply aJ;first|exact(hR (by omega)).1)|(apply ax (i:=0) rfl;first|exact(hR (by omega)).1)|(apply bc;intro bl)|(apply bh;intro va vk vc hva)|(apply bg;intro v)|(apply bj;intro bl cap hcap)|apply bx|(apply bf<;>intro hnx)|apply ct mixed hC hGL (by kernel_rfl)|(apply cq;assumption;(first|exact(hR (by omega)).1);exact rfl)|(show Rt _ _ _;exact a7)|fail)
 all_goals try conv=>whnf
 ·obtain⟨z1,z2,z3,z4,z5⟩:=hz hnx;obtain⟨y,hy,hr⟩:=(hR hnx).2.1 hb;have hy':=hlo y hy;have h1:=z4 (by omega);have hx:s[i]? =some s[i]:=List.getElem?_eq_getElem hnx;have h2:=eq hx;rw[dC,Nat.add_zero] at h1;refine aj ?_;rw[Lib.indexAny_hit hno hx ((v8 _).2 ⟨y,hy,by omega⟩)]
 ·obtain⟨z1,z2,z3,z4,z5⟩:=hz hnx;rw[List.length_drop] at z3;have hr:¬ ∃x∈cs,(ga (s.drop i):Int)=x.toNat:=λh=>by have:=(hR hnx).2.2 h;omega
  refine db (i+dO (s.drop i)) ⟨by omega,?_⟩ (by omega) ⟨rfl,rfl,trivial⟩ rfl;intro j x hj hx;by_cases h:j<i
  ·exact hno j x h hx
  ·have h2:=eq hx;refine JT λ⟨y,hy,e⟩=> ?_;have hy':=hlo y hy;by_cases h128:(ga (s.drop i):Int)<128
   ·have h3:=z4 h128;rw[dC,Nat.add_zero] at h3;have:j=i:=by omega
    subst this;exact hr ⟨y,hy,by omega⟩
   ·have h3:=z5 (by omega) (j-i) (by omega);rw[dC,show i+(j-i)=j by omega] at h3;omega
 ·have:i=s.length:=by omega
  subst this;refine aj ?_;rw[Lib.indexAny_none hno];rfl
theorem rH {G:Glo}{cs:List UInt8}(hlo:∀c∈cs,c.toNat<128)(hc2:2<=cs.length)(hc9:cs.length<=1000)(s:List UInt8)(h8:8<s.length)(hl:s.length<4294967281):an prog G 155 [.str s,.str cs] (.int .i64 (Lib.indexAny s cs)):=by
 refine cj rfl call155 ?_;rintro R args ⟨x,t,e,hx,y,t',e',hy,rfl⟩ w _ _;obtain rfl:=aF.1 hx;obtain rfl:=aF.1 hy;subst e';obtain rfl:=dN e;refine(strings_IndexAny_long (λw=>by kernel_rfl) ⟨s.toArray⟩ ⟨cs.toArray⟩ w (by rw[bT];omega) (by rw[bT];exact h8) (by rw[bT];omega) (by rw[bT];omega) ?_).mono ?_
 ·intro j x hx;exact hlo x (List.mem_of_getElem? (by simpa using hx))
 ·rintro e w' ⟨rfl,rfl⟩;exact⟨by simp[AVal.conc],((Below.refl w.heap.size w).alloc (Nat.le_refl _) _).alloc (by show w.heap.size<=(w.heap.push _).size;simp) _⟩
theorem Bj {G:Glo}{cs:List UInt8}(hA:IP G cs)(hlo:∀c∈cs,c.toNat<128)(hc2:2<=cs.length)(hc9:cs.length<=1000)(s:List UInt8)(hl:s.length<4294967281):an prog G 155 [.str s,.str cs] (.int .i64 (Lib.indexAny s cs)):=by
 by_cases h:s.length<=8
 ·exact pI hA hlo hc2 hc9 s h
 ·exact rH hlo hc2 hc9 s (by omega) hl
end
section
theorem rO {c:Bool}:∀{l:List Pr} {i:Nat},gM c l i= .none->∀q∈l,oA c q=0
 |[],_,_,q,h=>by cases h
 |x::l,i,h,q,hq=>by
  simp only[gM] at h;split at h
  ·rename_i h0;rcases List.mem_cons.1 hq with rfl|hq
   ·exact h0
   ·exact rO h q hq
  ·cases h
theorem Ln.E_inv {c:Bool}{p:Ln}(h:p.E c= .none):p.ps.length<=20/\∀k,k<p.ps.length->(p.ps.getD k Pr.z).vs.length≠0:=by
 unfold Ln.E at h;split at h
 ·cases h
 ·split at h
  ·cases h
  ·refine⟨by omega,λk hk h0=> ?_⟩;have hf:gM c p.ps 0= .none:=by
    cases hf:gM c p.ps 0 with
    |none=>rfl
    |errno e=>rw[hf] at h;cases h
    | «at» e q=>rw[hf] at h;cases h
   have h1:=rO hf (p.ps.getD k Pr.z) (by rw[List.getD_eq_getElem?_getD,List.getElem?_eq_getElem hk];exact List.getElem_mem hk);cases hn:isS (p.ps.getD k Pr.z).n with
   |false=>rw[yv hn] at h1;cases h1
   |true=>rw[CI hn h0] at h1;cases h1
theorem Kw {P:Program}[Tab P]{C:Ctx}{n:Nat}{env:Env}{H:Heap}{Q:aK->Env->Heap->Prop}{c:Code}(i:Nat){b:Nat}(hi:H[i]? =some (.cells b (some 150) [.raw (.pointer none),.raw (.slice none 0 0)]))
  (h:bI P C n c env (H.set i (cE b (.pointer none) H.length (.slice none 0 0))++[eX (.slice none 0 0) []]) Q):bI P C n c env H Q:=by
 refine nP (eT:=some 5) 1 ?_;unfold bI at h ⊢;intro R a w hm hf;obtain⟨Cs,e,fz,hb,hl,hr⟩:=hm.heap.holds (.cells b (some 150) [.raw (.pointer none),.raw (.slice none 0 0)]) (List.mem_cons_of_mem _ (List.mem_of_getElem? hi));obtain⟨v1,t1,e1,r1,v2,t2,e2,r2,e3⟩:=hl;have r2':aV R (.own H.length (.slice none 0 0)) [v2]:=by
  have:v2= .slice none 0 0:=by simpa[aV,Value.cells] using r2
  subst this;simp[aV,cm]
 have h1:=hm.swap (i:=i+1) (x:=.cells b (some 150) [.raw (.pointer none),.raw (.slice none 0 0)]) (y:=cE b (.pointer none) H.length (.slice none 0 0)) (by rw[List.getElem?_cons_succ];exact hi) rfl
  ⟨Cs,e,fz,hb,⟨v1,t1,e1,r1,v2,t2,e2,r2',e3⟩,hr⟩
 rw[List.set_cons_succ] at h1;exact h R a w (h1.perm (List.perm_append_singleton _ _).symm) hf
theorem KF {s:List UInt8}:0<=Lib.indexAny s [44,59,58]↔0<=fP nf s:=by
 have key:∀x:UInt8,([44,59,58]:List UInt8).contains x=nf (x.toNat:Int):=by
  intro x;unfold nf;rw[Bool.eq_iff_iff,v8,decide_eq_true_eq];simp only[List.mem_cons,List.not_mem_nil,or_false,exists_eq_or_imp,exists_eq_left];exact Iff.rfl
 rcases jM nf s with⟨h1,h2⟩|⟨m,h1,h2,h3,h4⟩
 ·rw[Lib.indexAny_none (λj x hj hx=>by
   rw[key,eq hx];exact h2 j hj),h1]
 ·have hx:s[m]? =some s[m]:=List.getElem?_eq_getElem h1;rw[Lib.indexAny_hit (i:=m) (λj x hj hx=>by
   rw[key,eq hx];exact h4 j hj) hx (by rw[key,eq hx];exact h3),h2]
attribute [local irreducible] bI ap aa az aW ab ad
attribute [local irreducible] lR dR fp isS gc dJ dH tj mb kL mN
theorem wy {G:Glo}(s:List UInt8)(hl:s.length<=4000000):an prog G 95 [.str s,.str [44,59,58]] (.bool (decide (0<=fP nf s))):=by
 have hI:=Bj (G:=G) (cs:=[44,59,58]) (Fs (by decide) (by decide) (by decide)) (by decide) (by decide) (by decide) s (by omega);refine aw func95 call95 λC hC hGL=> ?_;refine aZ ?_;apply aj;refine congrArg AVal.bool ?_;rw[Bool.eq_iff_iff];simp only[Bool.not_eq_true',jU,decide_eq_true_eq,KF]
theorem NC {c:Bool}{s:List UInt8}(h:decide (0<=fP nf (mN c s))=true):dH c s=34::mN c s++[34]:=by
 unfold dH;rw[if_neg (by have:=of_decide_eq_true h;omega)]
theorem ND {c:Bool}{s:List UInt8}(h:decide (0<=fP nf (mN c s))=false):dH c s=mN c s:=by
 unfold dH;rw[if_pos (by have:=of_decide_eq_false h;omega)]
theorem KW (s:List UInt8):mN true s=dJ s:=by unfold mN;rfl
theorem KX (s:List UInt8):mN false s=s:=by unfold mN;rfl
theorem Ou {c:Bool}{vs:List (List UInt8)}{j:Nat}(hj:j<vs.length)(h:(j:Int)=0)(t:List UInt8):t++tj c vs (j+1)=t++tj c vs j++[61]++dH c (vs.getD j []):=by
 rw[xg hj,if_pos (by omega)];simp only[List.append_assoc]
theorem Ot {c:Bool}{vs:List (List UInt8)}{j:Nat}(hj:j<vs.length)(h:(j:Int)≠0)(t:List UInt8):t++tj c vs (j+1)=t++tj c vs j++[44]++dH c (vs.getD j []):=by
 rw[xg hj,if_neg (by omega)];simp only[List.append_assoc]
theorem ro {G:Glo}(p:Ln)(c:Bool)(ho:p.Fit):an prog G 40 [p.A,.bool c] (.tuple [.str (p.T c),(p.E c).A]):=by
  have h0:=rn (G:=G) p c ho;rcases hq:p.E c with _|e|⟨e,i⟩
  case errno=>
    rw[hq] at h0;rw[show p.T c=[] by unfold Ln.T;rw[hq]];refine aw func40 call40 λC hC hGL=> ?_;exact bK
  case «at» =>
    rw[hq] at h0;rw[show p.T c=[] by unfold Ln.T;rw[hq]];refine aw func40 call40 λC hC hGL=> ?_;exact bK
  rw[hq] at h0;rw[show p.T c=p.txt c by unfold Ln.T;rw[hq],Ci];obtain⟨i1,i2⟩:=Ln.E_inv hq;have o1:=ho.g;have o2:=ho.n;have o3:=ho.v;have o4:∀k,k<=p.ps.length->(mb c p.ps k).length<=20*6600002:=λk hk=>by
    have h1:=vJ (N:=1100000) (c:=c) (λk=>⟨(ho.q k).1,by have:=(ho.q k).2.1;omega,by have:=(ho.q k).2.2;omega⟩) k hk;rw[show 2+6*1100000=6600002 by decide] at h1;have h2:=Nat.mul_le_mul_right 6600002 (show k<=20 by omega);exact Nat.le_trans h1 h2
  have hd1:p.g.length≠0->p.g++[46]++p.n=kL p:=λh=>by unfold kL;rw[if_neg h]
  have hd0:p.g.length=0->p.n=kL p:=λh=>by unfold kL;rw[if_pos h]
  have hdl:(kL p).length<=2200001:=by
    unfold kL;split
    · omega
    · simp only[List.length_append,List.length_cons,List.length_nil];omega
  refine jZ func40 call40 λC hC hGL=> ?_;refine cut hC hGL [(1,.bool c),(2,.rop [.str p.g,.str p.n,.list 2 p.ps.length (dM p.ps),.str p.v] 0)] [] True ?_ λ_=> ?_
  · exact bK
  refine cut hC hGL [(1,.bool c),(2,.rop [.str p.g,.str p.n,.list 2 p.ps.length (dM p.ps),.str p.v] 0)] [] True ?_ λ_=> ?_
  · exact bK
  refine ka hC hGL (λbl:Nat=>[(1,.bool c),(2,.rop [.str p.g,.str p.n,.list 2 p.ps.length (dM p.ps),.str p.v] 0),(7,.own 0 (cS bl))]) (λbl=>[.cells bl (some 150) [.raw (.pointer none),.raw (.slice none 0 0)]]) (λ_=>True) ?_ λbl _=> ?_
  · refine aZ ?_;intro bl;exact cy bl trivial
  refine Kw 0 rfl ?_;refine ka hC hGL (λx:Value×Value×List UInt8=>[(1,.bool c),(2,.rop [.str p.g,.str p.n,.list 2 p.ps.length (dM p.ps),.str p.v] 0),(7,.own 0 (cS bl))]) (λx=>[cE bl x.1 1 x.2.1,eX x.2.1 x.2.2]) (λx=>B9 bl x.1/\x.2.2.length<=1100001/\x.2.2++p.n=kL p) ?_ λx hx=> ?_
  · refine xw ?_;repeat' first|exact .n|apply Lc.mk
    all_goals intros
    · apply jR (i:=0) (j:=1) rfl rfl (by decide) (ce (.inl rfl) _ [] (p.g++[46]) (by simp only[List.length_append,List.length_cons,List.length_nil];omega));intro ua uk uc;refine aZ ?_;exact cy (cS bl,.slice ua uk uc,[]++(p.g++[46])) ⟨.inr rfl,by simp only[List.length_append,List.length_cons,List.length_nil];omega,by rw[List.nil_append];exact hd1 (by assumption)⟩
    · exact cy (.pointer none,.slice none 0 0,[]) ⟨.inl rfl,by simp,by rw[List.nil_append];exact hd0 (by assumption)⟩
  obtain⟨pa,va,tx⟩:=x;obtain⟨hp,hlx,htx⟩:=hx;dsimp only at hp hlx htx;refine ka hC hGL (λx:Value=>[(1,.bool c),(2,.rop [.str p.g,.str p.n,.list 2 p.ps.length (dM p.ps),.str p.v] 0),(7,.own 0 (cS bl))]) (λx=>[cE bl (cS bl) 1 x,eX x (kL p++mb c p.ps 0)]) (λx=>True) ?_ λvb _=> ?_
  · refine aZ ?_;apply jR (i:=0) (j:=1) rfl rfl (by decide) (ce hp va tx p.n (by omega));intro ua uk uc;rw[htx.trans (show kL p=kL p++mb c p.ps 0 by rw[show mb c p.ps 0=[] by unfold mb;rfl,List.append_nil])];refine aZ ?_;exact cy (.slice ua uk uc) trivial
  clear htx hp hlx;refine aI hC hGL ?_;refine aZ ?_;refine lp hC hGL (λx:Nat×Value=>[(1,.bool c),(2,.rop [.str p.g,.str p.n,.list 2 p.ps.length (dM p.ps),.str p.v] 0),(7,.own 0 (cS bl)),(29,.list 2 p.ps.length (dM p.ps)),(30,.int .i64 (p.ps.length:Nat)),(31,.int .i64 (x.1:Nat))]) (λx=>[cE bl (cS bl) 1 x.2,eX x.2 (kL p++mb c p.ps x.1)]) (λx=>x.1<=p.ps.length) (λx=>p.ps.length-x.1) (0,vb) ?_ ai rfl ?_
  · exact Nat.zero_le _
  rintro⟨k,v⟩ h1;dsimp only at h1;have ol:=o4 k h1;have hqk:=ho.q k;refine xn ?_;repeat' first|exact .n|apply Lc.mk
  all_goals intros
  · rename_i b9 hkl;dsimp only at hkl;have hk:k<p.ps.length:=by omega
    apply jR (i:=0) (j:=1) rfl rfl (by decide) (ce (.inr rfl) v (kL p++mb c p.ps k) ([59]++(p.ps.getD k Pr.z).n) (by simp only[List.length_append,List.length_cons,List.length_nil];omega));intro ua uk uc;generalize hX:kL p++mb c p.ps k++([59]++(p.ps.getD k Pr.z).n)=X;have hXl:X.length<=210000000:=by
      rw[<-hX];simp only[List.length_append,List.length_cons,List.length_nil];omega
    refine aZ ?_;refine lp hC hGL (λx:Nat×Value=>[(1,.bool c),(2,.rop [.str p.g,.str p.n,.list 2 p.ps.length (dM p.ps),.str p.v] 0),(7,.own 0 (cS bl)),(29,.list 2 p.ps.length (dM p.ps)),(30,.int .i64 (p.ps.length:Nat)),(31,.int .i64 (k:Nat)),(40,.list 1 (p.ps.getD k Pr.z).vs.length (aE (p.ps.getD k Pr.z).vs)),(41,.int .i64 ((p.ps.getD k Pr.z).vs.length:Nat)),(42,.int .i64 (x.1:Nat))]) (λx=>[cE bl (cS bl) 1 x.2,eX x.2 (X++tj c (p.ps.getD k Pr.z).vs x.1),.cells b9 (some 64) [.str (p.ps.getD k Pr.z).n,.list 1 (p.ps.getD k Pr.z).vs.length (aE (p.ps.getD k Pr.z).vs)]]) (λx=>x.1<=(p.ps.getD k Pr.z).vs.length) (λx=>(p.ps.getD k Pr.z).vs.length-x.1) (0,.slice ua uk uc) ?_ ai ?_ ?_
    · exact Nat.zero_le _
    · dsimp only
      rw[show tj c (p.ps.getD k Pr.z).vs 0=[] by unfold tj;rfl,List.append_nil]
    rintro⟨j,u⟩ g1;dsimp only at g1;have hvl:=IW c (p.ps.getD k Pr.z).vs j;have hj1:=cR (l:=(p.ps.getD k Pr.z).vs) (k:=j);have hel:=wr c ((p.ps.getD k Pr.z).vs.getD j []);have hql:=yp c ((p.ps.getD k Pr.z).vs.getD j []);have hE:=nL (G:=G) ((p.ps.getD k Pr.z).vs.getD j []) (by omega) (lJ _);have hQ:=wy (G:=G) (mN c ((p.ps.getD k Pr.z).vs.getD j [])) (by omega);have hY:=NC (c:=c) (s:=(p.ps.getD k Pr.z).vs.getD j []);have hN:=ND (c:=c) (s:=(p.ps.getD k Pr.z).vs.getD j []);have hv0:=λ(hj:j<(p.ps.getD k Pr.z).vs.length) (h:(j:Int)=0)=>Ou (c:=c) hj h X;have hv1:=λ(hj:j<(p.ps.getD k Pr.z).vs.length) (h:(j:Int)≠0)=>Ot (c:=c) hj h X;refine xw ?_;repeat' first|exact .n|apply Lc.mk
    all_goals intros
    all_goals first
      | (have hj0:=hv0 (by omega) (by assumption)
         apply jR (i:=0) (j:=1) rfl rfl (by decide) (ce (.inr rfl) u (X++tj c (p.ps.getD k Pr.z).vs j) [61] (by simp only[List.length_append,List.length_cons,List.length_nil];omega))
         intro xa xk xc
         cases c
         all_goals
           simp only[KW,KX] at hQ hY hN hel;refine xw ?_;repeat' first|exact .n|apply Lc.mk
           all_goals intros
           all_goals
             first
             | (have hy:=hY (by assumption)
                apply jR (i:=0) (j:=1) rfl rfl (by decide) (ce (.inr rfl) (.slice xa xk xc) _ _ (by rw[hy] at hql;simp only[List.length_append,List.length_cons,List.length_nil] at*;omega))
                intro ya yk yc
                refine aZ ?_
                refine eg (j+1,.slice ya yk yc) (by dsimp only;omega) (by dsimp only;omega) ai ?_
                dsimp only
                rw[hj0,hy]
                exact aH)
             | (have hy:=hN (by assumption)
                apply jR (i:=0) (j:=1) rfl rfl (by decide) (ce (.inr rfl) (.slice xa xk xc) _ _ (by simp only[List.length_append,List.length_cons,List.length_nil] at*;omega))
                intro ya yk yc
                refine aZ ?_
                refine eg (j+1,.slice ya yk yc) (by dsimp only;omega) (by dsimp only;omega) ai ?_
                dsimp only
                rw[hj0,hy]
                exact aH))
      | (have hj1:=hv1 (by omega) (by assumption)
         apply jR (i:=0) (j:=1) rfl rfl (by decide) (ce (.inr rfl) u (X++tj c (p.ps.getD k Pr.z).vs j) [44] (by simp only[List.length_append,List.length_cons,List.length_nil];omega))
         intro xa xk xc
         cases c
         all_goals
           simp only[KW,KX] at hQ hY hN hel;refine xw ?_;repeat' first|exact .n|apply Lc.mk
           all_goals intros
           all_goals
             first
             | (have hy:=hY (by assumption)
                apply jR (i:=0) (j:=1) rfl rfl (by decide) (ce (.inr rfl) (.slice xa xk xc) _ _ (by rw[hy] at hql;simp only[List.length_append,List.length_cons,List.length_nil] at*;omega))
                intro ya yk yc
                refine aZ ?_
                refine eg (j+1,.slice ya yk yc) (by dsimp only;omega) (by dsimp only;omega) ai ?_
                dsimp only
                rw[hj1,hy]
                exact aH)
             | (have hy:=hN (by assumption)
                apply jR (i:=0) (j:=1) rfl rfl (by decide) (ce (.inr rfl) (.slice xa xk xc) _ _ (by simp only[List.length_append,List.length_cons,List.length_nil] at*;omega))
                intro ya yk yc
                refine aZ ?_
                refine eg (j+1,.slice ya yk yc) (by dsimp only;omega) (by dsimp only;omega) ai ?_
                dsimp only
                rw[hj1,hy]
                exact aH))
      | (have hj9:(p.ps.getD k Pr.z).vs.length=j:=by omega
         refine eg (k+1,u) (by dsimp only;omega) (by dsimp only;omega) ai ?_
         dsimp only
         rw[show kL p++mb c p.ps (k+1)=X++tj c (p.ps.getD k Pr.z).vs j by
           rw[qV hk,IX (i2 k hk),<-hX,hj9];simp only[List.append_assoc,List.cons_append,List.nil_append]]
         exact aH)
  · have hkk:k=p.ps.length:=by dsimp only at*;omega
    subst hkk;refine dz mixed hC hGL false (λ(_:Unit)=>[(4,.str (kL p++mb c p.ps p.ps.length++[58]++p.v)),(5,.raw .nilIface)]) (λ_=>[eE,eE]) (.t 2 (.t 3 (.b 0 (.t 1 (.t 4 (.t 5 (.t 6 .done))))))) (by kernel_rfl) ?_ ?_
    · refine aT ?_;intro C hC;refine MP (i:=0) (j:=1) rfl rfl (by decide) (sg (kL p++mb c p.ps p.ps.length) (by rw[List.length_append];omega)) ?_;have hlen:(kL p++mb c p.ps p.ps.length).length<=200000000:=by rw[List.length_append];omega
      refine xn ?_;repeat' first|exact .n|apply Lc.mk
      all_goals intros
      all_goals exact⟨(),⟨rfl,rfl,trivial⟩,rfl⟩
    · intro _;exact ez
end
section
theorem BC {s:List UInt8}{i:Nat}(h:i<s.length):dJ (s.take (i+1))=dJ (s.take i)++encF s[i]:=by
 rw[List.take_succ_eq_append_getElem h,HM];simp[dJ]
theorem Lr {c:UInt8}{k:Nat}(hk:k<256)(h:c.toNat=k):c=UInt8.ofNat k:=by
 rw[<-h,UInt8.ofNat_toNat]
attribute [local irreducible] bI ap aa az aW ab ad
attribute [local irreducible] encF dJ
theorem qQ {G:Glo}(s:List UInt8)(hl:s.length<=2000000):an prog G 82 [.str s] (.str (dJ s)):=by
 refine aw func82 call82 λC hC hGL=> ?_;refine aZ ?_
 intro bl cap hcap
 intros
 refine lp hC hGL (λi:Nat=>[(3,.str (dJ (s.take i))),(7,.own 0 (.slice (some ⟨bl,0,none⟩) s.length cap)),(8,.int .i64 (s.length:Nat)),(9,.int .i64 (i:Nat))]) (λ_=>[.buf bl s cap]) (λi=>i<=s.length) (λi=>s.length-i) 0 (Nat.zero_le _) ⟨?_,rfl,rfl,rfl,trivial⟩ rfl ?_
 ·show some (AVal.str [])=some (AVal.str (dJ (s.take 0)))
  rw[List.take_zero,HK]
 ·intro i hi
  have e1:=(nG (s.take i)).2
  rw[List.length_take,Nat.min_eq_left hi] at e1
  by_cases hlt:i<s.length
  ·have et:=BC hlt
   have hb0:=wB hlt
   have hby:=bG s i
   rcases(show aa s i=94\/aa s i=10\/aa s i=34\/(aa s i≠94/\aa s i≠10/\aa s i≠34) by omega) with hk|hk|hk|⟨k1,k2,k3⟩
   ·have he:encF s[i]=[94,94]:=by rw[Lr (by decide) (hb0.symm.trans hk)];exact MG
    refine aZ ?_
    intros
    refine db (i+1) ?_ ?_ ⟨?_,rfl,rfl,rfl,trivial⟩ rfl
    ·exact hlt
    ·show s.length-(i+1)<s.length-i;omega
    ·rw[et,he];rfl
   ·have he:encF s[i]=[94,110]:=by rw[Lr (by decide) (hb0.symm.trans hk)];exact MI
    refine aZ ?_
    intros
    refine db (i+1) ?_ ?_ ⟨?_,rfl,rfl,rfl,trivial⟩ rfl
    ·exact hlt
    ·show s.length-(i+1)<s.length-i;omega
    ·rw[et,he];rfl
   ·have he:encF s[i]=[94,39]:=by rw[Lr (by decide) (hb0.symm.trans hk)];exact MH
    refine aZ ?_
    intros
    refine db (i+1) ?_ ?_ ⟨?_,rfl,rfl,rfl,trivial⟩ rfl
    ·exact hlt
    ·show s.length-(i+1)<s.length-i;omega
    ·rw[et,he];rfl
   ·have he:encF s[i]=bw [(aa s i:Int)]:=by
     rw[zn (by rw[<-hb0];exact k1) (by rw[<-hb0];exact k2) (by rw[<-hb0];exact k3),hb0]
     simp[bw]
    refine aZ ?_
    intros
    refine aO hC hGL (cb [(aa s i:Int)] rfl (by intro v hv;simp only[List.mem_cons,List.not_mem_nil,or_false] at hv;omega) rfl rfl rfl rfl rfl rfl) rfl rfl ?_
    have hl9:(bw [(aa s i:Int)]).length=1:=rfl
    refine aZ ?_
    intros
    refine db (i+1) ?_ ?_ ⟨?_,rfl,rfl,rfl,trivial⟩ rfl
    ·exact hlt
    ·show s.length-(i+1)<s.length-i;omega
    ·rw[et,he];rfl
  ·have h9:dJ (s.take i)=dJ s:=by rw[List.take_of_length_le (by omega)]
   refine aZ ?_
   intros
   apply aj
   rw[h9]
end
section
theorem y5 (c:UInt8):∀(l:List UInt8) (k:Nat),(0<=j8 (c.toNat:Int) l k/\c∈l)\/(j8 (c.toNat:Int) l k<0/\c∉l)
 |[],k=>.inr ⟨by simp[j8],by simp⟩
 |x::t,k=>by
  unfold j8;by_cases h:(x.toNat:Int)=c.toNat
  ·have:x=c:=UInt8.toNat_inj.1 (by omega);rw[if_pos h];exact .inl ⟨by omega,by simp[this]⟩
  ·have hne:c≠x:=λe=>h (by rw[e]);rw[if_neg h];rcases y5 c t (k+1) with⟨h1,h2⟩|⟨h1,h2⟩
   ·exact .inl ⟨h1,List.mem_cons_of_mem _ h2⟩
   ·exact .inr ⟨h1,λh3=>(List.mem_cons.1 h3).elim hne h2⟩
theorem Ho {s:List UInt8}{c:UInt8}:0<=bQ s (c.toNat:Int)↔c∈s:=by
 unfold bQ;rcases y5 c s 0 with⟨h1,h2⟩|⟨h1,h2⟩
 ·exact⟨λ_=>h2,λ_=>h1⟩
 ·exact⟨λh=>by omega,λh=>absurd h h2⟩
theorem EH {s:List UInt8}{c:UInt8}:0<=Lib.indexByte s c↔c∈s:=by
 induction s with
 |nil=>simp[Lib.indexByte]
 |cons x t ih=>
  have hge:=Lib.indexByte_ge t c;unfold Lib.indexByte;by_cases h:(x==c)=true
  ·rw[if_pos h];have:=beq_iff_eq.1 h;simp[this]
  ·rw[if_neg h];have hn:c≠x:=λe=>h (beq_iff_eq.2 e.symm);simp only[List.mem_cons,hn,false_or];rw[<-ih];split
   ·rename_i h2;have:=beq_iff_eq.1 h2;omega
   ·rename_i h2;have:Lib.indexByte t c≠ -1:=λe=>h2 (beq_iff_eq.2 e);omega
attribute [local irreducible] bI ap aa az aW ab ad
attribute [local irreducible] lR dR fp isS gc dJ bQ
theorem kV {G:Glo}(s:List UInt8):an prog G 71 [.str s,.str [34]] (.bool (decide (0<=bQ s 34))):=by
 refine cj rfl call71 ?_;rintro R args ⟨x,t,e,hx,y,t',e',hy,rfl⟩ w hG hs;obtain rfl:=aF.1 hx;obtain rfl:=aF.1 hy;subst e';obtain rfl:=dN e;refine(strings_Contains_one ⟨s.toArray⟩ 34 w).mono ?_;rintro e w' ⟨rfl,rfl⟩;have e:decide (0<=Lib.indexByte s 34)=decide (0<=bQ s 34):=by
  have h1:=EH (s:=s) (c:=34);have h2:=Ho (s:=s) (c:=34);have h3:((34:UInt8).toNat:Int)=34:=rfl;rw[h3] at h2;simp only[h1,h2]
 exact⟨by simp[AVal.conc,e],Below.refl _ _⟩
theorem oy {G:Glo}(hU:ab G utfTy)(s:List UInt8)(hl:s.length<=9223372036854775807):an prog G 70 [.str s] (.bool (dR false s)):=by
 have h1:=Cz hU s hl;have h2:=kw (G:=G) s 123 (lR false) hl (λc _=>o0 c);refine aw func70 call70 λC hC hGL=> ?_;refine xw ?_;refine⟨λh=> ?_,λh=> ?_,.n⟩;all_goals (apply aj;refine congrArg AVal.bool ?_;unfold dR;rw[Bool.eq_iff_iff];simp only[mf,decide_eq_true_eq,reduceCtorEq,false_iff];omega)
theorem sP {G:Glo}(hU:ab G utfTy)(s:List UInt8)(c:Bool)(hl:s.length<=2000000):an prog G 69 [.str s,.bool c] (.bool (gc c s)):=by
 cases c with
 |true=>
  have hE:=qQ (G:=G) s hl;have hC1:=oy hU (dJ s) (by have:=(nG s).2;omega);have hq1:=kV (G:=G) (dJ s);have e:gc true s=(dR false (dJ s)&&decide (bQ (dJ s) 34<0)):=by unfold gc mN;rfl
  rw[e];refine aw func69 call69 λC hC hGL=> ?_;refine xw ?_;repeat' first|exact .n|apply Lc.mk
  all_goals intros
  all_goals (apply aj;refine congrArg AVal.bool ?_;rw[show dR false (dJ s)=_ by assumption])
  all_goals (rw[Bool.eq_iff_iff];simp)
 |false=>
  have hC1:=oy hU s (by omega);have hq1:=kV (G:=G) s;have e:gc false s=(dR false s&&decide (bQ s 34<0)):=by unfold gc mN;rfl
  rw[e];refine aw func69 call69 λC hC hGL=> ?_;refine xw ?_;repeat' first|exact .n|apply Lc.mk
  all_goals intros
  all_goals (apply aj;refine congrArg AVal.bool ?_;rw[show dR false s=_ by assumption])
  all_goals (rw[Bool.eq_iff_iff];simp)
theorem l0 {G:Glo}(hU:ab G utfTy)(p:Ln)(c:Bool)(ho:p.Fit):an prog G 30 [p.A,.bool c] (.agg [.int .i64 (p.E c).e,.int .i64 (p.E c).p]):=by
  have n1:=qO (G:=G) p.n (by have:=ho.n;omega);have n2:=qO (G:=G) p.g (by have:=ho.g;omega);have hv:=oy hU p.v (by have:=ho.v;omega);have hps:=ho.ps;have b5:=kA (G:=G) 5;have b4:=kA (G:=G) 4;have b3:=kA (G:=G) 3;have b0:=i7 (G:=G);refine aw func30 call30 λC hC hGL=> ?_;refine xw ?_;repeat' first|exact .n|apply Lc.mk
  all_goals intros
  all_goals try (apply aj;first|(rw[Ln.E_5 (.inl (by assumption))];rfl)|(rw[Ln.E_5 (.inr ⟨by assumption,by assumption⟩)];rfl)|(rw[Ln.E_4 (by assumption) (.inl (by assumption)) (by omega)];rfl)|(rw[Ln.E_4 (by assumption) (.inr (by assumption)) (by omega)];rfl);done)
  all_goals
    have q1:isS p.n=true:=by assumption
    have q2:p.g.length=0\/isS p.g=true:=by first|exact .inl (by assumption)|exact .inr (by assumption)
    have q3:p.ps.length<=20:=by omega
    refine lp hC hGL (λk:Nat=>[(1,.bool c),(2,.rop [.str p.g,.str p.n,.list 2 p.ps.length (dM p.ps),.str p.v] 0),(4,.own 0 (.pointer (some ⟨_,0,none⟩))),(31,.list 2 p.ps.length (dM p.ps)),(32,.int .i64 (p.ps.length:Nat)),(33,.int .i64 (k:Nat))]) (λ_=>[.cells _ (some 59) [.int .i64 0,.int .i64 0]]) (λk=>k<=p.ps.length/\∀j,j<k->oA c (p.ps.getD j Pr.z)=0) (λk=>p.ps.length-k) 0 ?_ ai rfl ?_
    · exact⟨Nat.zero_le _,λj h=>absurd h (Nat.not_lt_zero _)⟩
    rintro k ⟨h1,h2⟩;have hq:=ho.q k;have n3:=qO (G:=G) (p.ps.getD k Pr.z).n (by omega);refine xw ?_;repeat' first|exact .n|apply Lc.mk
    all_goals intros
    all_goals try (apply aj;first|(rw[Ln.E_3 q1 q2 q3 (by omega) h2 (by assumption)];rfl)|(rw[Ln.E_0 q1 q2 q3 (by omega) h2 (by assumption)];rfl);done)
    all_goals try (apply aj;first|(rw[Ln.E_at q1 q2 q3 (by omega) h2 (by rw[yv (by assumption)];decide),yv (by assumption)];rfl)|(rw[Ln.E_at q1 q2 q3 (by omega) h2 (by rw[CI (by assumption) (by omega)];decide),CI (by assumption) (by omega)];rfl);done)
    refine lp hC hGL (λj:Nat=>[(1,.bool c),(2,.rop [.str p.g,.str p.n,.list 2 p.ps.length (dM p.ps),.str p.v] 0),(4,.own 0 (.pointer (some ⟨_,0,none⟩))),(5,.int .i64 (k:Nat)),(31,.list 2 p.ps.length (dM p.ps)),(32,.int .i64 (p.ps.length:Nat)),(33,.int .i64 (k:Nat)),(51,.list 1 (p.ps.getD k Pr.z).vs.length (aE (p.ps.getD k Pr.z).vs)),(52,.int .i64 ((p.ps.getD k Pr.z).vs.length:Nat)),(53,.int .i64 (j:Nat))]) (λ_=>[.cells _ (some 59) [.int .i64 0,.int .i64 0],.cells _ (some 64) [.str (p.ps.getD k Pr.z).n,.list 1 (p.ps.getD k Pr.z).vs.length (aE (p.ps.getD k Pr.z).vs)]]) (λj=>j<=(p.ps.getD k Pr.z).vs.length/\GZ c (p.ps.getD k Pr.z).vs j) (λj=>(p.ps.getD k Pr.z).vs.length-j) 0 ?_ ai rfl ?_
    · exact⟨Nat.zero_le _,λi hi=>absurd hi (Nat.not_lt_zero _)⟩
    rintro j ⟨g1,g2⟩;have hj:=sP hU ((p.ps.getD k Pr.z).vs.getD j []) c (by have:=cR (l:=(p.ps.getD k Pr.z).vs) (k:=j);omega);refine xw ?_;repeat' first|exact .n|apply Lc.mk
    all_goals intros
    all_goals first
      |exact db (j+1) ⟨by omega,tU g2 (by assumption)⟩ (by omega) ai rfl
      |exact eg (k+1) ⟨by omega,dl h2 (KL (by assumption) (by omega) (yM (by omega) g2))⟩ (by omega) ai aH
      | (apply aj
         have e1:=KK (c:=c) (q:=p.ps.getD k Pr.z) (by assumption) (by omega) (yL (j:=j) (by omega) (by assumption))
         rw[Ln.E_at q1 q2 q3 (by omega) h2 (by rw[e1];decide),e1]
         rfl)
end
section
theorem Dh {c:Bool}:∀{l:List Pr} {i:Nat},(gM c l i).e=0->gM c l i= .none
 |[],_,_=>rfl
 |x::l,i,h=>by
  simp only[gM] at h ⊢;split at h
  ·rename_i h0;rw[if_pos h0];exact Dh h
  ·rename_i h0;exact absurd h h0
theorem Ln.E_zero {c:Bool}{p:Ln}(h:(p.E c).e=0):p.E c= .none:=by
 unfold Ln.E at h ⊢;split at h
 ·cases h
 ·rename_i h1;rw[if_neg h1];split at h
  ·cases h
  ·rename_i h2;rw[if_neg h2];have:=Dh (c:=c) (l:=p.ps) (i:=0);cases hf:gM c p.ps 0 with
   |none=>
    rw[hf] at h;simp only at h ⊢;split at h
    ·rename_i h3;rw[if_pos h3]
    ·cases h
   |errno e=>
    rw[hf] at h this;exact absurd (this h) (by simp)
   | «at» e q=>
    rw[hf] at h this;exact absurd (this h) (by simp)
attribute [local irreducible] bI ap aa az aW ab ad
attribute [local irreducible] lR dR fp isS gc dJ dH mb kL mN nf
theorem Jp {G:Glo}(c:Int):an prog G 84 [.int .u8 c] (.bool (nf c)):=by
 refine aw func84 call84 λC hC hGL=> ?_;refine xw ?_;repeat' first|exact .n|apply Lc.mk
 all_goals intros
 all_goals (apply aj;refine congrArg AVal.bool ?_)
 all_goals (unfold nf;rw[Bool.eq_iff_iff];simp only[fh,decide_eq_true_eq,reduceCtorEq,true_iff,false_iff];omega)
theorem FO {c:Bool}{vs:List (List UInt8)}{j:Nat}(hj:j<vs.length):(vs.map (dH c)).take (j+1)=(vs.map (dH c)).take j++[dH c (vs.getD j [])]:=by
 rw[List.take_succ_eq_append_getElem (by simpa using hj),List.getElem_map,List.getD_eq_getElem?_getD,List.getElem?_eq_getElem hj];rfl
theorem sO {G:Glo}(hU:ab G utfTy)(p:Ln)(c:Bool)(ho:p.Fit):an prog G 37 [p.A,.bool c] (.tuple [.str (p.T c),.agg [.int .i64 (p.E c).e,.int .i64 (p.E c).p]]):=by
  have h0:=l0 hU p c ho;have hI:=jE (G:=G) (p.E c).e (p.E c).p;by_cases hz:(p.E c).e=0;case neg=>
    rw[rQ.2 hz] at hI;rw[show p.T c=[] by
      unfold Ln.T;split
      · rename_i hq;rw[hq] at hz;exact absurd rfl hz
      · rfl]
    refine aw func37 call37 λC hC hGL=> ?_;refine aT ?_;intro b1 b2;refine dz mixed hC hGL false (λ(_:Unit)=>[(4,.str []),(5,.own 0 (.pointer (some ⟨b1,0,none⟩)))]) (λ_=>[.cells b1 (some 59) [.int .i64 (p.E c).e,.int .i64 (p.E c).p],.cells b2 (some 59) [.int .i64 (p.E c).e,.int .i64 (p.E c).p]]) (.br 0 (.t 1 (.b 2 .done)) (.b 1 (.b 0 (.b 2 .done)))) (by kernel_rfl) ?_ ?_
    · refine xn ?_;repeat' first|exact .n|apply Lc.mk
      all_goals intros
      all_goals exact⟨(),⟨rfl,rfl,trivial⟩,rfl⟩
    · intro _;exact ez
  have hq:=Ln.E_zero hz;rw[hq] at h0 hI;rw[hq];simp only[Err.e,Err.p] at h0 hI ⊢;rw[fh.2 rfl] at hI;rw[show p.T c=p.txt c by unfold Ln.T;rw[hq],Ci];have hb0:=i7 (G:=G);have i1:p.ps.length<=20:=by
    have h:=hq;unfold Ln.E at h;split at h
    · cases h
    · split at h
      · cases h
      · omega
  have i2:∀k,k<p.ps.length->(p.ps.getD k Pr.z).vs.length≠0\/True:=λ_ _=>.inr trivial;have o1:=ho.g;have o2:=ho.n;have o3:=ho.v;have o4:∀k,k<=p.ps.length->(mb c p.ps k).length<=20*6600002:=λk hk=>by
    have h1:=vJ (N:=1100000) (c:=c) (λk=>⟨(ho.q k).1,by have:=(ho.q k).2.1;omega,by have:=(ho.q k).2.2;omega⟩) k hk;rw[show 2+6*1100000=6600002 by decide] at h1;have h2:=Nat.mul_le_mul_right 6600002 (show k<=20 by omega);exact Nat.le_trans h1 h2
  have hd1:p.g.length≠0->p.g++[46]++p.n=kL p:=λh=>by unfold kL;rw[if_neg h]
  have hd0:p.g.length=0->p.n=kL p:=λh=>by unfold kL;rw[if_pos h]
  have hdl:(kL p).length<=2200001:=by
    unfold kL;split
    · omega
    · simp only[List.length_append,List.length_cons,List.length_nil];omega
  refine jZ func37 call37 λC hC hGL=> ?_;refine ka hC hGL (λbl:Nat=>[(1,.bool c),(2,.rop [.str p.g,.str p.n,.list 2 p.ps.length (dM p.ps),.str p.v] 0),(5,.own 0 (.pointer (some ⟨bl,0,none⟩)))]) (λbl=>[.cells bl (some 59) [.int .i64 0,.int .i64 0]]) (λ_=>True) ?_ λb1 _=> ?_
  · refine aZ ?_;intro bl;exact cy bl trivial
  refine ka hC hGL (λbl:Nat=>[(1,.bool c),(2,.rop [.str p.g,.str p.n,.list 2 p.ps.length (dM p.ps),.str p.v] 0),(5,.own 0 (.pointer (some ⟨b1,0,none⟩)))]) (λbl=>[.cells b1 (some 59) [.int .i64 0,.int .i64 0],.cells bl (some 59) [.int .i64 0,.int .i64 (-1)]]) (λ_=>True) ?_ λb2 _=> ?_
  · refine aZ ?_;intro bl;exact cy bl trivial
  refine cut hC hGL [(1,.bool c),(2,.rop [.str p.g,.str p.n,.list 2 p.ps.length (dM p.ps),.str p.v] 0),(5,.own 0 (.pointer (some ⟨b1,0,none⟩))),(7,.str p.n)] [.cells b1 (some 59) [.int .i64 0,.int .i64 0],.cells b2 (some 59) [.int .i64 0,.int .i64 (-1)]] True ?_ λ_=> ?_
  · exact bK
  refine ka hC hGL (λq:List UInt8=>[(1,.bool c),(2,.rop [.str p.g,.str p.n,.list 2 p.ps.length (dM p.ps),.str p.v] 0),(5,.own 0 (.pointer (some ⟨b1,0,none⟩))),(7,.str q)]) (λ_=>[.cells b1 (some 59) [.int .i64 0,.int .i64 0],.cells b2 (some 59) [.int .i64 0,.int .i64 (-1)]]) (λq=>q=kL p++mb c p.ps 0) ?_ λq hq=> ?_
  · rw[show mb c p.ps 0=[] by unfold mb;rfl,List.append_nil];refine xn ?_;repeat' first|exact .n|apply Lc.mk
    all_goals intros
    all_goals first
      |exact cy _ (hd1 (by assumption))
      |exact cy _ (hd0 (by assumption))
  subst hq;refine aI hC hGL ?_;refine aT ?_;refine lp hC hGL (λk:Nat=>[(1,.bool c),(2,.rop [.str p.g,.str p.n,.list 2 p.ps.length (dM p.ps),.str p.v] 0),(5,.own 0 (.pointer (some ⟨b1,0,none⟩))),(7,.str (kL p++mb c p.ps k)),(31,.list 2 p.ps.length (dM p.ps)),(32,.int .i64 (p.ps.length:Nat)),(33,.int .i64 (k:Nat))]) (λ_=>[.cells b1 (some 59) [.int .i64 0,.int .i64 0],.cells b2 (some 59) [.int .i64 0,.int .i64 (-1)]]) (λk=>k<=p.ps.length) (λk=>p.ps.length-k) 0 ?_ ai rfl ?_
  · exact Nat.zero_le _
  intro k h1;have ol:=o4 k h1;have hqk:=ho.q k;refine xn ?_;repeat' first|exact .n|apply Lc.mk
  all_goals intros
  · rename_i b9 hkl;have hkn:k<p.ps.length:=by omega
    have hsucc:=qV (c:=c) hkn;have hpl:=CH c (p.ps.getD k Pr.z);have hjl:(Lib.join ((p.ps.getD k Pr.z).vs.map (dH c)) [44]).length<=20000000:=by
      have h2:=rB ((p.ps.getD k Pr.z).vs.map (dH c));have h3:=nq c (p.ps.getD k Pr.z).vs;rw[List.length_map] at h2;omega
    refine kK 10 1 rfl ?_;refine lp hC hGL (λy:List (List UInt8)×Value=>[(1,.bool c),(2,.rop [.str p.g,.str p.n,.list 2 p.ps.length (dM p.ps),.str p.v] 0),(5,.own 0 (.pointer (some ⟨b1,0,none⟩))),(7,.str (kL p++mb c p.ps k)),(9,.own 2 (.pointer (some ⟨b9,0,none⟩))),(10,.own 3 y.2),(31,.list 2 p.ps.length (dM p.ps)),(32,.int .i64 (p.ps.length:Nat)),(33,.int .i64 (k:Nat)),(38,.list 1 (p.ps.getD k Pr.z).vs.length (aE (p.ps.getD k Pr.z).vs)),(39,.int .i64 ((p.ps.getD k Pr.z).vs.length:Nat)),(40,.int .i64 (y.1.length:Nat))]) (λy=>[.cells b1 (some 59) [.int .i64 0,.int .i64 0],.cells b2 (some 59) [.int .i64 0,.int .i64 (-1)],.cells b9 (some 64) [.str (p.ps.getD k Pr.z).n,.list 1 (p.ps.getD k Pr.z).vs.length (aE (p.ps.getD k Pr.z).vs)],.row y.2 none 1 y.1.length (aY y.1)]) (λy=>y.1.length<=(p.ps.getD k Pr.z).vs.length/\y.1=((p.ps.getD k Pr.z).vs.map (dH c)).take y.1.length) (λy=>(p.ps.getD k Pr.z).vs.length-y.1.length) ([],.slice none 0 0) ?_ ai rfl ?_
    · exact⟨Nat.zero_le _,rfl⟩
    rintro⟨l,v⟩ ⟨g1,g2⟩;dsimp only at g1 g2;have hj1:=cR (l:=(p.ps.getD k Pr.z).vs) (k:=l.length);have hel:=wr c ((p.ps.getD k Pr.z).vs.getD l.length []);have hE:=qQ (G:=G) ((p.ps.getD k Pr.z).vs.getD l.length []) (by omega);have hQ:=kw (G:=G) (mN c ((p.ps.getD k Pr.z).vs.getD l.length [])) 84 nf (by omega) (λc _=>Jp c);have hY:0<=fP nf (mN c ((p.ps.getD k Pr.z).vs.getD l.length []))->dH c ((p.ps.getD k Pr.z).vs.getD l.length [])=34::mN c ((p.ps.getD k Pr.z).vs.getD l.length [])++[34]:=λh=>by unfold dH;rw[if_neg (by omega)]
    have hN:fP nf (mN c ((p.ps.getD k Pr.z).vs.getD l.length []))<0->dH c ((p.ps.getD k Pr.z).vs.getD l.length [])=mN c ((p.ps.getD k Pr.z).vs.getD l.length []):=λh=>by unfold dH;rw[if_pos h]
    have hT:=λ(h:l.length<(p.ps.getD k Pr.z).vs.length)=>FO (c:=c) h;have hx1:mN true ((p.ps.getD k Pr.z).vs.getD l.length [])=dJ ((p.ps.getD k Pr.z).vs.getD l.length []):=by unfold mN;rfl
    have hx2:mN false ((p.ps.getD k Pr.z).vs.getD l.length [])=(p.ps.getD k Pr.z).vs.getD l.length []:=by unfold mN;rfl
    have fin:(p.ps.getD k Pr.z).vs.length<=l.length->l=(p.ps.getD k Pr.z).vs.map (dH c):=λh=>by rw[g2,List.take_of_length_le (by rw[List.length_map];omega)]
    have go:∀(w:List UInt8),w=dH c ((p.ps.getD k Pr.z).vs.getD l.length [])->l.length<(p.ps.getD k Pr.z).vs.length->(l++[w]).length<=(p.ps.getD k Pr.z).vs.length/\l++[w]=((p.ps.getD k Pr.z).vs.map (dH c)).take (l++[w]).length:=λw hw h=>by
      rw[List.length_append,List.length_singleton,hT h,<-g2,hw];exact⟨by omega,rfl⟩
    cases c;all_goals
      simp only[hx1,hx2] at hQ hY hN hel;refine xn ?_;repeat' first|exact .n|apply Lc.mk
      all_goals intros
      all_goals try dsimp only at*
    all_goals first
      | (refine db (l++[_],.slice _ _ _) (go _ (hY (by assumption)).symm (by omega)) (by dsimp only;rw[List.length_append,List.length_singleton];omega) ⟨rfl,rfl,rfl,rfl,rfl,rfl,rfl,rfl,rfl,rfl,rfl,?_,trivial⟩ ?_
         · show some (AVal.int .i64 (((l.length:Nat):Int)+1))=some (AVal.int .i64 ((l++[_]).length:Nat));rw[List.length_append];rfl
         · dsimp only
           rw[<-cM,List.length_append];rfl)
      | (refine db (l++[_],.slice _ _ _) (go _ (hN (by assumption)).symm (by omega)) (by dsimp only;rw[List.length_append,List.length_singleton];omega) ⟨rfl,rfl,rfl,rfl,rfl,rfl,rfl,rfl,rfl,rfl,rfl,?_,trivial⟩ ?_
         · show some (AVal.int .i64 (((l.length:Nat):Int)+1))=some (AVal.int .i64 ((l++[_]).length:Nat));rw[List.length_append];rfl
         · dsimp only
           rw[<-cM,List.length_append];rfl)
      |skip
    · obtain rfl:=fin (by omega);refine dz mixed hC hGL true (λ(_:Unit)=>[(1,.bool false),(2,.rop [.str p.g,.str p.n,.list 2 p.ps.length (dM p.ps),.str p.v] 0),(5,.own 0 (.pointer (some ⟨b1,0,none⟩))),(7,.str (kL p++mb false p.ps (k+1))),(31,.list 2 p.ps.length (dM p.ps)),(32,.int .i64 (p.ps.length:Nat)),(33,.int .i64 (k:Nat))]) (λ_=>[.cells b1 (some 59) [.int .i64 0,.int .i64 0],.cells b2 (some 59) [.int .i64 0,.int .i64 (-1)],.cells b9 (some 64) [.str (p.ps.getD k Pr.z).n,.list 1 (p.ps.getD k Pr.z).vs.length (aE (p.ps.getD k Pr.z).vs)],.row v none 1 ((p.ps.getD k Pr.z).vs.map (dH false)).length (aY ((p.ps.getD k Pr.z).vs.map (dH false)))]) .p3 (by kernel_rfl) ?_ ?_
      · refine aT ?_;intro C hC;refine ax (i:=3) rfl (cd ((p.ps.getD k Pr.z).vs.map (dH false)) [44] v (by rw[List.length_map];omega) (by omega)) ?_;have hlen:(kL p++mb false p.ps k).length<=200000000:=by rw[List.length_append];omega
        refine xn ?_;repeat' first|exact .n|apply Lc.mk
        all_goals intros
        all_goals
          refine⟨(),⟨rfl,rfl,rfl,?_,rfl,rfl,rfl,trivial⟩,rfl⟩;rw[hsucc];unfold Jr;simp only[List.append_assoc,List.cons_append,List.nil_append];rfl
      · intro _;refine aT ?_;exact eg (k+1) (by omega) (by omega) ai aH
    · obtain rfl:=fin (by omega);refine dz mixed hC hGL true (λ(_:Unit)=>[(1,.bool true),(2,.rop [.str p.g,.str p.n,.list 2 p.ps.length (dM p.ps),.str p.v] 0),(5,.own 0 (.pointer (some ⟨b1,0,none⟩))),(7,.str (kL p++mb true p.ps (k+1))),(31,.list 2 p.ps.length (dM p.ps)),(32,.int .i64 (p.ps.length:Nat)),(33,.int .i64 (k:Nat))]) (λ_=>[.cells b1 (some 59) [.int .i64 0,.int .i64 0],.cells b2 (some 59) [.int .i64 0,.int .i64 (-1)],.cells b9 (some 64) [.str (p.ps.getD k Pr.z).n,.list 1 (p.ps.getD k Pr.z).vs.length (aE (p.ps.getD k Pr.z).vs)],.row v none 1 ((p.ps.getD k Pr.z).vs.map (dH true)).length (aY ((p.ps.getD k Pr.z).vs.map (dH true)))]) .p3 (by kernel_rfl) ?_ ?_
      · refine aT ?_;intro C hC;refine ax (i:=3) rfl (cd ((p.ps.getD k Pr.z).vs.map (dH true)) [44] v (by rw[List.length_map];omega) (by omega)) ?_;have hlen:(kL p++mb true p.ps k).length<=200000000:=by rw[List.length_append];omega
        refine xn ?_;repeat' first|exact .n|apply Lc.mk
        all_goals intros
        all_goals
          refine⟨(),⟨rfl,rfl,rfl,?_,rfl,rfl,rfl,trivial⟩,rfl⟩;rw[hsucc];unfold Jr;simp only[List.append_assoc,List.cons_append,List.nil_append];rfl
      · intro _;refine aT ?_;exact eg (k+1) (by omega) (by omega) ai aH
  · have hkk:k=p.ps.length:=by omega
    subst hkk;refine dz mixed hC hGL false (λ(_:Unit)=>[(4,.str (kL p++mb c p.ps p.ps.length++[58]++p.v)),(5,.own 0 (.pointer (some ⟨b1,0,none⟩)))]) (λ_=>[.cells b1 (some 59) [.int .i64 0,.int .i64 (-1)],.cells b2 (some 59) [.int .i64 0,.int .i64 (-1)]]) (.t 0 (.t 1 (.t 2 (.t 3 (.t 4 (.b 5 (.t 6 (.b 7 .done)))))))) (by kernel_rfl) ?_ ?_
    · refine xn ?_;repeat' first|exact .n|apply Lc.mk
      all_goals intros
      all_goals exact⟨(),⟨rfl,rfl,trivial⟩,rfl⟩
    · intro _;exact ez
end
section
theorem Ew {l:List (List UInt8)}{j:Nat}(h:j<l.length):Lib.lens (l.take (j+1))=Lib.lens (l.take j)+(l.getD j []).length:=
 Lib.lens_take_succ l j _ (by rw[List.getD_eq_getElem?_getD,List.getElem?_eq_getElem h];rfl)
theorem Ex {l:List (List UInt8)}{j:Nat}(h:l.length<=j):Lib.lens (l.take j)=Lib.lens l:=by rw[List.take_of_length_le h]
def Pr.w (q:Pr):Nat:=q.n.length+q.vs.length+Lib.lens q.vs
def Ln.b (p:Ln):Nat:=p.ps.length+p.g.length+p.n.length+p.v.length
attribute [local irreducible] bI ap aa az aW ab ad
theorem Hb {G:Glo}(p:Ln)(ho:p.OK 1048576):ad prog G 10 [p.A] [] (λr H=>(∃a,r= .ret a/\∃b,a= .bool b/\(b=false->p.OK 2500))/\H=[]):=by
 have o1:=ho.g;have o2:=ho.n;have o3:=ho.v;have o4:=ho.ps;refine aw func10 call10 λC hC hGL=> ?_;refine aZ ?_;refine lp hC hGL (λx:Nat×Nat=>[(3,.int .i64 (x.2:Nat)),(24,.list 2 p.ps.length (dM p.ps)),(25,.int .i64 (p.ps.length:Nat)),(26,.int .i64 (x.1:Nat))]) (λ_=>[]) (λx=>x.1<=p.ps.length/\p.b<=x.2/\(∀j,j<x.1->p.b+(p.ps.getD j Pr.z).w<=x.2)/\x.2<=p.b+x.1*3300000) (λx=>p.ps.length-x.1) (0,p.b) ?_ ai rfl ?_
 ·exact⟨Nat.zero_le _,Nat.le_refl _,λj h=>absurd h (Nat.not_lt_zero _),by simp⟩
 rintro⟨k,n⟩ ⟨h1,h2,h3,h4⟩;dsimp only at h1 h2 h3 h4;have hq:=ho.q k;have hbl:p.b<=4194304:=by unfold Ln.b;omega
 refine xw ?_;repeat' first|exact .n|apply Lc.mk
 all_goals intros
 ·refine lp hC hGL (λx:Nat×Nat=>[(3,.int .i64 (x.2:Nat)),(24,.list 2 p.ps.length (dM p.ps)),(25,.int .i64 (p.ps.length:Nat)),(26,.int .i64 (k:Nat)),(40,.list 1 (p.ps.getD k Pr.z).vs.length (aE (p.ps.getD k Pr.z).vs)),(41,.int .i64 ((p.ps.getD k Pr.z).vs.length:Nat)),(42,.int .i64 (x.1:Nat))]) (λ_=>[.cells _ (some 64) [.str (p.ps.getD k Pr.z).n,.list 1 (p.ps.getD k Pr.z).vs.length (aE (p.ps.getD k Pr.z).vs)]]) (λx=>x.1<=(p.ps.getD k Pr.z).vs.length/\x.2=n+((p.ps.getD k Pr.z).n.length+(p.ps.getD k Pr.z).vs.length)+Lib.lens ((p.ps.getD k Pr.z).vs.take x.1)) (λx=>(p.ps.getD k Pr.z).vs.length-x.1) (0,n+((p.ps.getD k Pr.z).n.length+(p.ps.getD k Pr.z).vs.length)) ?_ ai rfl ?_
  ·exact⟨Nat.zero_le _,by simp[Lib.lens]⟩
  rintro⟨j,m⟩ ⟨g1,g2⟩;dsimp only at g1 g2;have hj1:=Lib.lens_take_le (p.ps.getD k Pr.z).vs j;have hj2:=Lib.lens_take_le (p.ps.getD k Pr.z).vs (j+1);have hj3:j<(p.ps.getD k Pr.z).vs.length->_:=λh=>Ew h;have hj4:(p.ps.getD k Pr.z).vs.length<=j->_:=λh=>Ex h;refine xw ?_;repeat' first|exact .n|apply Lc.mk
  all_goals intros
  all_goals try dsimp only at*
  ·refine db (j+1,m+((p.ps.getD k Pr.z).vs.getD j []).length) ⟨by dsimp only;omega,?_⟩ (by dsimp only;omega) ai rfl;dsimp only
   rw[hj3 (by omega)];omega
  ·have e:=hj4 (by omega);have hw:(p.ps.getD k Pr.z).w=(p.ps.getD k Pr.z).n.length+(p.ps.getD k Pr.z).vs.length+Lib.lens (p.ps.getD k Pr.z).vs:=rfl;refine eg (k+1,m) ⟨by dsimp only;omega,by dsimp only;omega,dl (λj hj=>by have:=h3 j hj;dsimp only;omega) (by dsimp only;omega),by dsimp only;omega⟩ (by dsimp only;omega) ai aH
 ·refine⟨[],List.nil_sublist _,⟨_,rfl,_,rfl,λh=> ?_⟩,rfl⟩;have h:=jU.1 h;dsimp only at h;have hn:n<=2500:=by omega
  unfold Ln.b at h2 h3;refine⟨by omega,by omega,by omega,by omega,λj=> ?_⟩;by_cases hj:j<p.ps.length
  ·have:=h3 j (by omega);unfold Pr.w at this;omega
  ·rw[List.getD_eq_getElem?_getD,List.getElem?_eq_none (by omega)];exact⟨by simp[Pr.z],by simp[Pr.z],by simp[Pr.z,Lib.lens]⟩
end
section
attribute [local irreducible] bI ap aa az aW ab ad
attribute [local irreducible] lR dR fp
theorem oU {G:Glo}(s:List UInt8)(b:Bool)(hl:s.length<=9223372036854775807):an prog G 140 [.str s,.bool b] (.bool (dR b s)):=by
 have hB:=Ce (G:=G) s hl;refine aw func140 call140 λC hC hGL=> ?_;refine aZ ?_;refine lp hC hGL (λi:Nat=>[(0,.str s),(1,.bool b),(8,.int .i64 (s.length:Nat)),(9,.int .i64 (i:Nat))]) (λ_=>[]) (λi=>i<=s.length/\∀j,j<i->lR b (aa s j:Int)=false) (λi=>s.length-i) 0 ?_ ai rfl ?_
 ·exact⟨Nat.zero_le _,λj h=>absurd h (Nat.not_lt_zero _)⟩
 rintro i ⟨h1,h2⟩;refine xw ?_;repeat' first|exact .n|apply Lc.mk
 all_goals intros
 all_goals first
  |(apply aj;rw[Ht (i:=i) (by omega) (by first|exact nt (.inl (by omega))|exact nt (.inr (.inl (by omega)))|exact nt (.inr (.inr ⟨by omega,by assumption⟩))) h2];rfl)
  |(refine db (i+1) ⟨by omega,cB h2 (by first|exact v7 (by omega) (.inl (by omega))|exact v7 (by omega) (.inr (.inl (by omega)))|exact v7 (by omega) (.inr (.inr ⟨by omega,by assumption⟩)))⟩ (by omega) ai rfl)
  |(apply aj;rw[C9 (i:=i) (by omega) h2])
theorem vG {G:Glo}(s:List UInt8)(f:Nat)(cs:List AVal)(p:Int->Bool)(hl:s.length<=9223372036854775807)(hp:∀c:Nat,c<256->an prog G f [.int .u8 (c:Int),.rop cs 0] (.bool (p c))):an prog G 83 [.str s,.func (.func f) [] [.rop cs 0]] (.int .i64 (fP p s)):=by
 have k1:=λi (_:0<=(aa s i:Int))=>hp (aa s i) (bG s i);refine aw func83 call83 λC hC hGL=> ?_;refine aZ ?_;intro bl cap hcap;refine lp hC hGL (λ(i:Nat)=>[(1,.func (.func f) [] [.rop cs 0]),(8,.own 0 (.slice (some ⟨bl,0,none⟩) s.length cap)),(9,.int .i64 s.length),(10,.int .i64 i)]) (λ_=>[.buf bl s cap]) (λi=>i<=s.length/\∀j,j<i->p (aa s j:Int)=false) (λi=>s.length-i) 0 ?_ ai rfl ?_
 ·exact⟨Nat.zero_le _,λj h=>absurd h (Nat.not_lt_zero _)⟩
 rintro i ⟨hi,hb0⟩;refine xw ?_;repeat' first|exact .n|apply Lc.mk
 all_goals intros
 all_goals first
  |(apply aj;rw[jN (i:=i) (by omega) (by assumption) hb0])
  |(refine db (i+1) ⟨by omega,cB hb0 (by assumption)⟩ (by omega) ai rfl)
  |(apply aj;rw[fA (λj hj=>hb0 j (by omega))];rfl)
theorem AT {G:Glo}(b:Bool)(c:Int):an prog G 126 [.int .u8 c,.rop [.bool b] 0] (.bool (lR b c)):=by
 have h:=o0 (G:=G) c;refine aw func126 call126 λC hC hGL=> ?_;refine xw ?_;refine⟨λh1 h2=> ?_,λh1 h2=> ?_,λh1=> ?_,.n⟩;all_goals (apply aj;refine congrArg AVal.bool ?_;first|rw[uo] at h1|rw[<-Bool.not_eq_true,uo] at h1)
 ·rcases h1 with h1|h1
  ·exact(nt (.inl ⟨h1.1,h1.2,h2⟩)).symm
  ·exact(nt (.inr (.inl h1))).symm
 ·rw[Bool.eq_iff_iff];cases b
  ·rw[uo];simp;omega
  ·rw[KS];simp;omega
 ·cases b
  ·rw[Bool.eq_iff_iff,uo];simp;omega
  ·rw[Bool.eq_iff_iff,KS];simp;omega
theorem oz {G:Glo}(hU:ab G utfTy)(s:List UInt8)(b:Bool)(hl:s.length<=9223372036854775807):an prog G 74 [.str s,.bool b] (.bool (dR b s)):=by
 have h1:=Cz hU s hl;have h2:=vG (G:=G) s 126 [.bool b] (lR b) hl (λc _=>AT b c);refine aw func74 call74 λC hC hGL=> ?_;refine xw ?_;refine⟨λh=> ?_,λh=> ?_,.n⟩;all_goals (apply aj;refine congrArg AVal.bool ?_;unfold dR;rw[Bool.eq_iff_iff];simp only[mf,decide_eq_true_eq,reduceCtorEq,false_iff];omega)
end
section
def td:List Bool->Bool
 |[]=>true
 |b::l=>b&&td l
def ut (P:Program)[Tab P](cs ds:List AVal):List Field->Option (List Bool)
 |[]=>some []
 |f::fs=>match aS P f.type,cs[f.offset]?,ds[f.offset]?,ut P cs ds fs with
  |some x,some a,some b,some l=>match x.desc,a,b with
   |.int _,.int k m,.int j q=>match Nat.beq (He k) (He j) with
    |true=>some (cY m q::l)
    |false=>none
   |.string,.str s,.str t=>some (ca s t::l)
   |.bool,.bool s,.bool t=>some ((s==t)::l)
   |_,_,_=>none
  |_,_,_,_=>none
theorem yy {P:Program}[Tab P]{xs:Array Value}{v:Value}{t:TypeId}{x:TI}{o:Nat}(ht:aS P t=some x)(hd:bL x.desc=false)(hv:xs[o]? =some v)(w:World):(part t xs o).run P w= .ok v w:=by
 simp only[part,Sem.run_bind,cG ht,hd,Result.andThen_ok,Bool.false_eq_true,if_false,hv,Sem.run_pure]
theorem jP {P:Program}[Tab P]{R:Seal}{cs ds:List AVal}{xs ys:Array Value}(ha:bA R cs xs.toList)(hb:bA R ds ys.toList)(d:Nat)(w:World):
  ∀(fs:List Field) (l:List Bool),(fs.all fun f=>f.name != "_")=true→ut P cs ds fs=some l→(Op.eqFields (d+1) xs ys fs).run P w= .ok (td l) w
 |[],l,_,h=>by
  simp only[ut,Option.some.injEq] at h
  subst h
  rfl
 |f::fs,l,hn,h=>by
  simp only[List.all_cons,Bool.and_eq_true,bne_iff_ne,ne_eq] at hn
  simp only[ut] at h
  split at h
  ·rename_i x a b l' ht h1 h2 h3
   have ih:=jP ha hb d w fs l' hn.2 h3
   obtain⟨va,e1,r1⟩:=dv ha h1
   obtain⟨vb,e2,r2⟩:=dv hb h2
   have e1:xs[f.offset]? =some va:=by simpa using e1
   have e2:ys[f.offset]? =some vb:=by simpa using e2
   have fin:∀r:Bool,bL x.desc=false→(Op.equalIn (d+1) f.type va vb).run P w= .ok r w→(Op.eqFields (d+1) xs ys (f::fs)).run P w= .ok (td (r::l')) w:=by
    intro r hd hr
    simp only[Op.eqFields,ne_eq,hn.1,not_false_eq_true,if_true,Sem.run_bind,yy ht hd e1,yy ht hd e2,Result.andThen_ok,hr]
    cases r
    ·rfl
    ·exact ih
   split at h
   ·rename_i q1 k m j q hd
    split at h
    ·rename_i hk
     cases h
     obtain rfl:=rv hk
     obtain rfl:=am.1 (cC r1 rfl)
     obtain rfl:=am.1 (cC r2 rfl)
     refine fin _ (by rw[hd];rfl) ?_
     rw[run_equalIn_int w d f.type _ _ _ _ (by rw[aU ht,hd])]
     unfold cY
     rfl
    ·cases h
   ·rename_i s t hd
    cases h
    obtain rfl:=aF.1 (cC r1 rfl)
    obtain rfl:=aF.1 (cC r2 rfl)
    refine fin _ (by rw[hd];rfl) ?_
    rw[run_equalIn_string w d f.type _ _ (by rw[aU ht,hd])]
    rw[ByteArray.toList_eq,ByteArray.toList_eq]
    unfold ca
    simp
   ·rename_i s t hd
    cases h
    obtain rfl:=aN.1 (cC r1 rfl)
    obtain rfl:=aN.1 (cC r2 rfl)
    exact fin _ (by rw[hd];rfl) (run_equalIn_bool' w d f.type _ _ (by rw[aU ht,hd]))
   ·cases h
  ·cases h
section
variable {P:Program} [Tab P] {C:Ctx} {env:Env} {H:Heap} {x y:Operand} {T ty:TypeId}
theorem wQ {R:Seal}{cs:List AVal}{v:Value}(h:bD R (.agg cs) v):∃vs,v= .agg vs/\bA R cs vs.toList:=by
 obtain⟨h1,h2⟩:=h;cases v<;>first|exact⟨_,rfl,h1⟩|(simp[AVal.isAgg,cm] at h2)
theorem Gf {cs ds:List AVal}{fs:Array Field}{l:List Bool}{xT:TI}(b:Bool)(hx:ae env x=some (.agg cs))(hy:ae env y=some (.agg ds))(h1:aS P T=some xT)(h2:xT.desc= .struct fs)
  (h3:P.stoodInHeld T=false) (h4:P.eqGuardType P.depth T=false) (h5:(fs.toList.all fun f=>f.name != "_")=true) (h6:ut P cs ds fs.toList=some l) (hb:td l=b):bn P C H env (.binOp .eql T x y ty) (.bool b):=by
 intro R ρ w hm hf dst t p af g
 refine⟨_,?_,aN.2 rfl⟩
 obtain⟨xs,ex,rx⟩:=wQ (hf _ _ hx)
 obtain⟨ys,ey,ry⟩:=wQ (hf _ _ hy)
 have hu:P.underlying T=some (.struct fs):=by rw[aU h1,h2]
 have hfo:P.fieldsOf T=fs:=by unfold Program.fieldsOf;rw[hu]
 have e1:(Op.equalIn 10000 T (.agg xs) (.agg ys)).run P w= .ok b w:=by
  rw[show(10000:Nat)=9999+1 from rfl,run_equalIn_agg w 9999 T xs ys (by rw[hfo];exact hu) h3,hfo]
  subst hb
  exact jP rx ry 9998 w _ _ h5 h6
 simp only[execOp,ex,ey,Sem.run_bind,run_eql_struct,e1,run_eqGuard_agg w .eql T x y xs ys h4,Result.andThen_ok,Sem.run_pure]
theorem oj {cs ds:List AVal}{fs:Array Field}{l:List Bool}{xT:TI}(b:Bool)(hx:ae env x=some (.agg cs))(hy:ae env y=some (.agg ds))(h1:aS P T=some xT)(h2:xT.desc= .struct fs)
  (h3:P.stoodInHeld T=false) (h4:P.eqGuardType P.depth T=false) (h5:(fs.toList.all fun f=>f.name != "_")=true) (h6:ut P cs ds fs.toList=some l) (hb:td l=b):bn P C H env (.binOp .neq T x y ty) (.bool (!b)):=by
 intro R ρ w hm hf dst t p af g
 refine⟨_,?_,aN.2 rfl⟩
 obtain⟨xs,ex,rx⟩:=wQ (hf _ _ hx)
 obtain⟨ys,ey,ry⟩:=wQ (hf _ _ hy)
 have hu:P.underlying T=some (.struct fs):=by rw[aU h1,h2]
 have hfo:P.fieldsOf T=fs:=by unfold Program.fieldsOf;rw[hu]
 have e1:(Op.equalIn 10000 T (.agg xs) (.agg ys)).run P w= .ok b w:=by
  rw[show(10000:Nat)=9999+1 from rfl,run_equalIn_agg w 9999 T xs ys (by rw[hfo];exact hu) h3,hfo]
  subst hb
  exact jP rx ry 9998 w _ _ h5 h6
 simp only[execOp,ex,ey,Sem.run_bind,run_neq_struct,e1,run_eqGuard_agg w .neq T x y xs ys h4,Result.andThen_ok,Sem.run_pure]
end
end
section
attribute [local irreducible] bI ap aa az aW ab ad
attribute [local irreducible] lR dR fp iL
theorem qn {G:Glo}(hGL:ab G errTy)(x:Err):an prog G 141 [x.A] x.b.A:=by
 have h:=sq hGL x;cases x;all_goals
  refine pK func141 call141 rfl rfl rfl rfl hGL ?_;intro C hC;exact bK
theorem qi (t:Stm):td [cY t.y 0,cY t.m 0,cY t.d 0,cY t.h 0,cY t.i 0,cY t.s 0,t.z==false,cY t.o 0]=iL t:=by
 unfold iL;rw[Bool.eq_iff_iff];simp only[td,Bool.and_eq_true,fh,Bool.and_true,decide_eq_true_eq,beq_iff_eq]
theorem z6 {G:Glo}(v:Vl):an prog G 139 [v.A] (.bool v.only):=by
 have hz:=qi v.st;refine aw func139 call139 λC hC hGL=> ?_;refine xw ?_;repeat' first|exact .n|apply Lc.mk
 all_goals intros
 all_goals try (refine aO hC hGL (Gf (iL v.st) rfl rfl rfl rfl (by kernel_rfl) (by kernel_rfl) (by kernel_rfl) rfl hz) rfl rfl ?_;refine xw ?_)
 repeat' first|exact .n|apply Lc.mk
 all_goals intros
 all_goals (apply aj;refine congrArg AVal.bool ?_;rw[Bool.eq_iff_iff];unfold Vl.only;rw[decide_eq_true_eq];cases hq:iL v.st<;>first|exact absurd (hq.symm.trans (show iL v.st=true by assumption)) (by decide)|exact absurd (hq.symm.trans (show iL v.st=false by assumption)) (by decide)|(simp only[hq,fh,reduceCtorEq,true_iff,false_iff,true_or,false_or,iff_true,true_and,and_true];omega))
theorem CN {L:List (List (List UInt8))}{k:Nat}(hk:k<L.length)(h1:k<=cX L)(h0:(L.getD k []).length=0):cX L<L.length:=by
 rw[oC hk h1 (List.eq_nil_of_length_eq_zero h0)];exact hk
theorem yG {L:List (List (List UInt8))}{k:Nat}(hk:k<L.length)(h1:k<=cX L)(h0:(L.getD k []).length≠0):k+1<=cX L:=mB hk h1 (λh=>h0 (by rw[h];rfl))
def Nn (L:List (List (List UInt8)))(k:Nat):Prop:=∀i,i<k->(L.getD i []).all (dR true)=true
def NR (l:List (List UInt8))(j:Nat):Prop:=∀i,i<j->dR true (l.getD i [])=true
theorem C8 {l:List (List UInt8)}{j:Nat}(hj:l.length<=j)(h:NR l j):l.all (dR true)=true:=by
 rw[List.all_eq_true];intro x hx
 obtain⟨i,hi,rfl⟩:=List.getElem_of_mem hx
 have:=h i (by omega)
 rwa [List.getD_eq_getElem?_getD,List.getElem?_eq_getElem hi] at this
theorem C7 {l:List (List UInt8)}{j:Nat}(hj:j<l.length)(h:dR true (l.getD j [])=false):l.all (dR true)=false:=by
 rw[List.all_eq_false];refine⟨l[j],List.getElem_mem hj,?_⟩;rw[List.getD_eq_getElem?_getD,List.getElem?_eq_getElem hj] at h;simpa using h
theorem C6 {L:List (List (List UInt8))}{k:Nat}(hk:L.length<=k)(h:Nn L k):Hs L=true:=by
 unfold Hs;rw[List.all_eq_true];intro x hx;obtain⟨i,hi,rfl⟩:=List.getElem_of_mem hx;have:=h i (by omega);rwa [List.getD_eq_getElem?_getD,List.getElem?_eq_getElem hi] at this
theorem C5 {L:List (List (List UInt8))}{k:Nat}(hk:k<L.length)(h:(L.getD k []).all (dR true)=false):Hs L=false:=by
 unfold Hs;rw[List.all_eq_false];refine⟨L[k],List.getElem_mem hk,?_⟩;rw[List.getD_eq_getElem?_getD,List.getElem?_eq_getElem hk] at h;simpa using h
theorem y8 {l:List (List UInt8)}{j:Nat}(h:NR l j)(k:dR true (l.getD j [])=true):NR l (j+1):=λi hi=>by
 rcases Nat.lt_succ_iff_lt_or_eq.1 hi with h1|rfl
 ·exact h i h1
 ·exact k
theorem y7 {L:List (List (List UInt8))}{j:Nat}(h:Nn L j)(k:(L.getD j []).all (dR true)=true):Nn L (j+1):=λi hi=>by
 rcases Nat.lt_succ_iff_lt_or_eq.1 hi with h1|rfl
 ·exact h i h1
 ·exact k
end
section
attribute [local irreducible] bI ap az aW ab ad aa
abbrev FN (a b c:Int):AVal:=.list 1 3 (df [(0,.int .i64 a),(1,.int .i64 b),(2,.int .i64 c)])
theorem ld {G:Glo}(a b c:Int):an prog G 193 [FN a b c] (.str (sB (ar a) (ar b) (ar c))):=by
 by_cases h1:a= -1;all_goals by_cases h2:b= -1
 all_goals by_cases h3:c= -1
 all_goals
  refine aw func193 call193 λC hC hGL=> ?_
  refine aZ ?_
  intros
  refine ls (m:=3) hC hGL rfl rfl (by omega) rfl rfl rfl rfl rfl rfl rfl rfl (λbo=> ?_)
  refine aZ ?_
  intros
  refine ja hC hGL 4 ?_
  refine aZ ?_
  intros
  refine kp ⟨rfl,rfl⟩ ?_
  apply aj
  simp only[ar,h1,h2,h3,ne_eq,not_true_eq_false,not_false_eq_true,decide_true,decide_false]
  rfl
theorem wZ {G:Glo}(n lo hi:Int):an prog G 195 [.int .i64 n,.int .i64 lo,.int .i64 hi] (.bool (dD n lo hi)):=by
 refine aw func195 call195 λC hC hGL=> ?_;refine xw ?_;repeat' first|exact .n|apply Lc.mk
 all_goals intros
 all_goals (apply aj;refine congrArg AVal.bool ?_;rw[Bool.eq_iff_iff];simp only[qk,reduceCtorEq,false_iff,true_iff,Bool.not_eq_true',jU];omega)
theorem Dx {G:Glo}(y m:Int):an prog G 194 [.int .i64 y,.int .i64 m] (.int .i64 (pL y m)):=by
 refine aw func194 call194 λC hC hGL=> ?_;refine xw ?_;repeat' first|exact .n|apply Lc.mk
 all_goals intros
 all_goals (apply aj;refine congrArg (AVal.int .i64) ?_;unfold pL;(repeat' split)<;>omega)
theorem Fy {G:Glo}(n:Int)(h0:0<=n)(h1:n<100):an prog G 200 [.int .i64 n,.int .i64 2] (.str (cg n)):=by
 refine aw func200 call200 λC hC hGL=> ?_;refine aZ ?_;intros;refine ls (m:=2) hC hGL rfl rfl (by omega) rfl rfl rfl rfl rfl rfl rfl rfl (λbo=> ?_);refine aZ ?_;intros;refine ja hC hGL 3 ?_;refine aZ ?_;intros;refine kp ⟨rfl,rfl⟩ ?_;apply aj;refine congrArg AVal.str ?_;show[UInt8.ofNat (48+n/10%10).toNat,UInt8.ofNat (48+n%10).toNat]=cg n;rw[show n/10%10=n/10 by omega];rfl
theorem Dv {G:Glo}(n:Int)(h0:0<=n)(h1:n<10000):an prog G 200 [.int .i64 n,.int .i64 4] (.str (fQ n)):=by
 refine aw func200 call200 λC hC hGL=> ?_;refine aZ ?_;intros;refine ls (m:=4) hC hGL rfl rfl (by omega) rfl rfl rfl rfl rfl rfl rfl rfl (λbo=> ?_);refine aZ ?_;intros;refine ja hC hGL 5 ?_;refine aZ ?_;intros;refine kp ⟨rfl,rfl⟩ ?_;apply aj;refine congrArg AVal.str ?_;unfold fQ bw;rw[show n/1000=n/10/10/10%10 by omega,show n/100%10=n/10/10%10 by omega];rfl
theorem Gy {G:Glo}(y m:Int):an prog G 131 [.int .i64 y,.int .i64 m] (.int .i64 (pL y m)):=by
 have hw:=dV (G:=G) m 1 12;have h4:y.tmod 400=0->y.tmod 4=0/\y.tmod 100=0:=λh=>by
  have hd:=Int.dvd_of_tmod_eq_zero h;exact⟨Int.tmod_eq_zero_of_dvd (Int.dvd_trans (by decide) hd),Int.tmod_eq_zero_of_dvd (Int.dvd_trans (by decide) hd)⟩
 by_cases hm:1<=m/\m<=12
 ·rw[show(decide (1<=m)&&decide (m<=12))=true by simp[hm]] at hw;rcases(show m=1\/m=2\/m=3\/m=4\/m=5\/m=6\/m=7\/m=8\/m=9\/m=10\/m=11\/m=12 by omega) with rfl|rfl|rfl|rfl|rfl|rfl|rfl|rfl|rfl|rfl|rfl|rfl
  all_goals
   refine aw func131 call131 λC hC hGL=> ?_;refine xw ?_;repeat' first|exact .n|apply Lc.mk
   all_goals intros
   all_goals (apply aj;refine congrArg (AVal.int .i64) ?_;unfold pL;(repeat' split)<;>first|rfl|omega)
 ·rw[show(decide (1<=m)&&decide (m<=12))=false by simp;omega] at hw;refine aw func131 call131 λC hC hGL=> ?_;refine aZ ?_;intros;apply aj;refine congrArg (AVal.int .i64) ?_;unfold pL;rw[if_pos (by omega)]
end
section
def MM:List UInt8:=[32,45,45,45,32,57,45,45,32,57,57,45,32,57,57,57,32,45,57,45,32,45,57,57,32,45,45,57,32]
def N4:List UInt8:=[32,57,57,57,32,45,57,57,32,45,45,57,32]
def Nw:List UInt8:=[32,57,45,45,32,57,57,45,32,57,57,57,32]
def N7 (l:List UInt8)(a b c:Bool):Bool:=Lib.contains l (([32]++sB a b c)++[32])
theorem cnA:∀a b c:Bool,N7 MM a b c=decide (0<=cZ a b c):=by decide
theorem cnD:∀a b c:Bool,N7 N4 a b c=decide (cZ a b c=3\/cZ a b c=5\/cZ a b c=6):=by decide
theorem cnT:∀a b c:Bool,N7 Nw a b c=decide (1<=cZ a b c/\cZ a b c<=3):=by decide
theorem Bq:∀a b c:Bool,sB a b c=[45,45,45]↔cZ a b c=0:=by decide
theorem KV:∀a b c d e f:Bool,sB a b c=sB d e f↔cZ a b c=cZ d e f:=by decide
theorem Cb:∀a b c:Bool, -1<=cZ a b c/\cZ a b c<=6:=by decide
def tf (d t:Int)(z:Bool)(h o:Int):Prop:=(0<=d/\0<=t/\¬(d=0/\t=0)/\(0<d/\0<t->(d=3\/d=5\/d=6)/\t<=3))/\(if z then h≠ -1 else o=0)
theorem il (t:Stm):t.frm=true↔tf t.dn t.tn t.z t.h t.o:=by
 unfold Stm.frm tf L8;rw[Bool.and_eq_true,decide_eq_true_eq];refine and_congr Iff.rfl ?_;cases t.z<;>simp[jS]
theorem p7 {G:Glo}{m:Int}(hU:ab G (cw m))(l:List UInt8)(hl:l.length<100000)(a b c:Bool):an prog G 71 [.str l,.str (([32]++sB a b c)++[32])] (.bool (N7 l a b c)):=iT hU l _ hl
theorem E_3 {t:Stm}(h:¬tf t.dn t.tn t.z t.h t.o):t.E= .errno 3:=by
 unfold Stm.E;rw[if_neg (λk=>h ((il t).1 k))]
theorem E_2 {t:Stm}(h:tf t.dn t.tn t.z t.h t.o)(k:t.rng=false):t.E= .errno 2:=by
 unfold Stm.E;rw[if_pos ((il t).2 h),k];rfl
theorem E_0 {t:Stm}(h:tf t.dn t.tn t.z t.h t.o)(k:t.rng=true):t.E= .none:=by
 unfold Stm.E;rw[if_pos ((il t).2 h),k];rfl
attribute [local irreducible] bI ap az aW ab ad aa
attribute [local irreducible] sB N7 dD ar pL sC
theorem jr {G:Glo}{m:Int}(hU:ab G (cw m))(t:Stm):an prog G 143 [t.A] t.E.A:=by
 have h1:=ld (G:=G) t.y t.m t.d;have h2:=ld (G:=G) t.h t.i t.s;have h3a:=p7 (G:=G) hU MM (by decide) (ar t.y) (ar t.m) (ar t.d);have h3b:=p7 (G:=G) hU N4 (by decide) (ar t.y) (ar t.m) (ar t.d);have h4a:=p7 (G:=G) hU MM (by decide) (ar t.h) (ar t.i) (ar t.s);have h4b:=p7 (G:=G) hU Nw (by decide) (ar t.h) (ar t.i) (ar t.s);rw[cnA] at h3a h4a;rw[cnD] at h3b;rw[cnT] at h4b;have k1:=Bq (ar t.y) (ar t.m) (ar t.d);have k2:=Bq (ar t.h) (ar t.i) (ar t.s);have k3:=KV (ar t.y) (ar t.m) (ar t.d) (ar t.h) (ar t.i) (ar t.s);have k4:=Cb (ar t.y) (ar t.m) (ar t.d);have k5:=Cb (ar t.h) (ar t.i) (ar t.s);have h5:=Dx (G:=G) t.y t.m;have h6:=λn lo hi=>wZ (G:=G) n lo hi;have h7:=mo (G:=G) t.o;have l1:(sB (ar t.y) (ar t.m) (ar t.d)).length=3:=by unfold sB;rfl
 have l2:(sB (ar t.h) (ar t.i) (ar t.s)).length=3:=by unfold sB;rfl
 refine aw func143 call143 λC hC hGL=> ?_;refine aT ?_;intros;refine dz mixed hC hGL false (λ(_:Unit)=>[(1,.rop [.int .i64 t.y,.int .i64 t.m,.int .i64 t.d,.int .i64 t.h,.int .i64 t.i,.int .i64 t.s,.bool t.z,.int .i64 t.o] 0),(2,.raw .nilIface),(3,.str (sB (ar t.y) (ar t.m) (ar t.d))),(4,.str (sB (ar t.h) (ar t.i) (ar t.s)))]) (λ_=>[]) .p4 (by kernel_rfl) ?_ ?_
 ·refine xn ?_;repeat' first|exact .n|apply Lc.mk
  all_goals intros
  all_goals exact⟨(),⟨rfl,rfl,rfl,rfl,trivial⟩,rfl⟩
 intro _;clear h1 h2;have hE3:=λh=>E_3 (t:=t) h;have hE2:=λh k=>E_2 (t:=t) h k;have hE0:=λh k=>E_0 (t:=t) h k;unfold tf Stm.dn Stm.tn at hE3 hE2 hE0;unfold Stm.rng Stm.day at hE2 hE0;cases hz:t.z;all_goals
  rw[hz] at hE3 hE2 hE0;simp only[Bool.false_eq_true,if_false,if_true] at hE3 hE2 hE0;repeat' (first|(conv=>whnf);first|refine .w ?_|refine .v ?_|refine bu ?_ ?_<;>(intro hb;try exact dd hb)|apply au|apply aM|(apply a6<;>intro hb)|(apply ba;intro hbd)|(apply aJ;first|exact h3a|exact h3b|exact h4a|exact h4b|exact h5|exact h6 _ _ _|exact h7)|(apply ax (i:=0) rfl;first|exact h3a|exact h3b|exact h4a|exact h4b|exact h5|exact h6 _ _ _|exact h7)|(apply bc;intro bl)|(apply bh;intro va vk vc hva)|(apply bg;intro v)|(apply bj;intro bl cap hcap)|apply bx|(apply bf<;>intro hnx)|exact True.intro|(apply cW;intro C hC)|apply cV|apply cT|(apply cU;exact rfl)|(show Rt _ _ _;exact a7)|fail)
  all_goals try conv=>whnf
  all_goals
   clear h3a h3b h4a h4b h5 h6 h7;simp only[ne_eq,Bq,KV,decide_eq_true_eq,decide_eq_false_iff_not] at*
   apply aj;generalize cZ (ar t.y) (ar t.m) (ar t.d)=dn at*
   generalize cZ (ar t.h) (ar t.i) (ar t.s)=tn at*
   generalize sC t.o=zr at*
   first|rw[if_neg (by assumption)] at hE2 hE0|rw[if_pos (by assumption)] at hE2 hE0|skip
   generalize dD t.m 1 12=w1 at*
   generalize dD t.d 1 (pL t.y t.m)=w2 at*
   generalize dD t.d 1 31=w8 at*
   generalize dD t.h 0 23=w3 at*
   generalize dD t.i 0 59=w4 at*
   generalize dD t.s 0 59=w5 at*
   generalize dD t.y 0 9999=w6 at*
   first
    |(rw[hE3 (by omega)];rfl)
    |(rw[hE2 (by omega) (by simp[*])];rfl)
    |(rw[hE0 (by omega) (by simp[*])];rfl)
end
section
attribute [local irreducible] bI ap aa az aW ab ad
theorem J5 {a b:Int}:cY a b=decide (a=b):=by rw[Bool.eq_iff_iff,fh,decide_eq_true_eq]
theorem Vl.E_bad {v:Vl}(h:v.t<1\/9<=v.t\/v.only=false):v.E= .errno 1:=if_pos h
theorem Vl.E_ok {v:Vl}(h1:1<=v.t)(h2:v.t<9)(h3:v.only=true):v.E=if v.t=2\/v.t=3 then pF v.t v.L
  else if v.t=4 then(fZ v.s).b else if v.t=5 then v.st.E else if v.t=6 then iw v.n else if v.t=7 then(bM v.s).b else if dR (decide (v.t=1)) v.s then .none else .errno 3:=by
 unfold Vl.E;rw[if_neg];rintro(h|h|h)
 ·omega
 ·omega
 ·rw[h3] at h;cases h
theorem Vl.E_rest {v:Vl}(h:v.only=true)(h1:1<=v.t)(h2:v.t<9)(a:v.t≠2)(b:v.t≠3)(c:v.t≠4)(d:v.t≠5)(e:v.t≠6)(f:v.t≠7):v.E=if dR (decide (v.t=1)) v.s then .none else .errno 3:=by
 rw[Vl.E_ok h1 h2 h,if_neg (by omega),if_neg c,if_neg d,if_neg e,if_neg f]
theorem Vl.E_p {v:Vl}(h:v.only=true)(a:v.t=2\/v.t=3):v.E=pF v.t v.L:=by rw[Vl.E_ok (by omega) (by omega) h,if_pos a]
theorem Vl.E_4 {v:Vl}(h:v.only=true)(a:v.t=4):v.E=(fZ v.s).b:=by rw[Vl.E_ok (by omega) (by omega) h,if_neg (by omega),if_pos a]
theorem Vl.E_5 {v:Vl}(h:v.only=true)(a:v.t=5):v.E=v.st.E:=by rw[Vl.E_ok (by omega) (by omega) h,if_neg (by omega),if_neg (by omega),if_pos a]
theorem Vl.E_6 {v:Vl}(h:v.only=true)(a:v.t=6):v.E=iw v.n:=by rw[Vl.E_ok (by omega) (by omega) h,if_neg (by omega),if_neg (by omega),if_neg (by omega),if_pos a]
theorem Vl.E_7 {v:Vl}(h:v.only=true)(a:v.t=7):v.E=(bM v.s).b:=by rw[Vl.E_ok (by omega) (by omega) h,if_neg (by omega),if_neg (by omega),if_neg (by omega),if_neg (by omega),if_pos a]
theorem CE {t:Int}{L:List (List (List UInt8))}(h:L.length=0\/(t=2/\L.length≠1)):pF t L= .errno 8:=if_pos h
theorem CF {t:Int}{L:List (List (List UInt8))}(h:¬(L.length=0\/(t=2/\L.length≠1))):pF t L=if cX L<L.length then .errno 8 else if Hs L then .none else .errno 3:=if_neg h
structure Vl.OK (v:Vl):Prop where
 s:v.s.length<=9223372036854775000
 n:v.L.length<=2000000
 r:∀k,(v.L.getD k []).length<=2000000
 l:∀k j,((v.L.getD k []).getD j []).length<=9223372036854775807
attribute [local irreducible] lR dR fp iL Vl.only fZ bM Stm.E sC cX Hs
theorem oT {G:Glo}{m:Int}(hU:ab G errTy)(hM:ab G (cw m))(v:Vl)(hv:v.OK):an prog G 90 [v.A] v.E.A:=by
 have h0:=z6 (G:=G) v;have h1:=Dy (G:=G) v.s (by have:=hv.s;omega);have h2:=qn hU (fZ v.s);rw[<-tl (fZ v.s)] at h2;have h3:=jr hM v.st;have h4:=mo (G:=G) v.n;have h5:=mF (G:=G) v.s (by have:=hv.s;omega)
 have h6:=qn hU (bM v.s)
 rw[<-tl (bM v.s)] at h6
 have h7:=oU (G:=G) v.s (cY v.t 1) (by have:=hv.s;omega)
 have h8:=λk j=>oU (G:=G) ((v.L.getD k []).getD j []) true (hv.l k j)
 rw[show dR (cY v.t 1) v.s=dR (decide (v.t=1)) v.s by rw[J5]] at h7
 have k1:=λk j (_:(0:Int)<=0)=>h8 k j
 have hn:=hv.n
 have hr:=hv.r
 obtain⟨t,s,L,st,n⟩:=v
 dsimp only at*
 by_cases ht:t<1\/9<=t
 ·rw[Vl.E_bad (v:=⟨t,s,L,st,n⟩) (ht.elim .inl (λh=>.inr (.inl h)))]
  refine aw func90 call90 λC hC hGL=> ?_
  refine xw ?_
  repeat' first|exact .n|apply Lc.mk
  all_goals intros
  all_goals dsimp only at*
  all_goals first|exact aj rfl|(exfalso;omega)
 cases ho:Vl.only ⟨t,s,L,st,n⟩
 ·rw[Vl.E_bad (.inr (.inr ho))]
  rw[ho] at h0
  refine aw func90 call90 λC hC hGL=> ?_
  exact bK
 ·rw[ho] at h0
  refine aw func90 call90 λC hC hGL=> ?_
  refine xw ?_
  repeat' first|exact .n|apply Lc.mk
  all_goals intros
  all_goals dsimp only at*
  all_goals try first
   |(apply aj;rw[Vl.E_4 ho (by assumption)];done)
   |(apply aj;rw[Vl.E_5 ho (by assumption)];done)
   |(apply aj;rw[Vl.E_7 ho (by assumption)];done)
   |(apply aj;rw[Vl.E_6 ho (by assumption)];unfold iw;dsimp only;rw[show sC n=true by assumption];rfl)
   |(apply aj;rw[Vl.E_6 ho (by assumption)];unfold iw;dsimp only;rw[show sC n=false by assumption];rfl)
   |(apply aj;rw[Vl.E_p ho (by first|exact .inl (by assumption)|exact .inr (by assumption)),CE (by dsimp only;omega)];rfl)
   |(apply aj;rw[Vl.E_rest ho (by assumption) (by assumption) (by assumption) (by assumption) (by assumption) (by assumption) (by assumption) (by assumption)];dsimp only;rw[show dR (decide (t=1)) s=true by assumption];rfl)
   |(apply aj;rw[Vl.E_rest ho (by assumption) (by assumption) (by assumption) (by assumption) (by assumption) (by assumption) (by assumption) (by assumption)];dsimp only;rw[show dR (decide (t=1)) s=false by assumption];rfl)
  all_goals
   rw[Vl.E_p ho (by first|exact .inl (by assumption)|exact .inr (by assumption)),CF (by dsimp only;omega)]
   dsimp only
   refine lp hC hGL (λk:Nat=>[(1,.rop [.int .i64 t,.str s,.list 1 L.length (bF L),.int .i64 st.y,.int .i64 st.m,.int .i64 st.d,.int .i64 st.h,.int .i64 st.i,.int .i64 st.s,.bool st.z,.int .i64 st.o,.int .i64 n] 0),(45,.list 1 L.length (bF L)),(46,.int .i64 (L.length:Nat)),(47,.int .i64 (k:Nat))]) (λ_=>[]) (λk=>k<=cX L) (λk=>L.length-k) 0 ?_ ai rfl ?_
   ·exact Nat.zero_le _
   intro k hk
   have hnl:=nl L
   refine xw ?_
   repeat' first|exact .n|apply Lc.mk
   all_goals intros
   all_goals try first
    |(apply aj;rw[if_pos (CN (by omega) hk (by omega))];rfl)
    |exact db (k+1) (yG (by omega) hk (by omega)) (by omega) ai rfl
   rw[if_neg (by omega)]
   refine lp hC hGL (λk:Nat=>[(57,.list 1 L.length (bF L)),(58,.int .i64 (L.length:Nat)),(59,.int .i64 (k:Nat))]) (λ_=>[]) (λk=>k<=L.length/\Nn L k) (λk=>L.length-k) 0 ?_ ai rfl ?_
   ·exact⟨Nat.zero_le _,λi hi=>absurd hi (Nat.not_lt_zero _)⟩
   rintro i ⟨hi,hK⟩
   refine xw ?_
   repeat' first|exact .n|apply Lc.mk
   all_goals intros
   all_goals try (apply aj;rw[C6 (by omega) hK];rfl)
   ·refine lp hC hGL (λj:Nat=>[(57,.list 1 L.length (bF L)),(58,.int .i64 (L.length:Nat)),(59,.int .i64 (i:Nat)),(63,.list 1 (L.getD i []).length (aE (L.getD i []))),(64,.int .i64 ((L.getD i []).length:Nat)),(65,.int .i64 (j:Nat))]) (λ_=>[]) (λj=>j<=(L.getD i []).length/\NR (L.getD i []) j) (λj=>(L.getD i []).length-j) 0 ?_ ai rfl ?_
    ·exact⟨Nat.zero_le _,λi hi=>absurd hi (Nat.not_lt_zero _)⟩
    rintro j ⟨hj,hJ⟩
    have hri:=hr i
    refine xw ?_
    repeat' first|exact .n|apply Lc.mk
    all_goals intros
    all_goals first
     |(apply aj;rw[C5 (k:=i) (by omega) (C7 (j:=j) (by omega) (by assumption))];rfl)
     |exact db (j+1) ⟨by omega,y8 hJ (by assumption)⟩ (by omega) ai rfl
     |exact db (i+1) ⟨by omega,y7 hK (C8 (by omega) hJ)⟩ (by omega) ai rfl
end
section
attribute [local irreducible] bI ap aa az aW ab ad
theorem JH {P:Program}[Tab P]{C:Ctx}{n:Nat}{env:Env}{H:Heap}{Q:aK->Env->Heap->Prop}{c:Code}(k:Lp P C n c env [] Q):Lp P C n c env H Q:=
 KM (λR _ _ hm hf=>⟨R,Seal.le_refl R,hm.drop (List.nil_sublist _),hf⟩) k
theorem GM {v:Vl}{z:Bool}(hz:iL v.st=z):v.only=true↔(v.s.length=0\/v.t=1\/v.t=4\/v.t=7\/v.t=8)/\(v.L.length=0\/v.t=2\/v.t=3)/\((if z then 0 else 1:Int)=0\/v.t=5)/\(v.n=0\/v.t=6):=by
 unfold Vl.only
 rw[hz,decide_eq_true_eq];cases z<;>simp
theorem Vl.E_out {v:Vl}(h:v.t<1\/9<=v.t):v.E= .errno 1:=Vl.E_bad (h.elim .inl (λk=>.inr (.inl k)))
theorem Vl.E_no {v:Vl}(h:¬v.only=true):v.E= .errno 1:=Vl.E_bad (.inr (.inr (by simpa using h)))
attribute [local irreducible] lR dR fp iL Vl.only fZ bM Stm.e sC cX Hs
theorem ky {G:Glo}{m:Int}(hU:ab G utfTy)(hM:ab G (cw m))(v:Vl)(hv:v.OK)(hl:v.s.length<=10000)(h3:an prog G 76 [v.st.A] (.int .i64 v.st.e)):an prog G 35 [v.A] (.int .i64 v.E.e):=by
 have h1:=vH (G:=G) v.s (by omega);have h4:=iz (G:=G) v.n;have h5:=iB hM v.s hl;have h7:=oz hU v.s true (by omega);have h8:=oz hU v.s false (by omega);have k1:=λk j (_:(0:Int)<=0)=>oz hU ((v.L.getD k []).getD j []) true (hv.l k j);have hW:=dV (G:=G) v.t 1 8;have hz:=qi v.st;have hz0:td [cY 0 0,cY 0 0,cY 0 0,cY 0 0,cY 0 0,cY 0 0,false==false,cY 0 0]=true:=by rw[qi ⟨0,0,0,0,0,0,false,0⟩];unfold iL;rfl
 have hn:=hv.n;have hr:=hv.r;by_cases ht:v.t<1\/9<=v.t
 ·rw[show(decide (1<=v.t)&&decide (v.t<=8))=false by rw[<-Bool.not_eq_true,Bool.and_eq_true,decide_eq_true_eq,decide_eq_true_eq];omega] at hW;rw[Vl.E_out ht];refine aw func35 call35 λC hC hGL=> ?_;exact bK
 rw[show(decide (1<=v.t)&&decide (v.t<=8))=true by rw[Bool.and_eq_true,decide_eq_true_eq,decide_eq_true_eq];omega] at hW;have hO:=GM (v:=v) rfl;cases hq:iL v.st
 all_goals
  rw[hq] at hz hO;simp only[if_true,if_false,Bool.false_eq_true,true_or,true_and] at hO;refine aw func35 call35 λC hC hGL=> ?_;refine xw ?_;repeat' first|exact .n|apply Lc.mk
  all_goals intros
  all_goals first
   |(refine aO hC hGL (oj _ rfl rfl rfl rfl (by kernel_rfl) (by kernel_rfl) (by kernel_rfl) rfl hz) rfl rfl ?_;refine xw ?_)
   |(refine aO hC hGL (oj _ rfl rfl rfl rfl (by kernel_rfl) (by kernel_rfl) (by kernel_rfl) rfl hz0) rfl rfl ?_;refine xw ?_)
   |skip
  repeat' first|exact .n|apply Lc.mk
  all_goals intros
  all_goals try first
   |(apply aj;rw[Vl.E_no (λk=>by have:=hO.1 k;omega)];rfl)
   |(apply aj;rw[Vl.E_4 (hO.2 (by omega)) (by assumption),Err.b_e];done)
   |(apply aj;rw[Vl.E_5 (hO.2 (by omega)) (by assumption),Stm.E_e];done)
   |(apply aj;rw[Vl.E_7 (hO.2 (by omega)) (by assumption),Err.b_e];done)
   |(apply aj;rw[Vl.E_6 (hO.2 (by omega)) (by assumption)];unfold iw;rw[show sC v.n=true by assumption];rfl)
   |(apply aj;rw[Vl.E_6 (hO.2 (by omega)) (by assumption)];unfold iw;rw[show sC v.n=false by assumption];rfl)
   |(apply aj;rw[Vl.E_p (hO.2 (by omega)) (by omega),CE (by omega)];rfl)
   | (apply aj;rw[Vl.E_rest (hO.2 (by omega)) (by omega) (by omega) (by omega) (by omega) (by omega) (by omega) (by omega) (by omega)];first
     |(rw[show decide (v.t=1)=true from decide_eq_true (by omega),show dR true v.s=true by assumption];rfl)
     |(rw[show decide (v.t=1)=true from decide_eq_true (by omega),show dR true v.s=false by assumption];rfl)
     |(rw[show decide (v.t=1)=false from decide_eq_false (by omega),show dR false v.s=true by assumption];rfl)
     |(rw[show decide (v.t=1)=false from decide_eq_false (by omega),show dR false v.s=false by assumption];rfl))
  all_goals
   rw[Vl.E_p (hO.2 (by omega)) (by omega),CF (by omega)];refine JH ?_;refine lp hC hGL (λx:Nat×Bool=>[(4,.bool x.2),(71,.list 1 v.L.length (bF v.L)),(72,.int .i64 (v.L.length:Nat)),(73,.int .i64 (x.1:Nat))]) (λ_=>[]) (λx=>x.1<=cX v.L/\(x.2=false->Nn v.L x.1)/\(x.2=true->Hs v.L=false)) (λx=>v.L.length-x.1) (0,false) ?_ ai rfl ?_
   ·exact⟨Nat.zero_le _,λ_ i hi=>absurd hi (Nat.not_lt_zero _),λh=>by cases h⟩
   rintro⟨k,b⟩ ⟨hk,hb1,hb2⟩;dsimp only at hk hb1 hb2;have hnl:=nl v.L;refine xw ?_;repeat' first|exact .n|apply Lc.mk
   all_goals intros
   all_goals try dsimp only at*
   all_goals try first
    |(apply aj;rw[if_pos (CN (k:=k) (by omega) hk (by omega))];rfl)
    |(apply aj;rw[if_neg (by omega),hb2 (by assumption)];rfl)
    |(apply aj;rw[if_neg (by omega),C6 (by omega) (hb1 (by assumption))];rfl)
   refine lp hC hGL (λx:Nat×Bool=>[(4,.bool x.2),(71,.list 1 v.L.length (bF v.L)),(72,.int .i64 (v.L.length:Nat)),(73,.int .i64 (k:Nat)),(80,.list 1 (v.L.getD k []).length (aE (v.L.getD k []))),(81,.int .i64 ((v.L.getD k []).length:Nat)),(82,.int .i64 (x.1:Nat))]) (λ_=>[]) (λx=>x.1<=(v.L.getD k []).length/\(x.2=false->Nn v.L k/\NR (v.L.getD k []) x.1)/\(x.2=true->Hs v.L=false)) (λx=>(v.L.getD k []).length-x.1) (0,b) ?_ ai rfl ?_
   ·exact⟨Nat.zero_le _,λh=>⟨hb1 h,λi hi=>absurd hi (Nat.not_lt_zero _)⟩,hb2⟩
   rintro⟨j,c⟩ ⟨hj,hc1,hc2⟩;dsimp only at hj hc1 hc2;have hrk:=hr k;refine xw ?_;repeat' first|exact .n|apply Lc.mk
   all_goals intros
   all_goals try dsimp only at*
   all_goals first
    |(refine db (k+1,c) ⟨yG (by omega) hk (by omega),λh=>y7 (hc1 h).1 (C8 (by omega) (hc1 h).2),hc2⟩ (by dsimp only;omega) ai rfl)
    |(refine db (j+1,true) ⟨by dsimp only;omega,λh=>Bool.noConfusion h,λ_=>hc2 (by assumption)⟩ (by dsimp only;omega) ai rfl)
    |(refine db (j+1, !(dR true ((v.L.getD k []).getD j []))) ⟨by dsimp only;omega,λh=>⟨(hc1 (by assumption)).1,y8 (hc1 (by assumption)).2 (by simpa using h)⟩,λh=>C5 (k:=k) (by omega) (C7 (j:=j) (by omega) (by simpa using h))⟩ (by dsimp only;omega) ai rfl)
end
section
attribute [local irreducible] bI ap aa az aW ab ad
theorem Vl.E_none {v:Vl}(h:v.E= .none):v.only=true/\1<=v.t/\v.t<9:=by
 by_cases h1:v.t<1\/9<=v.t\/v.only=false
 ·rw[Vl.E_bad h1] at h;cases h
 ·refine⟨?_,by omega,by omega⟩;cases ho:v.only
  ·exact absurd (.inr (.inr ho)) h1
  ·rfl
theorem Vl.T_ok {v:Vl}(h:v.E= .none):v.T=if v.t=1 then escS v.s else if v.t=2\/v.t=3 then eC v.L else if v.t=5 then v.st.T else if v.t=6 then fY v.n else v.s:=by
 unfold Vl.T;rw[h]
theorem Vl.T_no {v:Vl}(h:v.E≠ .none):v.T=[]:=by
 unfold Vl.T;split
 ·rename_i k;exact absurd k h
 ·rfl
theorem yW {t:Int}{L:List (List (List UInt8))}(h:pF t L= .none):fd L= .none:=by
 unfold pF at h;unfold fd;split at h
 ·cases h
 ·split at h
  ·cases h
  ·rename_i h1 h2;rw[if_neg (λk=>h1 (.inl (by rw[k];rfl))),if_neg h2]
theorem Vl.right {v:Vl}(h:v.E= .none):(v.t=2\/v.t=3->fd v.L= .none)/\(v.t=5->v.st.E= .none)/\(v.t=6->iw v.n= .none):=by
 obtain⟨ho,_,_⟩:=Vl.E_none h;refine⟨λk=> ?_,λk=> ?_,λk=> ?_⟩
 ·rw[Vl.E_p ho k] at h;exact yW h
 ·rwa [Vl.E_5 ho k] at h
 ·rwa [Vl.E_6 ho k] at h
theorem T_1 {v:Vl}(h:v.E= .none)(k:v.t=1):v.T=escS v.s:=by rw[Vl.T_ok h,if_pos k]
theorem T_2 {v:Vl}(h:v.E= .none)(k:v.t=2\/v.t=3):v.T=eC v.L:=by rw[Vl.T_ok h,if_neg (by omega),if_pos k]
theorem T_5 {v:Vl}(h:v.E= .none)(k:v.t=5):v.T=v.st.T:=by rw[Vl.T_ok h,if_neg (by omega),if_neg (by omega),if_pos k]
theorem T_6 {v:Vl}(h:v.E= .none)(k:v.t=6):v.T=fY v.n:=by rw[Vl.T_ok h,if_neg (by omega),if_neg (by omega),if_neg (by omega),if_pos k]
theorem T_s {v:Vl}(h:v.E= .none)(a:v.t≠1)(b:v.t≠2)(c:v.t≠3)(d:v.t≠5)(e:v.t≠6):v.T=v.s:=by rw[Vl.T_ok h,if_neg a,if_neg (by omega),if_neg d,if_neg e]
attribute [local irreducible] Vl.E Vl.T eC fd fY iw Stm.T Stm.E Stm.e escS escF
theorem w7 {G:Glo}(v:Vl)(hR:an prog G 90 [v.A] v.E.A)(hE:an prog G 148 [.str v.s] (.str (escS v.s)))
  (hJ:an prog G 149 [.list 1 v.L.length (bF v.L)] (.tuple [.str (eC v.L),(fd v.L).A])) (hP:an prog G 150 [v.st.A] (.tuple [.str v.st.T,v.st.E.A])):
  an prog G 92 [v.A] (.tuple [.str v.T,v.E.A]):=by
 have hZ:=qh (G:=G) v.n;rcases hq:v.E with _|e|⟨e,p⟩
 ·obtain⟨r1,r2,r3⟩:=Vl.right hq
  have t1:=T_1 hq
  have t2:=T_2 hq
  have t5:=T_5 hq
  have t6:=T_6 hq
  have ts:=T_s hq
  rw[hq] at hR
  refine aw func92 call92 λC hC hGL=> ?_
  refine xw ?_
  repeat' first|exact .n|apply Lc.mk
  all_goals intros
  all_goals first
   |(apply aj;rw[t1 (by assumption)]<;>rfl)
   |(apply aj;rw[t2 (by omega),r1 (by omega)]<;>rfl)
   |(apply aj;rw[t5 (by assumption),r2 (by assumption)]<;>rfl)
   |(apply aj;rw[t6 (by assumption),r3 (by assumption)]<;>rfl)
   |(apply aj;rw[ts (by assumption) (by assumption) (by assumption) (by assumption) (by assumption)]<;>rfl)
 ·rw[Vl.T_no (by rw[hq];exact λk=>by cases k)]
  rw[hq] at hR
  refine aw func92 call92 λC hC hGL=> ?_
  exact bK
 ·rw[Vl.T_no (by rw[hq];exact λk=>by cases k)]
  rw[hq] at hR
  refine aw func92 call92 λC hC hGL=> ?_
  exact bK
theorem qM {G:Glo}(v:Vl)(hR:an prog G 35 [v.A] (.int .i64 v.E.e))(hE:an prog G 78 [.str v.s] (.str (escS v.s)))
  (hJ:an prog G 79 [.list 1 v.L.length (bF v.L)] (.tuple [.str (eC v.L),.agg [.int .i64 (fd v.L).e,.int .i64 (fd v.L).p]])) (hP:an prog G 80 [v.st.A] (.tuple [.str v.st.T,.int .i64 v.st.e]))
  (h0:v.E.e=0->v.E= .none):an prog G 36 [v.A] (.tuple [.str v.T,.int .i64 v.E.e]):=by
 have hZ:=lZ (G:=G) v.n;by_cases hq:v.E= .none
 ·obtain⟨r1,r2,r3⟩:=Vl.right hq;have t1:=T_1 hq;have t2:=T_2 hq;have t5:=T_5 hq;have t6:=T_6 hq;have ts:=T_s hq;have r4:v.t=5->v.st.e=0:=λk=>by rw[<-Stm.E_e,r2 k];rfl
  rw[hq] at hR ⊢;have hR:an prog G 35 [v.A] (.int .i64 0):=hR;have e0:(Err.none).e=0:=rfl;rw[e0];refine aw func36 call36 λC hC hGL=> ?_;refine xw ?_;repeat' first|exact .n|apply Lc.mk
  all_goals intros
  all_goals first
   |(apply aj;rw[t1 (by assumption)]<;>rfl)
   |(apply aj;rw[t2 (by omega)]<;>rfl)
   |(apply aj;rw[t5 (by assumption),r4 (by assumption)]<;>rfl)
   |(apply aj;rw[t6 (by assumption),r3 (by assumption)]<;>rfl)
   |(apply aj;rw[ts (by assumption) (by assumption) (by assumption) (by assumption) (by assumption)]<;>rfl)
 ·have hne:v.E.e≠0:=λk=>hq (h0 k);rw[Vl.T_no hq];refine aw func36 call36 λC hC hGL=> ?_;exact bK
end
end Go.Proofs.YtmdhmodenkjmdaaGreatDoor
