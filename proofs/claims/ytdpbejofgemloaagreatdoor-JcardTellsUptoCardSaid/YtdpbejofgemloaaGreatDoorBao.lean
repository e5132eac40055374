/- Parts of the proof of jcardTells_card: Rpq, Lnc, Lne, Crp, Jta, Jtb, Jtc, Esq, Tjo, Tjp. -/
import Derived.Test.YtdpbejofgemloaaGreatDoorBan
import Derived.Test.YtdpbejofgemloaaGreatDoorBai
import Derived.Test.YtdpbejofgemloaaGreatDoorBaj
import Derived.Test.YtdpbejofgemloaaGreatDoorBaf
import Derived.Test.YtdpbejofgemloaaGreatDoorBah
import Derived.Test.YtdpbejofgemloaaGreatDoorBag
import Derived.Test.YtdpbejofgemloaaGreatDoorBad
import Derived.Test.YtdpbejofgemloaaGreatDoorBam
import Derived.Test.YtdpbejofgemloaaGreatDoorBak
set_option linter.unusedVariables false
set_option linter.unusedSimpArgs false
set_option linter.unusedSectionVars false
namespace Go.Proofs.YtdpbejofgemloaaGreatDoor
set_option maxRecDepth 20000
set_option maxHeartbeats 4000000
section
open Go Go.RowKit
attribute [local irreducible] AWp AOps aa aA OrOk ad ah
attribute [local irreducible] tabC encF encS
theorem CU (a:AVal):∀R v,Rel R a v→∀w,∃u,(Go.method (Tryz.prog.types.size+Made.depth) 303 v "Replace").run Tryz.prog w= .ok (296,u) w∧Rel R a u:=by
 intro R v hv w
 exact⟨v,by kernel_rfl,hv⟩
structure EncY where
 va:Option Addr
 vk:Nat
 vt:Nat
 bz:Nat
 b1:Nat
 c1:Nat
 b2:Nat
 c2:Nat
 b3:Nat
 c3:Nat
 h:RowV 3 va vk
abbrev encR (y:EncY):List AVal:=[.int .u32 0,.int .i32 1,.int .u32 0,.iface 303 (.own 3 (pv y.bz 0)),.raw (.slice none 0 0)]
abbrev encQ (y:EncY):List AVal:=[.int .u32 1,.int .i32 0,.int .u32 0,.iface 303 (.own 3 (pv y.bz 0)),.raw (.slice none 0 0)]
theorem Gk {G:Glo}(br bl vc:Nat):ah Tryz.prog G 148 [.raw (pv bl 0),.func (.func 149) [.raw (pv bl 0)] []] [.row (.slice (some ⟨br,0,none⟩) 6 vc) none 1 6 [.str [94],.str [94,94],.str [10],.str [94,110],.str [34],.str [94,39]],.cells bl (some 209) (eM (.slice (some ⟨br,0,none⟩) 6 vc))]
  (fun r H=>∃y:EncY,r= .ret (.tuple [])∧H=encH br bl vc (encQ y) y.va y.vk y.vt y.bz y.b1 y.c1 y.b2 y.c2 y.b3 y.c3):=by
 have e1:=xy (G:=G) br bl vc
 have e2:=yl (G:=G) (b:=bl) (off:=0) (fid:=149) (eT:=some 209) (cs:=eM (.slice (some ⟨br,0,none⟩) 6 vc)) (T:=[.row (.slice (some ⟨br,0,none⟩) 6 vc) none 1 6 [.str [94],.str [94,94],.str [10],.str [94,110],.str [34],.str [94,39]]]) (Y:=EncY) (cs2:=encR) (T2:=fun y=>(encH br bl vc (encR y) y.va y.vk y.vt y.bz y.b1 y.c1 y.b2 y.c2 y.b3 y.c3).eraseIdx 1) (l1:=[.raw (pv bl 0)]) (l2:=[]) rfl rfl (fun _=>rfl) (fun _=>rfl) rfl rfl
  (by
   refine dW (dV (List.Perm.swap _ _ _) e1) ?_
   rintro r H ⟨va,vk,vt,bz,b1,c1,b2,c2,b3,c3,hva,rfl,rfl⟩
   exact⟨_,List.Perm.swap _ _ _,⟨va,vk,vt,bz,b1,c1,b2,c2,b3,c3,hva⟩,rfl,rfl⟩)
 refine dW (dV (List.Perm.swap _ _ _) e2) ?_
 rintro r H ⟨y,rfl,rfl⟩
 exact⟨_,List.Perm.swap _ _ _,y,rfl,rfl⟩
theorem tu {G:Glo}(br bl vc:Nat)(s:List UInt8)(hl:s.length≤1000000)(hct:∀c,FnIs Tryz.prog G 187 [.str s,.str [c]] (.int .i64 (s.countP (· ==c):Nat))):
  ah Tryz.prog G 101 [.raw (pv bl 0),.str s] [.row (.slice (some ⟨br,0,none⟩) 6 vc) none 1 6 [.str [94],.str [94,94],.str [10],.str [94,110],.str [34],.str [94,39]],.cells bl (some 209) (eM (.slice (some ⟨br,0,none⟩) 6 vc))] (fun r H=>r= .ret (.str (encS s))∧H=[]):=by
 have hGL:ad G []:=ab
 have e1:=Gk (G:=G) br bl vc
 refine gh 1 Tryz.func101 Tryz.call101 rfl rfl rfl rfl hGL rfl ?_
 intro C hC
 refine xn1 ?_
 intros
 refine⟨_,e1,?_,fun v' H' ⟨y,e,_⟩=>by cases e⟩
 rintro v' H' ⟨y,e,rfl⟩
 cases e
 have e3:=ve (G:=G) br bl vc (encQ y) y.va y.vk y.vt y.bz y.b1 y.c1 y.b2 y.c2 y.b3 y.c3 y.h s hl hct
 refine xn1 ?_
 intros
 refine iv 296 (.raw (pv y.bz 0)) (CU _) (sk e3 ?_)
 exact xn0
theorem lm {G:Glo}(s:List UInt8)(hl:s.length≤1000000)(hct:∀c,FnIs Tryz.prog G 187 [.str s,.str [c]] (.int .i64 (s.countP (· ==c):Nat))):FnIs Tryz.prog G 140 [.str s] (.str (encS s)):=by
 have hGL:ad G []:=ab
 refine fn_x Tryz.func140 Tryz.call140 rfl rfl rfl rfl hGL ?_
 intro C hC
 refine xn1 ?_
 intros
 refine⟨_,mX 6 _ (by decide) (by decide) ?_,?_,?_⟩
 ·unfold aA
  exact f5 rfl
 ·rintro v H' ⟨bl,va,vk,vc,hva,e,rfl⟩
  cases e
  obtain⟨br,rfl,rfl⟩:=hva (by omega)
  have e2:=tu (G:=G) br bl vc s hl hct
  refine xn1 ?_
  intros
  refine sk e2 ?_
  exact xn0
 ·rintro v H' ⟨bl,va,vk,vc,hva,e,rfl⟩
  cases e
end
section
open Go Go.RowKit
attribute [local irreducible] AWp AOps aa aA OrOk ad ah
attribute [local irreducible] hdC hdB badI isS mayV encS
theorem j5 {G:Glo}(s:List UInt8)(hl:s.length≤9223372036854775807):FnIs Tryz.prog G 138 [.str s] (.bool (hdB false s)):=by
 have hB:=xN (G:=G) s hl
 have k1:=fun i (_:0≤(aa s i:Int))=>rO (G:=G) (aa s i)
 have hGL:ad G []:=ab
 refine fn_x Tryz.func138 Tryz.call138 rfl rfl rfl rfl hGL ?_
 intro C hC
 refine xw1 ?_
 refine lp hC hGL (fun i:Nat=>[(0,.str s),(5,.int .i64 (s.length:Nat)),(6,.int .i64 (i:Nat))]) (fun _=>[]) (fun i=>i≤s.length∧∀j,j<i→hdC false (aa s j:Int)=false) (fun i=>s.length-i) 0 ?_ ae rfl ?_
 ·exact⟨Nat.zero_le _,fun j h=>absurd h (Nat.not_lt_zero _)⟩
 rintro i ⟨h1,h2⟩
 refine xw ?_
 repeat' (first|exact Le.n|refine Lc.mk ?_ ?_)
 all_goals intros
 all_goals first
  |(apply ak;rw[Co (i:=i) (by omega) (by assumption) h2];rfl)
  |(refine nxt (i+1) ⟨by omega,bG h2 (by assumption)⟩ (by omega) ae rfl)
  |(apply ak;rw[yG (i:=i) (by omega) h2])
theorem j6 {G:Glo}(s:List UInt8)(c:Bool)(hl:s.length≤1000000):FnIs Tryz.prog G 137 [.str s,.bool c] (.bool (mayV c s)):=by
 have hq:=fun t=>aV (G:=G) t 34 (by decide) (by decide)
 cases c with
 |true=>
  have hE:=lm (G:=G) s hl (jt _)
  have hC1:=j5 (G:=G) (encS s) (by have:=(fk s).2;omega)
  have hq1:=hq (encS s)
  have e:mayV true s=(hdB false (encS s)&&decide (idxB (encS s) 34<0)):=by unfold mayV eIf;rfl
  rw[e]
  have hGL:ad G []:=ab
  refine fn_x Tryz.func137 Tryz.call137 rfl rfl rfl rfl hGL ?_
  intro C hC
  refine xw ?_
  repeat' (first|exact Le.n|refine Lc.mk ?_ ?_)
  all_goals intros
  all_goals (apply ak;refine congrArg AVal.bool ?_;rw[show hdB false (encS s)=_ by assumption])
  all_goals (rw[Bool.eq_iff_iff];simp[jJ])
 |false=>
  have hC1:=j5 (G:=G) s (by omega)
  have hq1:=hq s
  have e:mayV false s=(hdB false s&&decide (idxB s 34<0)):=by unfold mayV eIf;rfl
  rw[e]
  have hGL:ad G []:=ab
  refine fn_x Tryz.func137 Tryz.call137 rfl rfl rfl rfl hGL ?_
  intro C hC
  refine xw ?_
  repeat' (first|exact Le.n|refine Lc.mk ?_ ?_)
  all_goals intros
  all_goals (apply ak;refine congrArg AVal.bool ?_;rw[show hdB false s=_ by assumption])
  all_goals (rw[Bool.eq_iff_iff];simp[jJ])
theorem oh {G:Glo}(p:Ln)(c:Bool)(ho:p.Fit):FnIs Tryz.prog G 85 [p.A,.bool c] (p.E c).A:=by
  have n1:=kT (G:=G) p.n (by have:=ho.n;omega)
  have n2:=kT (G:=G) p.g (by have:=ho.g;omega)
  have hv:=j5 (G:=G) p.v (by have:=ho.v;omega)
  have hps:=ho.ps
  have hGL:ad G []:=ab
  refine fn_x Tryz.func85 Tryz.call85 rfl rfl rfl rfl hGL ?_
  intro C hC
  refine xw ?_
  repeat' (first|exact Le.n|refine Lc.mk ?_ ?_)
  all_goals intros
  all_goals try (apply ak;first|(rw[Ln.E_5 (.inl (by assumption))];rfl)|(rw[Ln.E_5 (.inr ⟨by assumption,by assumption⟩)];rfl)|(rw[Ln.E_4 (by assumption) (.inl (by assumption)) (by omega)];rfl)|(rw[Ln.E_4 (by assumption) (.inr (by assumption)) (by omega)];rfl))
  all_goals
    have q1:isS p.n=true:=by assumption
    have q2:p.g.length=0∨isS p.g=true:=by first|exact .inl (by assumption)|exact .inr (by assumption)
    have q3:p.ps.length≤20:=by omega
    refine lp hC hGL (fun k:Nat=>[(1,.bool c),(2,.rop [.str p.g,.str p.n,.list 2 p.ps.length (prF p.ps),.str p.v] 0),(34,.list 2 p.ps.length (prF p.ps)),(35,.int .i64 (p.ps.length:Nat)),(36,.int .i64 (k:Nat))]) (fun _=>[]) (fun k=>k≤p.ps.length∧∀j,j<k→prE c (p.ps.getD j Pr.z)=0) (fun k=>p.ps.length-k) 0 ?_ ae rfl ?_
    · exact⟨Nat.zero_le _,fun j h=>absurd h (Nat.not_lt_zero _)⟩
    rintro k ⟨h1,h2⟩
    have hq:=ho.q k
    have n3:=kT (G:=G) (p.ps.getD k Pr.z).n (by omega)
    by_cases hk:k<p.ps.length
    · cases hn:isS (p.ps.getD k Pr.z).n with
      | false=>
        rw[hn] at n3
        refine xw ?_
        repeat' (first|exact Le.n|refine Lc.mk ?_ ?_)
        all_goals intros
        · refine lp hC hGL (fun x:Nat×Int=>[(1,.bool c),(2,.rop [.str p.g,.str p.n,.list 2 p.ps.length (prF p.ps),.str p.v] 0),(5,.int .i64 (k:Nat)),(7,.int .i64 x.2),(34,.list 2 p.ps.length (prF p.ps)),(35,.int .i64 (p.ps.length:Nat)),(36,.int .i64 (k:Nat)),(52,.list 1 (p.ps.getD k Pr.z).vs.length (aq (p.ps.getD k Pr.z).vs)),(53,.int .i64 ((p.ps.getD k Pr.z).vs.length:Nat)),(54,.int .i64 (x.1:Nat))]) (fun _=>[.cells _ (some 60) [.str (p.ps.getD k Pr.z).n,.list 1 (p.ps.getD k Pr.z).vs.length (aq (p.ps.getD k Pr.z).vs)]]) (fun x=>x.1≤(p.ps.getD k Pr.z).vs.length∧prI c (p.ps.getD k Pr.z) x.1 x.2) (fun x=>(p.ps.getD k Pr.z).vs.length-x.1) (0,5) ?_ ae rfl ?_
          · exact⟨Nat.zero_le _,.inl ⟨hn,rfl⟩⟩
          rintro⟨j,e⟩ ⟨g1,g2⟩
          dsimp only at g1 g2
          have hj:=j6 (G:=G) ((p.ps.getD k Pr.z).vs.getD j []) c (by have:=cL (l:=(p.ps.getD k Pr.z).vs) (k:=j);omega)
          refine xw ?_
          repeat' (first|exact Le.n|refine Lc.mk ?_ ?_)
          all_goals intros
          all_goals try dsimp only at*
          all_goals first
            |exact nxt (j+1,e) ⟨by dsimp only;omega,nW g2 (by assumption)⟩ (by dsimp only;omega) ae rfl
            |exact nxt (j+1,e) ⟨by dsimp only;omega,wi g2 (by assumption) (by assumption)⟩ (by dsimp only;omega) ae rfl
            |exact nxt (j+1,3) ⟨by dsimp only;omega,rC g2 (by assumption) (by omega) (by assumption)⟩ (by dsimp only;omega) ae rfl
            |exact nxs (k+1) ⟨by omega,aQ h2 ((i6 g2 (by omega)).symm.trans (by assumption))⟩ (by omega) ae aB
            | (apply ak
               have e1:=i6 g2 (by omega)
               rw[Ln.E_at q1 q2 q3 (by omega) h2 (by rw[←e1];assumption),←e1]
               rfl)
      | true=>
        rw[hn] at n3
        by_cases hz:(p.ps.getD k Pr.z).vs.length=0
        · refine xw ?_
          repeat' (first|exact Le.n|refine Lc.mk ?_ ?_)
          all_goals intros
          · refine lp hC hGL (fun x:Nat×Int=>[(1,.bool c),(2,.rop [.str p.g,.str p.n,.list 2 p.ps.length (prF p.ps),.str p.v] 0),(5,.int .i64 (k:Nat)),(7,.int .i64 x.2),(34,.list 2 p.ps.length (prF p.ps)),(35,.int .i64 (p.ps.length:Nat)),(36,.int .i64 (k:Nat)),(52,.list 1 (p.ps.getD k Pr.z).vs.length (aq (p.ps.getD k Pr.z).vs)),(53,.int .i64 ((p.ps.getD k Pr.z).vs.length:Nat)),(54,.int .i64 (x.1:Nat))]) (fun _=>[.cells _ (some 60) [.str (p.ps.getD k Pr.z).n,.list 1 (p.ps.getD k Pr.z).vs.length (aq (p.ps.getD k Pr.z).vs)]]) (fun x=>x.1≤(p.ps.getD k Pr.z).vs.length∧prI c (p.ps.getD k Pr.z) x.1 x.2) (fun x=>(p.ps.getD k Pr.z).vs.length-x.1) (0,8) ?_ ae rfl ?_
            · exact⟨Nat.zero_le _,.inr (.inl ⟨hn,hz,rfl⟩)⟩
            rintro⟨j,e⟩ ⟨g1,g2⟩
            dsimp only at g1 g2
            have hj:=j6 (G:=G) ((p.ps.getD k Pr.z).vs.getD j []) c (by have:=cL (l:=(p.ps.getD k Pr.z).vs) (k:=j);omega)
            refine xw ?_
            repeat' (first|exact Le.n|refine Lc.mk ?_ ?_)
            all_goals intros
            all_goals try dsimp only at*
            all_goals first
              |exact nxt (j+1,e) ⟨by dsimp only;omega,nW g2 (by assumption)⟩ (by dsimp only;omega) ae rfl
              |exact nxt (j+1,e) ⟨by dsimp only;omega,wi g2 (by assumption) (by assumption)⟩ (by dsimp only;omega) ae rfl
              |exact nxt (j+1,3) ⟨by dsimp only;omega,rC g2 (by assumption) (by omega) (by assumption)⟩ (by dsimp only;omega) ae rfl
              |exact nxs (k+1) ⟨by omega,aQ h2 ((i6 g2 (by omega)).symm.trans (by assumption))⟩ (by omega) ae aB
              | (apply ak
                 have e1:=i6 g2 (by omega)
                 rw[Ln.E_at q1 q2 q3 (by omega) h2 (by rw[←e1];assumption),←e1]
                 rfl)
        · refine xw ?_
          repeat' (first|exact Le.n|refine Lc.mk ?_ ?_)
          all_goals intros
          · refine lp hC hGL (fun x:Nat×Int=>[(1,.bool c),(2,.rop [.str p.g,.str p.n,.list 2 p.ps.length (prF p.ps),.str p.v] 0),(5,.int .i64 (k:Nat)),(7,.int .i64 x.2),(34,.list 2 p.ps.length (prF p.ps)),(35,.int .i64 (p.ps.length:Nat)),(36,.int .i64 (k:Nat)),(52,.list 1 (p.ps.getD k Pr.z).vs.length (aq (p.ps.getD k Pr.z).vs)),(53,.int .i64 ((p.ps.getD k Pr.z).vs.length:Nat)),(54,.int .i64 (x.1:Nat))]) (fun _=>[.cells _ (some 60) [.str (p.ps.getD k Pr.z).n,.list 1 (p.ps.getD k Pr.z).vs.length (aq (p.ps.getD k Pr.z).vs)]]) (fun x=>x.1≤(p.ps.getD k Pr.z).vs.length∧prI c (p.ps.getD k Pr.z) x.1 x.2) (fun x=>(p.ps.getD k Pr.z).vs.length-x.1) (0,0) ?_ ae rfl ?_
            · exact⟨Nat.zero_le _,.inr (.inr ⟨hn,hz,.inl ⟨rfl,fun i hi=>absurd hi (Nat.not_lt_zero _)⟩⟩)⟩
            rintro⟨j,e⟩ ⟨g1,g2⟩
            dsimp only at g1 g2
            have hj:=j6 (G:=G) ((p.ps.getD k Pr.z).vs.getD j []) c (by have:=cL (l:=(p.ps.getD k Pr.z).vs) (k:=j);omega)
            refine xw ?_
            repeat' (first|exact Le.n|refine Lc.mk ?_ ?_)
            all_goals intros
            all_goals try dsimp only at*
            all_goals first
              |exact nxt (j+1,e) ⟨by dsimp only;omega,nW g2 (by assumption)⟩ (by dsimp only;omega) ae rfl
              |exact nxt (j+1,e) ⟨by dsimp only;omega,wi g2 (by assumption) (by assumption)⟩ (by dsimp only;omega) ae rfl
              |exact nxt (j+1,3) ⟨by dsimp only;omega,rC g2 (by assumption) (by omega) (by assumption)⟩ (by dsimp only;omega) ae rfl
              |exact nxs (k+1) ⟨by omega,aQ h2 ((i6 g2 (by omega)).symm.trans (by assumption))⟩ (by omega) ae aB
              | (apply ak
                 have e1:=i6 g2 (by omega)
                 rw[Ln.E_at q1 q2 q3 (by omega) h2 (by rw[←e1];assumption),←e1]
                 rfl)
    · refine xw ?_
      repeat' (first|exact Le.n|refine Lc.mk ?_ ?_)
      all_goals intros
      all_goals (apply ak;first|(rw[Ln.E_3 q1 q2 q3 (by omega) h2 (by assumption)];rfl)|(rw[Ln.E_0 q1 q2 q3 (by omega) h2 (by assumption)];rfl))
end
section
open Go Go.RowKit
theorem oG {c:Bool}:∀{l:List Pr} {i:Nat},firE c l i= .none→∀q∈l,prE c q=0
 |[],_,_,q,h=>by cases h
 |x::l,i,h,q,hq=>by
  simp only[firE] at h
  split at h
  ·rename_i h0
   rcases List.mem_cons.1 hq with rfl|hq
   ·exact h0
   ·exact oG h q hq
  ·cases h
theorem Ln.E_inv {c:Bool}{p:Ln}(h:p.E c= .none):p.ps.length≤20∧∀k,k<p.ps.length→(p.ps.getD k Pr.z).vs.length≠0:=by
 unfold Ln.E at h
 split at h
 ·cases h
 ·split at h
  ·cases h
  ·refine⟨by omega,fun k hk h0=> ?_⟩
   have hf:firE c p.ps 0= .none:=by
    cases hf:firE c p.ps 0 with
    |none=>rfl
    |errno e=>rw[hf] at h;cases h
    | «at» e q=>rw[hf] at h;cases h
   have h1:=oG hf (p.ps.getD k Pr.z) (by rw[List.getD_eq_getElem?_getD,List.getElem?_eq_getElem hk];exact List.getElem_mem hk)
   cases hn:isS (p.ps.getD k Pr.z).n with
   |false=>rw[tK hn] at h1;cases h1
   |true=>rw[yh hn h0] at h1;cases h1
theorem EI {P:Program}[Tab P]{C:Ctx}{n:Nat}{env:Env}{H:Heap}{Q:AExit→Env→Heap→Prop}{c:Code}(i:Nat){b:Nat}(hi:H[i]? =some (.cells b (some 123) [.raw (.pointer none),.raw (.slice none 0 0)]))
  (h:AWp P C n c env (H.set i (bldC b (.pointer none) H.length (.slice none 0 0))++[bldR (.slice none 0 0) []]) Q):AWp P C n c env H Q:=by
 refine ls (eT:=some 5) 1 ?_
 unfold AWp at h ⊢
 intro R a w hm hf
 obtain⟨Cs,e,fz,hb,hl,hr⟩:=hm.heap.holds (.cells b (some 123) [.raw (.pointer none),.raw (.slice none 0 0)]) (List.mem_cons_of_mem _ (List.mem_of_getElem? hi))
 obtain⟨v1,t1,e1,r1,v2,t2,e2,r2,e3⟩:=hl
 have r2':RelC R (.own H.length (.slice none 0 0)) [v2]:=by
  have:v2= .slice none 0 0:=by simpa[RelC,Value.cells] using r2
  subst this
  simp[RelC,vAgg]
 have h1:=hm.swap (i:=i+1) (x:=.cells b (some 123) [.raw (.pointer none),.raw (.slice none 0 0)]) (y:=bldC b (.pointer none) H.length (.slice none 0 0)) (by rw[List.getElem?_cons_succ];exact hi) rfl
  ⟨Cs,e,fz,hb,⟨v1,t1,e1,r1,v2,t2,e2,r2',e3⟩,hr⟩
 rw[List.set_cons_succ] at h1
 exact h R a w (h1.perm (List.perm_append_singleton _ _).symm) hf
theorem EQ {s:List UInt8}:0≤Lib.indexAny s [44,59,58]↔0≤fstB quoC s:=by
 have key:∀x:UInt8,([44,59,58]:List UInt8).contains x=quoC (x.toNat:Int):=by
  intro x
  unfold quoC
  rw[Bool.eq_iff_iff,rV,decide_eq_true_eq]
  simp only[List.mem_cons,List.not_mem_nil,or_false,exists_eq_or_imp,exists_eq_left]
  exact Iff.rfl
 rcases gM quoC s with⟨h1,h2⟩|⟨m,h1,h2,h3,h4⟩
 ·rw[Lib.indexAny_none (fun j x hj hx=>by
   rw[key,cU hx]
   exact h2 j hj),h1]
 ·have hx:s[m]? =some s[m]:=List.getElem?_eq_getElem h1
  rw[Lib.indexAny_hit (i:=m) (fun j x hj hx=>by
   rw[key,cU hx]
   exact h4 j hj) hx (by rw[key,cU hx];exact h3),h2]
attribute [local irreducible] AWp AOps aa aA OrOk ad ah
attribute [local irreducible] hdC hdB badI isS mayV encS quoS vaT psT hdT eIf
theorem sl {G:Glo}(s:List UInt8)(hl:s.length≤1000000):FnIs Tryz.prog G 141 [.str s,.str [44,59,58]] (.bool (decide (0≤fstB quoC s))):=by
 have hI:=wI (G:=G) (cs:=[44,59,58]) (AD (by decide) (by decide) (by decide)) (by decide) (by decide) (by decide) s (by omega)
 have hGL:ad G []:=ab
 refine fn_x Tryz.func141 Tryz.call141 rfl rfl rfl rfl hGL ?_
 intro C hC
 refine xw1 ?_
 apply ak
 refine congrArg AVal.bool ?_
 rw[Bool.eq_iff_iff]
 simp only[Bool.not_eq_true',g8,decide_eq_true_eq,EQ]
theorem GR {c:Bool}{s:List UInt8}(h:decide (0≤fstB quoC (eIf c s))=true):quoS c s=34::eIf c s++[34]:=by
 unfold quoS
 rw[if_neg (by have:=of_decide_eq_true h;omega)]
theorem GS {c:Bool}{s:List UInt8}(h:decide (0≤fstB quoC (eIf c s))=false):quoS c s=eIf c s:=by
 unfold quoS
 rw[if_pos (by have:=of_decide_eq_false h;omega)]
theorem E9 (s:List UInt8):eIf true s=encS s:=by unfold eIf;rfl
theorem Fa (s:List UInt8):eIf false s=s:=by unfold eIf;rfl
theorem va_0 {c:Bool}{vs:List (List UInt8)}{j:Nat}(hj:j<vs.length)(h:(j:Int)=0)(t:List UInt8):t++vaT c vs (j+1)=t++vaT c vs j++[61]++quoS c (vs.getD j []):=by
 rw[sM hj,if_pos (by omega)]
 simp only[List.append_assoc]
theorem va_1 {c:Bool}{vs:List (List UInt8)}{j:Nat}(hj:j<vs.length)(h:(j:Int)≠0)(t:List UInt8):t++vaT c vs (j+1)=t++vaT c vs j++[44]++quoS c (vs.getD j []):=by
 rw[sM hj,if_neg (by omega)]
 simp only[List.append_assoc]
theorem wu {G:Glo}(p:Ln)(c:Bool)(ho:p.Fit):FnIs Tryz.prog G 91 [p.A,.bool c] (.tuple [.str (p.T c),(p.E c).A]):=by
  have h0:=oh (G:=G) p c ho
  rcases hq:p.E c with _|e|⟨e,i⟩
  case errno=>
    rw[hq] at h0
    rw[show p.T c=[] by unfold Ln.T;rw[hq]]
    have hGL:ad G []:=ab
    refine fn_x Tryz.func91 Tryz.call91 rfl rfl rfl rfl hGL ?_
    intro C hC
    exact xw0
  case «at» =>
    rw[hq] at h0
    rw[show p.T c=[] by unfold Ln.T;rw[hq]]
    have hGL:ad G []:=ab
    refine fn_x Tryz.func91 Tryz.call91 rfl rfl rfl rfl hGL ?_
    intro C hC
    exact xw0
  rw[hq] at h0
  rw[show p.T c=p.txt c by unfold Ln.T;rw[hq],xQ]
  obtain⟨i1,i2⟩:=Ln.E_inv hq
  have o1:=ho.g
  have o2:=ho.n
  have o3:=ho.v
  have o4:∀k,k≤p.ps.length→(psT c p.ps k).length≤20*15002:=fun k hk=>by
    have h1:=rB (c:=c) ho.q k hk
    rw[show 2+6*2500=15002 by decide] at h1
    have h2:=Nat.mul_le_mul_right 15002 (show k≤20 by omega)
    exact Nat.le_trans h1 h2
  have hd1:p.g.length≠0→p.g++[46]++p.n=hdT p:=fun h=>by unfold hdT;rw[if_neg h]
  have hd0:p.g.length=0→p.n=hdT p:=fun h=>by unfold hdT;rw[if_pos h]
  have hdl:(hdT p).length≤5001:=by
    unfold hdT
    split
    · omega
    · simp only[List.length_append,List.length_cons,List.length_nil];omega
  have hGL:ad G []:=ab
  refine fn_a Tryz.func91 Tryz.call91 rfl rfl rfl rfl ?_
  intro C hC
  refine cut hC hGL [(1,.bool c),(2,.rop [.str p.g,.str p.n,.list 2 p.ps.length (prF p.ps),.str p.v] 0)] [] True ?_ fun _=> ?_
  · exact xw0
  refine cut hC hGL [(1,.bool c),(2,.rop [.str p.g,.str p.n,.list 2 p.ps.length (prF p.ps),.str p.v] 0)] [] True ?_ fun _=> ?_
  · exact xw0
  refine cuty hC hGL (fun bl:Nat=>[(1,.bool c),(2,.rop [.str p.g,.str p.n,.list 2 p.ps.length (prF p.ps),.str p.v] 0),(7,.own 0 (ptrA bl))]) (fun bl=>[.cells bl (some 123) [.raw (.pointer none),.raw (.slice none 0 0)]]) (fun _=>True) ?_ fun bl _=> ?_
  · refine xw1 ?_
    intro bl
    exact cy bl trivial
  refine EI 0 rfl ?_
  refine cuty hC hGL (fun x:Value×Value×List UInt8=>[(1,.bool c),(2,.rop [.str p.g,.str p.n,.list 2 p.ps.length (prF p.ps),.str p.v] 0),(7,.own 0 (ptrA bl))]) (fun x=>[bldC bl x.1 1 x.2.1,bldR x.2.1 x.2.2]) (fun x=>xJ bl x.1∧x.2.2.length≤2501∧x.2.2++p.n=hdT p) ?_ fun x hx=> ?_
  · refine xw ?_
    repeat' (first|exact Le.n|refine Lc.mk ?_ ?_)
    all_goals intros
    · apply gS (i:=0) (j:=1) rfl rfl (by decide) (bx (.inl rfl) _ [] (p.g++[46]) (by simp only[List.length_append,List.length_cons,List.length_nil];omega))
      intro ua uk uc
      refine xw1 ?_
      exact cy (ptrA bl,.slice ua uk uc,[]++(p.g++[46])) ⟨.inr rfl,by simp only[List.length_append,List.length_cons,List.length_nil];omega,by rw[List.nil_append];exact hd1 (by assumption)⟩
    · exact cy (.pointer none,.slice none 0 0,[]) ⟨.inl rfl,by simp,by rw[List.nil_append];exact hd0 (by assumption)⟩
  obtain⟨pa,va,tx⟩:=x
  obtain⟨hp,hlx,htx⟩:=hx
  dsimp only at hp hlx htx
  refine cuty hC hGL (fun x:Value=>[(1,.bool c),(2,.rop [.str p.g,.str p.n,.list 2 p.ps.length (prF p.ps),.str p.v] 0),(7,.own 0 (ptrA bl))]) (fun x=>[bldC bl (ptrA bl) 1 x,bldR x (hdT p++psT c p.ps 0)]) (fun x=>True) ?_ fun vb _=> ?_
  · refine xw1 ?_
    apply gS (i:=0) (j:=1) rfl rfl (by decide) (bx hp va tx p.n (by omega))
    intro ua uk uc
    rw[htx.trans (show hdT p=hdT p++psT c p.ps 0 by rw[show psT c p.ps 0=[] by unfold psT;rfl,List.append_nil])]
    refine xw1 ?_
    exact cy (.slice ua uk uc) trivial
  clear htx hp hlx
  refine ap hC hGL ?_
  refine xw1 ?_
  refine lp hC hGL (fun x:Nat×Value=>[(1,.bool c),(2,.rop [.str p.g,.str p.n,.list 2 p.ps.length (prF p.ps),.str p.v] 0),(7,.own 0 (ptrA bl)),(29,.list 2 p.ps.length (prF p.ps)),(30,.int .i64 (p.ps.length:Nat)),(31,.int .i64 (x.1:Nat))]) (fun x=>[bldC bl (ptrA bl) 1 x.2,bldR x.2 (hdT p++psT c p.ps x.1)]) (fun x=>x.1≤p.ps.length) (fun x=>p.ps.length-x.1) (0,vb) ?_ ae rfl ?_
  · exact Nat.zero_le _
  rintro⟨k,v⟩ h1
  dsimp only at h1
  have ol:=o4 k h1
  have hqk:=ho.q k
  refine xn ?_
  repeat' (first|exact Le.n|refine Lc.mk ?_ ?_)
  all_goals intros
  · rename_i b9 hkl
    dsimp only at hkl
    have hk:k<p.ps.length:=by omega
    apply gS (i:=0) (j:=1) rfl rfl (by decide) (bx (.inr rfl) v (hdT p++psT c p.ps k) ([59]++(p.ps.getD k Pr.z).n) (by simp only[List.length_append,List.length_cons,List.length_nil];omega))
    intro ua uk uc
    generalize hX:hdT p++psT c p.ps k++([59]++(p.ps.getD k Pr.z).n)=X
    have hXl:X.length≤500000:=by
      rw[←hX]
      simp only[List.length_append,List.length_cons,List.length_nil]
      omega
    refine xw1 ?_
    refine lp hC hGL (fun x:Nat×Value=>[(1,.bool c),(2,.rop [.str p.g,.str p.n,.list 2 p.ps.length (prF p.ps),.str p.v] 0),(7,.own 0 (ptrA bl)),(29,.list 2 p.ps.length (prF p.ps)),(30,.int .i64 (p.ps.length:Nat)),(31,.int .i64 (k:Nat)),(40,.list 1 (p.ps.getD k Pr.z).vs.length (aq (p.ps.getD k Pr.z).vs)),(41,.int .i64 ((p.ps.getD k Pr.z).vs.length:Nat)),(42,.int .i64 (x.1:Nat))]) (fun x=>[bldC bl (ptrA bl) 1 x.2,bldR x.2 (X++vaT c (p.ps.getD k Pr.z).vs x.1),.cells b9 (some 60) [.str (p.ps.getD k Pr.z).n,.list 1 (p.ps.getD k Pr.z).vs.length (aq (p.ps.getD k Pr.z).vs)]]) (fun x=>x.1≤(p.ps.getD k Pr.z).vs.length) (fun x=>(p.ps.getD k Pr.z).vs.length-x.1) (0,.slice ua uk uc) ?_ ae ?_ ?_
    · exact Nat.zero_le _
    · dsimp only
      rw[show vaT c (p.ps.getD k Pr.z).vs 0=[] by unfold vaT;rfl,List.append_nil]
    rintro⟨j,u⟩ g1
    dsimp only at g1
    have hvl:=Dp c (p.ps.getD k Pr.z).vs j
    have hj1:=cL (l:=(p.ps.getD k Pr.z).vs) (k:=j)
    have hel:=sg c ((p.ps.getD k Pr.z).vs.getD j [])
    have hql:=tH c ((p.ps.getD k Pr.z).vs.getD j [])
    have hE:=lm (G:=G) ((p.ps.getD k Pr.z).vs.getD j []) (by omega) (jt _)
    have hQ:=sl (G:=G) (eIf c ((p.ps.getD k Pr.z).vs.getD j [])) (by omega)
    have hY:=GR (c:=c) (s:=(p.ps.getD k Pr.z).vs.getD j [])
    have hN:=GS (c:=c) (s:=(p.ps.getD k Pr.z).vs.getD j [])
    have hv0:=fun(hj:j<(p.ps.getD k Pr.z).vs.length) (h:(j:Int)=0)=>va_0 (c:=c) hj h X
    have hv1:=fun(hj:j<(p.ps.getD k Pr.z).vs.length) (h:(j:Int)≠0)=>va_1 (c:=c) hj h X
    refine xw ?_
    repeat' (first|exact Le.n|refine Lc.mk ?_ ?_)
    all_goals intros
    all_goals first
      | (have hj0:=hv0 (by omega) (by assumption)
         apply gS (i:=0) (j:=1) rfl rfl (by decide) (bx (.inr rfl) u (X++vaT c (p.ps.getD k Pr.z).vs j) [61] (by simp only[List.length_append,List.length_cons,List.length_nil];omega))
         intro xa xk xc
         cases c
         all_goals
           simp only[E9,Fa] at hQ hY hN hel
           refine xw ?_
           repeat' (first|exact Le.n|refine Lc.mk ?_ ?_)
           all_goals intros
           all_goals
             first
             | (have hy:=hY (by assumption)
                apply gS (i:=0) (j:=1) rfl rfl (by decide) (bx (.inr rfl) (.slice xa xk xc) _ _ (by rw[hy] at hql;simp only[List.length_append,List.length_cons,List.length_nil] at*;omega))
                intro ya yk yc
                refine xw1 ?_
                refine nxs (j+1,.slice ya yk yc) (by dsimp only;omega) (by dsimp only;omega) ae ?_
                dsimp only
                rw[hj0,hy]
                exact aB)
             | (have hy:=hN (by assumption)
                apply gS (i:=0) (j:=1) rfl rfl (by decide) (bx (.inr rfl) (.slice xa xk xc) _ _ (by simp only[List.length_append,List.length_cons,List.length_nil] at*;omega))
                intro ya yk yc
                refine xw1 ?_
                refine nxs (j+1,.slice ya yk yc) (by dsimp only;omega) (by dsimp only;omega) ae ?_
                dsimp only
                rw[hj0,hy]
                exact aB))
      | (have hj1:=hv1 (by omega) (by assumption)
         apply gS (i:=0) (j:=1) rfl rfl (by decide) (bx (.inr rfl) u (X++vaT c (p.ps.getD k Pr.z).vs j) [44] (by simp only[List.length_append,List.length_cons,List.length_nil];omega))
         intro xa xk xc
         cases c
         all_goals
           simp only[E9,Fa] at hQ hY hN hel
           refine xw ?_
           repeat' (first|exact Le.n|refine Lc.mk ?_ ?_)
           all_goals intros
           all_goals
             first
             | (have hy:=hY (by assumption)
                apply gS (i:=0) (j:=1) rfl rfl (by decide) (bx (.inr rfl) (.slice xa xk xc) _ _ (by rw[hy] at hql;simp only[List.length_append,List.length_cons,List.length_nil] at*;omega))
                intro ya yk yc
                refine xw1 ?_
                refine nxs (j+1,.slice ya yk yc) (by dsimp only;omega) (by dsimp only;omega) ae ?_
                dsimp only
                rw[hj1,hy]
                exact aB)
             | (have hy:=hN (by assumption)
                apply gS (i:=0) (j:=1) rfl rfl (by decide) (bx (.inr rfl) (.slice xa xk xc) _ _ (by simp only[List.length_append,List.length_cons,List.length_nil] at*;omega))
                intro ya yk yc
                refine xw1 ?_
                refine nxs (j+1,.slice ya yk yc) (by dsimp only;omega) (by dsimp only;omega) ae ?_
                dsimp only
                rw[hj1,hy]
                exact aB))
      | (have hj9:(p.ps.getD k Pr.z).vs.length=j:=by omega
         refine nxs (k+1,u) (by dsimp only;omega) (by dsimp only;omega) ae ?_
         dsimp only
         rw[show hdT p++psT c p.ps (k+1)=X++vaT c (p.ps.getD k Pr.z).vs j by
           rw[nV hk,Dq (i2 k hk),←hX,hj9]
           simp only[List.append_assoc,List.cons_append,List.nil_append]]
         exact aB)
  · have hkk:k=p.ps.length:=by dsimp only at*;omega
    subst hkk
    refine dw_p mixed hC hGL false (fun(_:Unit)=>[(4,.str (hdT p++psT c p.ps p.ps.length++[58]++p.v)),(5,.raw .nilIface)]) (fun _=>[df,df]) (.take 2 (.take 3 (.br 0 (.take 1 (.take 4 (.take 5 (.take 6 (.done))))) (.nil)))) (by kernel_rfl) ?_ ?_
    · refine xn1 ?_
      intro C hC
      refine Gl (i:=0) (j:=1) rfl rfl (by decide) (oU (hdT p++psT c p.ps p.ps.length) (by rw[List.length_append];omega)) ?_
      have hlen:(hdT p++psT c p.ps p.ps.length).length≤400000:=by rw[List.length_append];omega
      refine xn ?_
      repeat' (first|exact Le.n|refine Lc.mk ?_ ?_)
      all_goals intros
      all_goals exact⟨(),⟨rfl,rfl,trivial⟩,rfl⟩
    · intro _
      exact xn0
end
section
open Go Go.RowKit
def fstN (f:Nat→Int):Nat→Int
 |0=>0
 |n+1=>if fstN f n=0 then f n else fstN f n
theorem gg {f:Nat→Int}:∀{n:Nat},(∀j,j<n→f j=0)→fstN f n=0
 |0,_=>rfl
 |n+1,h=>by rw[fstN,if_pos (gg fun j hj=>h j (by omega)),h n (by omega)]
theorem nf {f:Nat→Int}{k:Nat}:∀{n:Nat},k<n→(∀j,j<k→f j=0)→f k≠0→fstN f n=f k
 |0,h,_,_=>absurd h (Nat.not_lt_zero _)
 |n+1,h,h1,h2=>by
  rw[fstN]
  rcases Nat.lt_or_ge k n with g|g
  ·rw[nf g h1 h2,if_neg h2]
  ·obtain rfl:k=n:=by omega
   rw[if_pos (gg h1)]
def fstE (f:Nat→Int):Nat→Err
 |0=>.none
 |n+1=>match fstE f n with
  |.none=>if f n=0 then .none else .at (f n) n
  |e=>e
theorem dO {f:Nat→Int}:∀{n:Nat},(∀j,j<n→f j=0)→fstE f n= .none
 |0,_=>rfl
 |n+1,h=>by rw[fstE,dO fun j hj=>h j (by omega)];simp only[h n (by omega),if_true]
theorem k7 {f:Nat→Int}{k:Nat}:∀{n:Nat},k<n→(∀j,j<k→f j=0)→f k≠0→fstE f n= .at (f k) k
 |0,h,_,_=>absurd h (Nat.not_lt_zero _)
 |n+1,h,h1,h2=>by
  rw[fstE]
  rcases Nat.lt_or_ge k n with g|g
  ·rw[k7 g h1 h2]
  ·obtain rfl:k=n:=by omega
   rw[dO h1]
   simp only[h2,if_false]
def frB (n:List UInt8):Bool:=seqB (aj 97 122 (-32) n) [66,69,71,73,78]||(seqB (aj 97 122 (-32) n) [69,78,68]||seqB (aj 97 122 (-32) n) [86,69,82,83,73,79,78])
def pE (ps:List Pr)(i:Nat):Int:=if(ps.getD i Pr.z).fit=false then 3 else if aj 97 122 (-32) (ps.getD i Pr.z).n≠nTYP∧a7 (ps.getD i Pr.z).n ps 0<(i:Int) then 9 else 0
def parE (ps:List Pr):Int:=fstN (pE ps) ps.length
theorem uG {s:List UInt8}{l:List Pr}:∀{j:Nat},j<l.length→aj 97 122 (-32) (l.getD j Pr.z).n=aj 97 122 (-32) s→a7 s l 0≤(j:Int):=by
 intro j
 induction j using Nat.strongRecOn with
 |_ j ih=>
  intro hj he
  by_cases h:∃i,i<j∧aj 97 122 (-32) (l.getD i Pr.z).n=aj 97 122 (-32) s
  ·obtain⟨i,hi,h⟩:=h
   have:=ih i hi (by omega) h
   omega
  ·rw[gi 0 hj (fun i hi e=>h ⟨i,hi,e⟩) he]
   omega
theorem qy {l:List Pr}{i:Nat}(hi:i<l.length):a7 (l.getD i Pr.z).n l 0<(i:Int)↔∃j,j<i∧aj 97 122 (-32) (l.getD j Pr.z).n=aj 97 122 (-32) (l.getD i Pr.z).n:=by
 constructor
 ·intro h
  apply Classical.byContradiction
  intro hn
  rw[gi 0 hi (fun j hj e=>hn ⟨j,hj,e⟩) rfl] at h
  omega
 ·rintro⟨j,hj,h⟩
  have:=uG (s:=(l.getD i Pr.z).n) (l:=l) (j:=j) (by omega) h
  omega
theorem pE_3 {ps:List Pr}{i:Nat}(h:(ps.getD i Pr.z).fit=false):pE ps i=3:=by unfold pE;rw[if_pos h]
theorem pE_9 {ps:List Pr}{i:Nat}(h:(ps.getD i Pr.z).fit=true)(h1:aj 97 122 (-32) (ps.getD i Pr.z).n≠nTYP)(h2:a7 (ps.getD i Pr.z).n ps 0<(i:Int)):pE ps i=9:=by unfold pE;rw[if_neg (by rw[h];decide),if_pos ⟨h1,h2⟩]
theorem pE_0 {ps:List Pr}{i:Nat}(h:(ps.getD i Pr.z).fit=true)(h1:¬(aj 97 122 (-32) (ps.getD i Pr.z).n≠nTYP∧a7 (ps.getD i Pr.z).n ps 0<(i:Int))):pE ps i=0:=by unfold pE;rw[if_neg (by rw[h];decide),if_neg h1]
theorem fx {ps:List Pr}{k:Nat}(hk:k<ps.length)(h:∀j,j<k→pE ps j=0)(h1:pE ps k≠0):parE ps=pE ps k:=nf hk h h1
theorem BE {ps:List Pr}{k:Nat}(hk:ps.length≤k)(h:∀j,j<k→pE ps j=0):parE ps=0:=gg fun j hj=>h j (by omega)
def Itm.k (v:Int)(x:Itm):Int:=eX v x.1.n x.1.ps
def Itm.ln (x:Itm):Ln:=⟨x.1.g,x.1.n,x.1.ps,x.2.T⟩
def Itm.L (v:Int)(x:Itm):List UInt8:=x.ln.T (eqB v 4)
def Itm.r (v:Int)(x:Itm):Int:=if x.2.t=3∧0<(bf v x.1.n).p∧(bf v x.1.n).p≠(x.2.L.length:Int) then 2 else if 1500<(x.L v).length then 4 else 0
def Itm.w (v:Int)(x:Itm):Int:=match x.p.E (eqB v 4) with
 |.none=>if frB x.1.n=true then 5 else if parE x.1.ps≠0 then parE x.1.ps else if x.k v≠x.2.t then 1 else match x.2.E with
  |.none=>x.r v
  |e=>e.e
 |e=>e.e
theorem w_ln {v:Int}{x:Itm}(h:x.p.E (eqB v 4)≠ .none):x.w v=(x.p.E (eqB v 4)).e:=by
 unfold Itm.w
 split
 ·rename_i k;exact absurd k h
 ·rfl
theorem w_fr {v:Int}{x:Itm}(h:x.p.E (eqB v 4)= .none)(h1:frB x.1.n=true):x.w v=5:=by
 unfold Itm.w
 rw[h]
 simp only[h1,if_true]
theorem ES {v:Int}{x:Itm}(h:x.p.E (eqB v 4)= .none)(h1:frB x.1.n=false)(h2:parE x.1.ps≠0):x.w v=parE x.1.ps:=by
 unfold Itm.w
 rw[h]
 simp only[h1,Bool.false_eq_true,if_false,if_pos h2]
theorem ET {v:Int}{x:Itm}(h:x.p.E (eqB v 4)= .none)(h1:frB x.1.n=false)(h2:parE x.1.ps=0)(h3:x.k v≠x.2.t):x.w v=1:=by
 unfold Itm.w
 rw[h]
 simp only[h1,Bool.false_eq_true,if_false,h2,ne_eq,not_true_eq_false,if_pos h3]
theorem ER {v:Int}{x:Itm}(h:x.p.E (eqB v 4)= .none)(h1:frB x.1.n=false)(h2:parE x.1.ps=0)(h3:x.k v=x.2.t)(h4:x.2.E≠ .none):x.w v=x.2.E.e:=by
 unfold Itm.w
 rw[h]
 simp only[h1,Bool.false_eq_true,if_false,h2,h3,ne_eq,not_true_eq_false]
theorem w_r {v:Int}{x:Itm}(h:x.p.E (eqB v 4)= .none)(h1:frB x.1.n=false)(h2:parE x.1.ps=0)(h3:x.k v=x.2.t)(h4:x.2.E= .none):x.w v=x.r v:=by
 unfold Itm.w
 rw[h]
 simp only[h1,Bool.false_eq_true,if_false,h2,h3,h4,ne_eq,not_true_eq_false]
theorem Ln.E_v {c:Bool}{p:Ln}{v:List UInt8}(h:Ln.E c ⟨p.g,p.n,p.ps,[]⟩= .none)(hv:hdB false v=true):Ln.E c ⟨p.g,p.n,p.ps,v⟩= .none:=by
 unfold Ln.E at h ⊢
 dsimp only at h ⊢
 split at h
 ·cases h
 ·rename_i h1
  rw[if_neg h1]
  split at h
  ·cases h
  ·rename_i h2
   rw[if_neg h2]
   split at h
   ·rename_i h3
    simp only[hv,if_true]
   ·rename_i h3
    exact absurd h h3
theorem Cz {c:Bool}:∀{l:List Pr} {i:Nat},(firE c l i).e=0→firE c l i= .none
 |[],_,_=>rfl
 |q::l,i,h=>by
  simp only[firE] at h ⊢
  split at h
  ·rename_i g
   rw[if_pos g]
   exact Cz h
  ·rename_i g
   exact absurd h g
theorem G0 {c:Bool}{p:Ln}(h:(p.E c).e=0):p.E c= .none:=by
 unfold Ln.E at h ⊢
 split
 ·rename_i g;rw[if_pos g] at h;cases h
 ·rename_i g
  rw[if_neg g] at h
  split
  ·rename_i g2;rw[if_pos g2] at h;cases h
  ·rename_i g2
   rw[if_neg g2] at h
   have h0:=Cz (c:=c) (l:=p.ps) (i:=0)
   cases hf:firE c p.ps 0 with
   |none=>
    rw[hf] at h
    dsimp only at h ⊢
    split
    ·rfl
    ·rename_i g3;rw[if_neg g3] at h;cases h
   |errno e=>rw[hf] at h h0;exact absurd (h0 h) (fun k=>by cases k)
   | «at» e q=>rw[hf] at h h0;exact absurd (h0 h) (fun k=>by cases k)
theorem w_ok {v:Int}{x:Itm}(h:x.w v=0):x.p.E (eqB v 4)= .none:=by
 unfold Itm.w at h
 split at h
 ·rename_i k;exact k
 ·exact G0 h
theorem w_E {v:Int}{x:Itm}(h:x.w v=0):x.2.E= .none:=by
 have h0:=w_ok h
 unfold Itm.w at h
 rw[h0] at h
 dsimp only at h
 split at h
 ·cases h
 split at h
 ·rename_i k;exact absurd h k
 split at h
 ·cases h
 split at h
 ·assumption
 ·rename_i k
  exact Vl.E_zero _ h
def cntI (l:List Itm)(s:List UInt8)(k:Nat):Nat:=((l.take k).filter fun x=>seqB (aj 97 122 (-32) x.1.n) s).length
theorem qD (l:List Itm)(s:List UInt8):cntI l s 0=0:=rfl
theorem mf {l:List Itm}{s:List UInt8}{k:Nat}(hk:k<l.length):cntI l s (k+1)=cntI l s k+if seqB (aj 97 122 (-32) (l.getD k Itm.z).1.n) s then 1 else 0:=by
 unfold cntI
 rw[List.take_succ_eq_append_getElem hk,List.filter_append,List.length_append,List.getD_eq_getElem?_getD,List.getElem?_eq_getElem hk,Option.getD_some]
 congr 1
 simp only[List.filter_cons,List.filter_nil]
 split<;>rfl
theorem lj (l:List Itm)(s:List UInt8)(k:Nat):cntI l s k≤k:=by
 unfold cntI
 refine Nat.le_trans (List.length_filter_le _ _) ?_
 rw[List.length_take]
 omega
def fy (v:Int)(l:List Itm)(i:Nat):Int:=if 0<(bf v (l.getD i Itm.z).1.n).b∧(bf v (l.getD i Itm.z).1.n).b≤(cntI l (aj 97 122 (-32) (l.getD i Itm.z).1.n) i:Int) then 9 else 0
def leE (v:Int)(l:List Itm)(i:Nat):Int:=if(cntI l ((ar v).getD i []) l.length:Int)<(bf v ((ar v).getD i [])).a then 7 else 0
def Crd.E (c:Crd):Err:=if c.v=3∨c.v=4 then
  if 60<c.l.length then .errno 4
  else match fstE (fun i=>(c.l.getD i Itm.z).w c.v) c.l.length with
   |.none=>match fstE (fy c.v c.l) c.l.length with
    |.none=>if fstN (leE c.v c.l) (ar c.v).length=0 then .none else .errno 7
    |e=>e
   |e=>e
 else .errno 1
theorem pO:∀s:List UInt8,aj 97 122 (-32) (aj 97 122 (-32) s)=aj 97 122 (-32) s
 |[]=>rfl
 |c::s=>by
  have ih:=pO s
  have hc:UInt8.ofNat (bO 97 122 (-32) (UInt8.ofNat (bO 97 122 (-32) c.toNat).toNat).toNat).toNat=UInt8.ofNat (bO 97 122 (-32) c.toNat).toNat:=by
   have h1:=c.toNat_lt
   rw[←UInt8.toNat_inj]
   simp only[UInt8.toNat_ofNat']
   unfold bO
   (repeat' split)<;>omega
  unfold aj at ih ⊢
  simp only[List.map_cons,List.cons.injEq]
  exact⟨hc,ih⟩
theorem DF (v:Int)(s:List UInt8):bf v (aj 97 122 (-32) s)=bf v s:=by unfold bf;rw[pO]
theorem uE {s:List UInt8}:∀l:List (List UInt8×Rl),(∀x∈l,0≤x.2.p)→0≤(cG s l).p
 |[],_=>by show(0:Int)≤0;decide
 |x::t,h=>by
  unfold cG
  split
  ·exact h x (List.mem_cons_self ..)
  ·exact uE t fun y hy=>h y (List.mem_cons_of_mem _ hy)
theorem FN (v:Int)(s:List UInt8):0≤(bf v s).p:=by
 unfold bf
 split
 ·rename_i h
  refine uE _ fun x hx=> ?_
  have:∀w:Int,(w=3∨w=4)→(rowV w).all (fun x=>decide (0≤x.2.p))=true:=by
   rintro w (rfl|rfl)<;>decide
  exact of_decide_eq_true (List.all_eq_true.1 (this v h) x hx)
 ·decide
theorem BP {v:Int}{n:List UInt8}(h:n∈ar v):aj 97 122 (-32) n=n∧n.length≤20:=by
 unfold ar at h
 split at h
 ·rename_i hv
  have:∀w:Int,(w=3∨w=4)→((rowV w).map (·.1)).all (fun n=>decide (aj 97 122 (-32) n=n∧n.length≤20))=true:=by
   rintro w (rfl|rfl)<;>decide
  exact of_decide_eq_true (List.all_eq_true.1 (this v hv) n h)
 ·cases h
theorem qb (v:Int):(ar v).length≤100:=by
 unfold ar
 split
 ·rename_i hv
  have:∀w:Int,(w=3∨w=4)→((rowV w).map (·.1)).length≤100:=by
   rintro w (rfl|rfl)<;>decide
  exact this v hv
 ·exact Nat.zero_le _
theorem tY {v:Int}{i:Nat}(h:i<(ar v).length):aj 97 122 (-32) ((ar v).getD i [])=(ar v).getD i []∧((ar v).getD i []).length≤20:=by
 rw[List.getD_eq_getElem?_getD,List.getElem?_eq_getElem h]
 exact BP (List.getElem_mem h)
def Crd.ok (c:Crd):Prop:=c.l.length≤1000000∧∀x∈c.l,Itm.OK 2500 x
theorem Crd.fine.ok {c:Crd}(h:c.fine):c.ok:=⟨by have:=h.1;omega,h.2⟩
theorem Itm.fit {x:Itm}(h:x.OK 2500):x.ln.Fit:=⟨h.p.g,h.p.n,Vl.T_len (by have:=h.s;omega) h.L,h.p.ps,h.p.q⟩
theorem Itm.OK.v {x:Itm}(h:x.OK 2500):x.2.OK:=⟨by have:=h.s;omega,h.L.n,fun k=>(h.L.k k).1,fun k j=>by have:=(h.L.k k).2;have:=cL (l:=x.2.L.getD k []) (k:=j);omega⟩
end
section
open Go Go.RowKit
def sJ (s:List UInt8):Js:=.mk 5 s [] []
def aJ (l:List Js):Js:=.mk 6 [] [] l
def tsJ (l:List (List UInt8)):Js:=if l.length=1 then sJ (l.getD 0 []) else aJ (l.map sJ)
def grpN:List UInt8:=[71,82,79,85,80]
def grpL:List UInt8:=[103,114,111,117,112]
def typM:List UInt8:=[116,121,112,101]
def isT (p:Pr):Bool:=seqB (aj 97 122 (-32) p.n) nTYP
def isV (p:Pr):Bool:=seqB (aj 97 122 (-32) p.n) valN
def typL (ps:List Pr):Nat→List (List UInt8)
 |0=>[]
 |k+1=>typL ps k++if isT (ps.getD k Pr.z) then(ps.getD k Pr.z).vs else[]
def anyT (ps:List Pr):Nat→Bool
 |0=>false
 |k+1=>anyT ps k||isT (ps.getD k Pr.z)
def kvO (ps:List Pr)(k:Nat):List (List UInt8×List (List UInt8)):=
 if isV (ps.getD k Pr.z) then[] else if isT (ps.getD k Pr.z) then(if anyT ps k then[] else[(typM,typL ps ps.length)]) else[(aj 65 90 32 (ps.getD k Pr.z).n,(ps.getD k Pr.z).vs)]
def kvP (x:Itm):Nat→List (List UInt8×List (List UInt8))
 |0=>if x.1.g=[] then[] else[(grpL,[x.1.g])]
 |k+1=>kvP x k++kvO x.1.ps k
def keyJ (L:List (List UInt8×List (List UInt8))):List (List UInt8):=L.map (·.1)
def txtJ (L:List (List UInt8×List (List UInt8))):List Js:=L.map fun p=>tsJ p.2
def obJ (L:List (List UInt8×List (List UInt8))):Js:=.mk 7 [] (keyJ L) (txtJ L)
def parJ (x:Itm):Js:=obJ (kvP x x.1.ps.length)
def valJ (x:Itm):List Js:=if x.2.t=2 then(x.2.L.getD 0 []).map sJ else if x.2.t=3 then[aJ (x.2.L.map tsJ)] else if x.2.t=1 then[sJ x.2.s] else[sJ x.2.T]
def itJ (x:Itm):Js:=aJ ([sJ (aj 65 90 32 x.1.n),parJ x,sJ (cP x.2.t)]++valJ x)
def verJ:Js:=aJ [sJ [118,101,114,115,105,111,110],.mk 7 [] [] [],sJ [116,101,120,116],sJ [52,46,48]]
def crJ (l:List Itm):Js:=aJ [sJ [118,99,97,114,100],aJ (verJ::l.map itJ)]
def gpE (x:Itm):Int:=if a7 grpN x.1.ps 0<0 then 0 else 3
def Crd.jE (c:Crd):Err:=match c.E with
 |.none=>if c.v≠4 then .errno 6 else fstE (fun i=>gpE (c.l.getD i Itm.z)) c.l.length
 |e=>e
def Crd.jT (c:Crd):Js:=match c.jE with
 |.none=>crJ c.l
 |_=>Js.z
theorem rR {c:Crd}(h:c.E≠ .none):c.jE=c.E:=by
 unfold Crd.jE
 split
 ·rename_i k;exact absurd k h
 ·rfl
theorem rQ {c:Crd}(h:c.E= .none)(h1:c.v≠4):c.jE= .errno 6:=by
 unfold Crd.jE
 simp only[h,if_pos h1]
theorem Ce {c:Crd}(h:c.E= .none)(h1:c.v=4):c.jE=fstE (fun i=>gpE (c.l.getD i Itm.z)) c.l.length:=by
 unfold Crd.jE
 simp only[h,h1,ne_eq,not_true_eq_false,if_false]
theorem E3 {c:Crd}(h:c.jE= .none):c.jT=crJ c.l:=by
 unfold Crd.jT
 rw[h]
theorem qn {c:Crd}(h:c.jE≠ .none):c.jT=Js.z:=by
 unfold Crd.jT
 split
 ·rename_i k;exact absurd k h
 ·rfl
theorem E5 {x:Itm}(h:a7 grpN x.1.ps 0<0):gpE x=0:=if_pos h
theorem yH {x:Itm}(h:¬a7 grpN x.1.ps 0<0):gpE x=3:=if_neg h
theorem uF {s t:List UInt8}(h:aj 97 122 (-32) s=aj 97 122 (-32) t):∀(l:List Pr) (i:Nat),a7 s l i=a7 t l i
 |[],_=>rfl
 |q::l,i=>by simp only[a7,h,uF h l]
theorem AE {ps:List Pr}{k:Nat}:anyT ps (k+1)=(anyT ps k||isT (ps.getD k Pr.z)):=rfl
theorem B8 {x:Itm}{k:Nat}:kvP x (k+1)=kvP x k++kvO x.1.ps k:=rfl
theorem y3 {ps:List Pr}:∀{k:Nat},anyT ps k=false→∀j,j<k→isT (ps.getD j Pr.z)=false
 |0,_,j,h=>absurd h (Nat.not_lt_zero _)
 |k+1,h,j,hj=>by
  simp only[anyT,Bool.or_eq_false_iff] at h
  rcases Nat.lt_or_ge j k with g|g
  ·exact y3 h.1 j g
  ·obtain rfl:j=k:=by omega
   exact h.2
theorem vn {ps:List Pr}:∀{k:Nat},anyT ps k=true→∃j,j<k∧isT (ps.getD j Pr.z)=true
 |0,h=>by cases h
 |k+1,h=>by
  simp only[anyT,Bool.or_eq_true] at h
  rcases h with h|h
  ·obtain⟨j,h1,h2⟩:=vn h
   exact⟨j,by omega,h2⟩
  ·exact⟨k,by omega,h⟩
theorem rK:aj 97 122 (-32) nTYP=nTYP:=by decide+kernel
theorem Em {ps:List Pr}{k:Nat}(hk:k<ps.length)(ht:isT (ps.getD k Pr.z)=true):a7 nTYP ps 0=(k:Int)↔anyT ps k=false:=by
 have e:∀j,isT (ps.getD j Pr.z)=true↔aj 97 122 (-32) (ps.getD j Pr.z).n=aj 97 122 (-32) nTYP:=fun j=>by rw[rK];exact aY
 cases ha:anyT ps k with
 |false=>
  refine⟨fun _=>rfl,fun _=> ?_⟩
  have h0:=y3 ha
  rw[gi 0 hk (fun j hj h=>absurd (h0 j hj) (by rw[(e j).2 h];decide)) ((e k).1 ht),Nat.zero_add]
 |true=>
  refine⟨fun h=> ?_,fun h=>by cases h⟩
  obtain⟨j,h1,h2⟩:=vn ha
  have:=uG (s:=nTYP) (l:=ps) (j:=j) (by omega) ((e j).1 h2)
  omega
theorem DZ {p:Pr}(h:isT p=true):aj 65 90 32 p.n=typM:=by
 have h1:aj 97 122 (-32) p.n=aj 97 122 (-32) nTYP:=by rw[rK];exact aY.1 h
 rw[oE.2 h1]
 decide+kernel
theorem G2 {p:Pr}(h:isV p=true):isT p=false:=by
 unfold isV at h
 unfold isT
 rw[aY.1 h]
 decide+kernel
theorem EZ {ps:List Pr}{k:Nat}(h:isV (ps.getD k Pr.z)=true):kvO ps k=[]:=by unfold kvO;rw[if_pos h]
theorem E0 {ps:List Pr}{k:Nat}(h:isT (ps.getD k Pr.z)=true)(h1:anyT ps k=true):kvO ps k=[]:=by
 unfold kvO
 rw[if_pos h,if_pos h1,ite_self]
theorem E2 {ps:List Pr}{k:Nat}(h0:isV (ps.getD k Pr.z)=false)(h:isT (ps.getD k Pr.z)=true)(h1:anyT ps k=false):kvO ps k=[(typM,typL ps ps.length)]:=by
 unfold kvO
 rw[if_neg (by rw[h0];decide),if_pos h,if_neg (by rw[h1];decide)]
theorem E1 {ps:List Pr}{k:Nat}(h0:isV (ps.getD k Pr.z)=false)(h:isT (ps.getD k Pr.z)=false):kvO ps k=[(aj 65 90 32 (ps.getD k Pr.z).n,(ps.getD k Pr.z).vs)]:=by
 unfold kvO
 rw[if_neg (by rw[h0];decide),if_neg (by rw[h];decide)]
/-! ## How much it holds -/
theorem kn {ps:List Pr}{B:Nat}(h:∀k,(ps.getD k Pr.z).vs.length≤B):∀k,(typL ps k).length≤k*B
 |0=>Nat.zero_le _
 |k+1=>by
  have ih:=kn h k
  have:=h k
  rw[typL,List.length_append,Nat.succ_mul]
  split<;>first|omega|(simp only[List.length_nil];omega)
theorem nc (x:Itm):∀k,(kvP x k).length≤k+1
 |0=>by unfold kvP;split<;>simp
 |k+1=>by
  have ih:=nc x k
  have:(kvO x.1.ps k).length≤1:=by unfold kvO;(repeat' split)<;>simp
  rw[kvP,List.length_append]
  omega
theorem B9 {x:Itm}{B:Nat}(hB:1≤B)(h:∀k,(x.1.ps.getD k Pr.z).vs.length≤B)(ht:(typL x.1.ps x.1.ps.length).length≤B):∀k,∀p∈kvP x k,p.2.length≤B
 |0,p,hp=>by
  unfold kvP at hp
  split at hp
  ·cases hp
  ·rw[List.mem_singleton] at hp
   subst hp
   exact hB
 |k+1,p,hp=>by
  rw[kvP,List.mem_append] at hp
  rcases hp with hp|hp
  ·exact B9 hB h ht k p hp
  ·unfold kvO at hp
   (repeat' split at hp)<;>first|(cases hp;done)|(rw[List.mem_singleton] at hp;subst hp;first|exact ht|exact h k)
theorem EK {l:List Js}{i:Nat}(h:i<l.length):atJ l i∈l:=by
 rw[atJ,List.getD_eq_getElem?_getD,List.getElem?_eq_getElem h]
 exact List.getElem_mem h
theorem ka {B d:Nat}{k:Int}{ks:List (List UInt8)}{l:List Js}(hk:ks.length≤B)(h:l.length≤B)(h1:∀x∈l,Js.fits B d x):Js.fits B (d+1) (.mk k [] ks l):=⟨hk,h,fun _ hi=>h1 _ (EK hi)⟩
theorem yO {B d:Nat}{l:List (List UInt8)}(h:l.length≤B):Js.fits B (d+1) (tsJ l):=by
 unfold tsJ
 split
 ·exact dC
 ·refine ka (Nat.zero_le _) (by rw[List.length_map];exact h) fun x hx=> ?_
  rw[List.mem_map] at hx
  obtain⟨s, -,rfl⟩:=hx
  exact dC
theorem Ek {B:Nat}{x:Itm}(hB:4≤B)(h:∀k,(x.1.ps.getD k Pr.z).vs.length≤B)(ht:(typL x.1.ps x.1.ps.length).length≤B)(hp:x.1.ps.length<B)(hL:x.2.L.length≤B)(hl:∀k,(x.2.L.getD k []).length+3≤B):Js.fits B 3 (itJ x):=by
 have hv:(valJ x).length+3≤B∧∀y∈valJ x,Js.fits B 2 y:=by
  unfold valJ
  split
  ·refine⟨by rw[List.length_map];exact hl 0,fun y hy=> ?_⟩
   rw[List.mem_map] at hy
   obtain⟨s, -,rfl⟩:=hy
   exact dC
  ·split
   ·refine⟨hB,fun y hy=> ?_⟩
    rw[List.mem_singleton] at hy
    subst hy
    refine ka (Nat.zero_le _) (by rw[List.length_map];exact hL) fun y hy=> ?_
    rw[List.mem_map] at hy
    obtain⟨s,hs,rfl⟩:=hy
    obtain⟨i,hi,rfl⟩:=List.getElem_of_mem hs
    refine yO ?_
    have:=hl i
    rw[List.getD_eq_getElem?_getD,List.getElem?_eq_getElem hi] at this
    exact Nat.le_trans (Nat.le_add_right _ 3) this
   ·split
    all_goals
     refine⟨hB,fun y hy=> ?_⟩
     rw[List.mem_singleton] at hy
     subst hy
     exact dC
 unfold itJ aJ
 refine ka (Nat.zero_le _) (by rw[List.length_append];simp only[List.length_cons,List.length_nil];omega) fun y hy=> ?_
 rw[List.mem_append] at hy
 rcases hy with hy|hy
 ·rw[List.mem_cons,List.mem_cons,List.mem_singleton] at hy
  rcases hy with rfl|rfl|rfl
  ·exact dC
  ·have hk:=nc x x.1.ps.length
   unfold parJ obJ keyJ txtJ
   refine ka (by rw[List.length_map];omega) (by rw[List.length_map];omega) fun y hy=> ?_
   rw[List.mem_map] at hy
   obtain⟨p,hp,rfl⟩:=hy
   exact yO (B9 (by omega) h ht _ p hp)
  ·exact dC
 ·exact hv.2 y hy
theorem El {B:Nat}{l:List Itm}(hB:4≤B)(hl:l.length<B)(h:∀x∈l,Js.fits B 3 (itJ x)):Js.fits B 5 (crJ l):=by
 unfold crJ aJ
 refine ka (Nat.zero_le _) (by simp only[List.length_cons,List.length_nil];omega) fun y hy=> ?_
 rw[List.mem_cons,List.mem_singleton] at hy
 rcases hy with rfl|rfl
 ·exact dC
 ·refine ka (Nat.zero_le _) (by rw[List.length_cons,List.length_map];omega) fun y hy=> ?_
  rw[List.mem_cons,List.mem_map] at hy
  rcases hy with rfl|⟨x,hx,rfl⟩
  ·unfold verJ aJ
   refine ka (Nat.zero_le _) hB fun y hy=> ?_
   simp only[List.mem_cons,List.not_mem_nil,or_false] at hy
   rcases hy with rfl|rfl|rfl|rfl<;>exact dC
  ·exact h x hx
theorem D7 {c:Crd}(hf:c.ok):Js.fits 10000000 5 c.jT:=by
 unfold Crd.jT
 split
 ·obtain⟨h1,h2⟩:=hf
  refine El (by decide) (by omega) fun x hx=> ?_
  have o:=h2 x hx
  have hq:=fun k=>(o.p.q k).2.1
  have hq:∀k,(x.1.ps.getD k Pr.z).vs.length≤2500:=hq
  have hps:x.1.ps.length≤2500:=o.p.ps
  have ht:=kn hq x.1.ps.length
  have hL:=o.L
  refine Ek (by decide) (fun k=>Nat.le_trans (hq k) (by decide)) (Nat.le_trans ht ?_) (by omega) (by have:=hL.n;omega) (fun k=>by have:=(hL.k k).1;omega)
  refine Nat.le_trans (Nat.mul_le_mul_right 2500 hps) (by decide)
 ·exact dC
end
section
open Go Go.RowKit
theorem yL {G:Glo}{f:FuncId}{avs:List AVal}{k:Int}{t:List UInt8}(d:Nat)(h:FnIs Tryz.prog G f avs (.agg [.int .i64 k,.str t,jN,jN])):FnIs Tryz.prog G f avs (.agg (Js.C d (.mk k t [] []))):=
 gO h (by
  rintro _ _ ⟨rfl,rfl⟩ C R w e hm ⟨y,rfl,hy⟩
  exact⟨R,hm,y,rfl,yw (x:=.mk k t [] []) rfl rfl hy⟩)
theorem r8 {G:Glo}{f:FuncId}{avs:List AVal}{k:Int}{l:List Js}{t:List UInt8}(d:Nat)(h:FnIs Tryz.prog G f avs (.agg [.int .i64 k,.str t,jN,.list 4 l.length (jsF d l)])):FnIs Tryz.prog G f avs (.agg (Js.C d (.mk k t [] l))):=
 gO h (by
  rintro _ _ ⟨rfl,rfl⟩ C R w e hm ⟨y,rfl,hy⟩
  exact⟨R,hm,y,rfl,o9 (p:=2) (a':=.list 1 0 (aq [])) (Seal.le_refl R) hy rfl (fun v=>eh)⟩)
section
variable {C:Ctx} {n:Nat} {e:Env} {h:Heap}
theorem fY {i k j sz m:Nat}{v:Value}{eT:Option TypeId}{cs:List AVal}(f:Nat→AVal)(hi:h[i]? =some (.row v eT sz m cs))(hk:Env.get e k=some (.own j v))(hf:∀j,j<m→(f j).cells=(cs.drop (j*sz)).take sz∧(f j).plain=true):
  To C n e h ((k,.list sz m f)::e) (h.set i ck):=fun R a w hm hfs=>by
 obtain⟨R',hle,hm',hr⟩:=MS.seal_row (hm.perm (dJ hi)) hf
 refine⟨R',hle,(hm'.ghost 1).perm (eY ck hi),?_⟩
 have hf':=hfs.mono hle
 refine⟨fun t x ht=> ?_,hf'.size,hf'.defers⟩
 simp only[Env.get] at ht
 split at ht
 ·rename_i hb
  have:=Nat.eq_of_beq_eq_true hb
  subst this
  simp only[Option.some.injEq] at ht
  subst ht
  obtain⟨y,hy,hr'⟩:=hf'.fr k _ hk
  refine⟨y,hy,?_⟩
  rw[(aL.1 hr').1]
  exact hr
 ·exact hf'.fr t x ht
end
attribute [local irreducible] AWp AOps aa aA OrOk ad ah
theorem eG {G:Glo}(d:Nat)(s:List UInt8):FnIs Tryz.prog G 25 [.str s] (.agg (Js.C d (sJ s))):=by
 refine yL d ?_
 have hGL:ad G []:=ab
 refine fn_x Tryz.func25 Tryz.call25 rfl rfl rfl rfl hGL ?_
 intro C hC
 exact xw0
theorem dS {G:Glo}(d:Nat)(s:List UInt8):FnIs Tryz.prog G 15 [.str s] (.agg (Js.C d (sJ s))):=by
 refine yL d ?_
 have hGL:ad G []:=ab
 refine fn_x Tryz.func15 Tryz.call15 rfl rfl rfl rfl hGL ?_
 intro C hC
 exact xw0
theorem Cc {G:Glo}(d:Nat)(l:List Js):FnIs Tryz.prog G 24 [.list 4 l.length (jsF d l)] (.agg (Js.C d (aJ l))):=by
 refine r8 d ?_
 have hGL:ad G []:=ab
 refine fn_x Tryz.func24 Tryz.call24 rfl rfl rfl rfl hGL ?_
 intro C hC
 exact xw0
theorem rv {G:Glo}(d:Nat)(l:List Js):FnIs Tryz.prog G 14 [.list 4 l.length (jsF d l)] (.agg (Js.C d (aJ l))):=by
 refine r8 d ?_
 have hGL:ad G []:=ab
 refine fn_x Tryz.func14 Tryz.call14 rfl rfl rfl rfl hGL ?_
 intro C hC
 exact xw0
theorem qm {G:Glo}(d:Nat)(l:List Js)(g:Nat→AVal)(hg:∀R i,i<l.length→∀vs,RelC R (g i) vs→RelC R (jsF d l i) vs):FnIs Tryz.prog G 24 [.list 4 l.length g] (.agg (Js.C d (aJ l))):=k9 (Cc d l) fun R _ h=>lO (k:=0) (hg R) rfl h
theorem tF {G:Glo}(d:Nat)(l:List Js)(g:Nat→AVal)(hg:∀R i,i<l.length→∀vs,RelC R (g i) vs→RelC R (jsF d l i) vs):FnIs Tryz.prog G 14 [.list 4 l.length g] (.agg (Js.C d (aJ l))):=k9 (rv d l) fun R _ h=>lO (k:=0) (hg R) rfl h
theorem zd {R:Seal}{d:Nat}{k:Int}{t:List UInt8}{vs:List Value}(h:RelC R (.agg [.int .i64 k,.str t,jN,jN]) vs):RelC R (.agg (Js.C d (.mk k t [] []))) vs:=
 f7 (p:=3) (a':=.list 4 0 (jsF d [])) (fun _=>eh) (f7 (p:=2) (a':=.list 1 0 (aq [])) (fun _=>eh) h rfl) rfl
theorem zW {G:Glo}(a:Option Addr)(n c:Nat):FnIs Tryz.prog G 24 [.raw (.slice a n c)] (.agg [.int .i64 6,.str [],jN,.raw (.slice a n c)]):=by
 have hGL:ad G []:=ab
 refine fn_x Tryz.func24 Tryz.call24 rfl rfl rfl rfl hGL ?_
 intro C hC
 exact xw0
theorem pJ {R:Seal}{d i:Nat}(hi:i<4){vs:List Value}(h:RelC R (bc [(0,.agg (Js.C d (sJ [118,101,114,115,105,111,110]))),(1,.agg [.int .i64 7,.str [],jN,jN]),(2,.agg (Js.C d (sJ [116,101,120,116]))),(3,.agg (Js.C d (sJ [52,46,48])))] i) vs):RelC R (jsF (d+1) [sJ [118,101,114,115,105,111,110],.mk 7 [] [] [],sJ [116,101,120,116],sJ [52,46,48]] i) vs:=by
 rcases(show i=0∨i=1∨i=2∨i=3 by omega) with rfl|rfl|rfl|rfl
 ·exact h
 ·exact zd h
 ·exact h
 ·exact h
theorem F3 {G:Glo}(d:Nat):FnIs Tryz.prog G 24 [.list 4 4 (bc [(0,.agg (Js.C d (sJ [118,101,114,115,105,111,110]))),(1,.agg [.int .i64 7,.str [],jN,jN]),(2,.agg (Js.C d (sJ [116,101,120,116]))),(3,.agg (Js.C d (sJ [52,46,48])))])] (.agg (Js.C (d+1) verJ)):=
 qm (d+1) [sJ [118,101,114,115,105,111,110],.mk 7 [] [] [],sJ [116,101,120,116],sJ [52,46,48]] _ fun _ _ hi _ h=>pJ hi h
theorem DK {G:Glo}(d:Nat):FnIs Tryz.prog G 14 [.list 4 4 (bc [(0,.agg (Js.C d (sJ [118,101,114,115,105,111,110]))),(1,.agg [.int .i64 7,.str [],jN,jN]),(2,.agg (Js.C d (sJ [116,101,120,116]))),(3,.agg (Js.C d (sJ [52,46,48])))])] (.agg (Js.C (d+1) verJ)):=
 tF (d+1) [sJ [118,101,114,115,105,111,110],.mk 7 [] [] [],sJ [116,101,120,116],sJ [52,46,48]] _ fun _ _ hi _ h=>pJ hi h
theorem pN {R:Seal}{d i:Nat}{a b:Js}(hi:i<2){vs:List Value}(h:RelC R (bc [(0,.agg (Js.C d a)),(1,.agg (Js.C d b))] i) vs):RelC R (jsF (d+1) [a,b] i) vs:=by
 rcases(show i=0∨i=1 by omega) with rfl|rfl<;>exact h
theorem F4 {G:Glo}(d:Nat)(a b:Js):FnIs Tryz.prog G 24 [.list 4 2 (bc [(0,.agg (Js.C d a)),(1,.agg (Js.C d b))])] (.agg (Js.C (d+1) (aJ [a,b]))):=qm (d+1) [a,b] _ fun _ _ hi _ h=>pN hi h
theorem DL {G:Glo}(d:Nat)(a b:Js):FnIs Tryz.prog G 14 [.list 4 2 (bc [(0,.agg (Js.C d a)),(1,.agg (Js.C d b))])] (.agg (Js.C (d+1) (aJ [a,b]))):=tF (d+1) [a,b] _ fun _ _ hi _ h=>pN hi h
theorem yx {G:Glo}:FnIs Tryz.prog G 24 [jN] (.agg [.int .i64 6,.str [],jN,jN]):=by
 have hGL:ad G []:=ab
 refine fn_x Tryz.func24 Tryz.call24 rfl rfl rfl rfl hGL ?_
 intro C hC
 exact xw0
theorem m7 {l:List (List UInt8)}{k:Nat}(h:k<l.length):(l.take (k+1)).map sJ=(l.take k).map sJ++[sJ (l.getD k [])]:=by
 rw[List.take_succ_eq_append_getElem h,List.map_append,List.getD_eq_getElem?_getD,List.getElem?_eq_getElem h]
 rfl
theorem tE {G:Glo}(d:Nat)(l:List (List UInt8))(hl:l.length≤1000000000):FnIs Tryz.prog G 19 [.list 1 l.length (aq l)] (.agg (Js.C (d+1) (tsJ l))):=by
 unfold tsJ
 by_cases h1:l.length=1
 ·rw[if_pos h1]
  have hs:=dS (G:=G) (d+1) (l.getD 0 [])
  have hGL:ad G []:=ab
  refine fn_x Tryz.func19 Tryz.call19 rfl rfl rfl rfl hGL ?_
  intro C hC
  exact xw0
 ·rw[if_neg h1]
  have hs:=fun k=>dS (G:=G) d (l.getD k [])
  have hA:=rv (G:=G) (d+1) (l.map sJ)
  rw[List.length_map] at hA
  have hGL:ad G []:=ab
  refine fn_a Tryz.func19 Tryz.call19 rfl rfl rfl rfl ?_
  intro C hC
  refine cuty hC hGL (fun x:Nat=>[(0,.list 1 l.length (aq l)),(2,.own 0 (jAt x))]) (fun x=>[jZ x]) (fun _=>True) ?_ ?_
  ·refine xn1 ?_
   intro b
   intros
   exact cy b trivial
  intro b _
  refine cut hC hGL [(0,.list 1 l.length (aq l)),(2,.own 0 (jAt b))] [jZ b] True xn0 fun _=> ?_
  refine cut hC hGL [(0,.list 1 l.length (aq l)),(2,.own 0 (jAt b)),(3,jN)] [jZ b] True xn0 fun _=> ?_
  refine cuty hC hGL (fun v:Value=>[(2,.own 0 (jAt b)),(3,.own 1 v)]) (fun v=>[jZ b,.row v none 4 l.length (jsC d (l.map sJ))]) (fun _=>True) ?_ ?_
  ·refine xn1 ?_
   intros
   refine iD 3 4 rfl ?_
   refine lp hC hGL (fun x:Nat×Value=>[(2,.own 0 (jAt b)),(3,.own 1 x.2),(13,.list 1 l.length (aq l)),(14,.int .i64 (l.length:Nat)),(15,.int .i64 (x.1:Nat))]) (fun x=>[jZ b,.row x.2 none 4 x.1 (jsC d ((l.take x.1).map sJ))]) (fun x=>x.1≤l.length) (fun x=>l.length-x.1) (0,.slice none 0 0) (Nat.zero_le _) ae rfl ?_
   rintro⟨k,v⟩ k1
   have k1:k≤l.length:=k1
   dsimp only
   by_cases hk:k<l.length
   ·have hs:=hs k
    refine xn1 ?_
    intro va vk vc hv _
    refine nxs (k+1,Value.slice va vk vc) hk (by show l.length-(k+1)<l.length-k;omega) ae ?_
    show[jZ b,HEnt.row (.slice va vk vc) none 4 (k+1) (jsC d ((l.take (k+1)).map sJ))].Sublist _
    rw[m7 hk,←bQ]
    exact List.Sublist.refl _
   ·obtain rfl:k=l.length:=by omega
    rw[List.take_length]
    refine xn1 ?_
    intros
    exact cy v trivial
  intro v _
  refine fp (fY (i:=1) (k:=3) (jsF (d+1) (l.map sJ)) rfl rfl (fun j hj=>fM d _ j (by rw[List.length_map];exact hj))) ?_
  exact ap hC hGL xw0
abbrev jB (b:Nat)(v:Value):HEnt:=.cells b (some 29) [.int .i64 6,.str [],jN,.own 2 v]
theorem uo {G:Glo}(d:Nat)(l:List (List UInt8))(hl:l.length≤1000000000):FnIs Tryz.prog G 30 [.list 1 l.length (aq l)] (.agg (Js.C (d+1) (tsJ l))):=by
 unfold tsJ
 by_cases h1:l.length=1
 ·rw[if_pos h1]
  have hs:=eG (G:=G) (d+1) (l.getD 0 [])
  have hGL:ad G []:=ab
  refine fn_x Tryz.func30 Tryz.call30 rfl rfl rfl rfl hGL ?_
  intro C hC
  exact xw0
 ·rw[if_neg h1]
  have hs:=fun k=>eG (G:=G) d (l.getD k [])
  have hN:=yx (G:=G)
  refine r8 (k:=6) (t:=[]) (l:=l.map sJ) (d+1) ?_
  rw[List.length_map]
  have hGL:ad G []:=ab
  refine fn_a Tryz.func30 Tryz.call30 rfl rfl rfl rfl ?_
  intro C hC
  refine cuty hC hGL (fun x:Nat=>[(0,.list 1 l.length (aq l)),(2,.own 0 (jAt x))]) (fun x=>[jZ x]) (fun _=>True) ?_ ?_
  ·refine xn1 ?_
   intro b
   intros
   exact cy b trivial
  intro b _
  refine cut hC hGL [(0,.list 1 l.length (aq l)),(2,.own 0 (jAt b))] [jZ b] True xn0 fun _=> ?_
  refine cuty hC hGL (fun x:Nat=>[(0,.list 1 l.length (aq l)),(2,.own 0 (jAt b)),(3,.own 1 (jAt x))]) (fun x=>[jZ b,.cells x (some 29) [.int .i64 6,.str [],jN,jN]]) (fun _=>True) ?_ ?_
  ·refine xn1 ?_
   intro x
   intros
   exact cy x trivial
  intro b3 _
  refine cuty hC hGL (fun v:Value=>[(2,.own 0 (jAt b)),(3,.own 1 (jAt b3))]) (fun v=>[jZ b,jB b3 v,.row v none 4 l.length (jsC d (l.map sJ))]) (fun _=>True) ?_ ?_
  ·refine xn1 ?_
   intros
   refine B1 (aM (d8 4) (cK (i:=1) (p:=3) (x:=.cells b3 (some 29) [.int .i64 6,.str [],jN,jN]) (a':=.own 2 (.slice none 0 0)) rfl (fun R=>.cells rfl fun _=>gI))) ?_
   refine lp hC hGL (fun x:Nat×Value=>[(2,.own 0 (jAt b)),(3,.own 1 (jAt b3)),(14,.list 1 l.length (aq l)),(15,.int .i64 (l.length:Nat)),(16,.int .i64 (x.1:Nat))]) (fun x=>[jZ b,jB b3 x.2,.row x.2 none 4 x.1 (jsC d ((l.take x.1).map sJ))]) (fun x=>x.1≤l.length) (fun x=>l.length-x.1) (0,.slice none 0 0) (Nat.zero_le _) ae rfl ?_
   rintro⟨k,v⟩ k1
   have k1:k≤l.length:=k1
   dsimp only
   by_cases hk:k<l.length
   ·have hs:=hs k
    refine xn1 ?_
    intros
    refine dw_p mixed hC hGL false (fun _:Option Addr×Nat×Nat=>[(2,.own 0 (jAt b)),(3,.own 1 (jAt b3)),(14,.list 1 l.length (aq l)),(15,.int .i64 (l.length:Nat)),(16,.int .i64 (k:Nat))]) (fun z=>[jZ b,jB b3 (.slice z.1 z.2.1 z.2.2),.row (.slice z.1 z.2.1 z.2.2) none 4 (k+1) (jsC d ((l.take k).map sJ)++Js.C d (sJ (l.getD k [])))]) (.take 0 (.take 2 (.br 1 (.br 3 (.br 4 (.br 5 (.take 6 (.br 7 (.done) (.nil))) (.nil)) (.nil)) (.nil)) (.br 3 (.br 1 (.br 4 (.br 5 (.take 6 (.br 7 (.done) (.nil))) (.nil)) (.nil)) (.br 4 (.br 1 (.br 5 (.take 6 (.br 7 (.done) (.nil))) (.nil)) (.nil)) (.nil))) (.nil))))) (by kernel_rfl) ?_ ?_
    ·refine xn ?_
     repeat' (first|exact Le.n|refine Lc.mk ?_ ?_)
     all_goals intros
     all_goals exact⟨(_,_,_),ae,rfl⟩
    rintro⟨va,vk,vc⟩
    dsimp only
    refine xn1 ?_
    intros
    refine nxs (k+1,Value.slice va vk vc) hk (by show l.length-(k+1)<l.length-k;omega) ae ?_
    show[jZ b,jB b3 (.slice va vk vc),HEnt.row (.slice va vk vc) none 4 (k+1) (jsC d ((l.take (k+1)).map sJ))].Sublist _
    rw[m7 hk,←bQ]
    exact List.Sublist.refl _
   ·obtain rfl:k=l.length:=by omega
    rw[List.take_length]
    refine xn1 ?_
    intros
    exact cy v trivial
  intro v _
  refine fp (ft (i:=2) (k:=1) (p:=3) (jsF (d+1) (l.map sJ)) rfl rfl (fun j hj=>fM d _ j (by rw[List.length_map];exact hj)) (fun R hr=>.cells (a:=.own 2 v) rfl fun _=>eg hr)) ?_
  exact ap hC hGL xw0
end
section
open Go Go.RowKit
abbrev obC (b:Nat)(v1 v2:Value):HEnt:=.cells b (some 29) [.int .i64 7,.str [],.own 2 v1,.own 3 v2]
abbrev obR (d:Nat)(v1 v2:Value)(L:List (List UInt8×List (List UInt8))):Heap:=[.row v1 none 1 L.length (aS (keyJ L)),.row v2 none 4 L.length (jsC d (txtJ L))]
abbrev obH (z b d:Nat)(v1 v2:Value)(L:List (List UInt8×List (List UInt8))):Heap:=jZ z::obC b v1 v2::obR d v1 v2 L
theorem qh (L:List (List UInt8×List (List UInt8)))(k:List UInt8)(l:List (List UInt8)):aS (keyJ L)++[.str k]=aS (keyJ (L++[(k,l)])):=by
 unfold keyJ
 rw[List.map_append]
 exact co _ _
theorem pM (d:Nat)(L:List (List UInt8×List (List UInt8)))(k:List UInt8)(l:List (List UInt8)):jsC d (txtJ L)++Js.C d (tsJ l)=jsC d (txtJ (L++[(k,l)])):=by
 unfold txtJ
 rw[List.map_append,bQ]
 rfl
theorem B7 (L:List (List UInt8×List (List UInt8)))(k:List UInt8)(l:List (List UInt8)):(L++[(k,l)]).length=L.length+1:=by rw[List.length_append];rfl
theorem pj (l:List (List UInt8)):cg l.length (aq l)=aS l:=by
 unfold cg aS
 have h:(List.range l.length).flatMap (fun i=>(aq l i).cells)=(List.range l.length).map fun i=>AVal.str (l.getD i []):=by
  induction (List.range l.length) with
  |nil=>rfl
  |cons a t ih=>rw[List.flatMap_cons,ih];rfl
 rw[h]
 exact List.ext_getElem (by simp) fun i h1 h2=>by simp[List.getD_eq_getElem?_getD,List.getElem?_eq_getElem (show i<l.length by simpa using h2)]
theorem sU (l:List (List UInt8)):aA 1 l.length (aq l):=fun i hi=>⟨rfl,rfl,rfl⟩
theorem sS {ps:List Pr}{k:Nat}(h:isT (ps.getD k Pr.z)=true):aS (typL ps k)++cg (ps.getD k Pr.z).vs.length (aq (ps.getD k Pr.z).vs)=aS (typL ps (k+1))∧(typL ps k).length+(ps.getD k Pr.z).vs.length=(typL ps (k+1)).length:=by
 rw[pj,typL,if_pos h]
 exact⟨(List.map_append (f:=AVal.str)).symm,(List.length_append ..).symm⟩
theorem sR {ps:List Pr}{k:Nat}(h:isT (ps.getD k Pr.z)=false):typL ps (k+1)=typL ps k:=by rw[typL,if_neg (by rw[h];decide),List.append_nil]
attribute [local irreducible] AWp AOps aa aA OrOk ad ah
theorem rP {G:Glo}(z b d:Nat)(v1 v2:Value)(L:List (List UInt8×List (List UInt8)))(k:List UInt8)(l:List (List UInt8))(hl:l.length≤1000000000)(hL:L.length≤1000000):
  ah Tryz.prog G 52 [.str k,.list 1 l.length (aq l),.raw (jAt b)] (obH z b (d+1) v1 v2 L) (fun r H=>(∃w1 w2,H=obH z b (d+1) w1 w2 (L++[(k,l)]))∧r= .ret (.tuple [])):=by
 have hGL:ad G []:=ab
 have hs:=uo (G:=G) d l hl
 refine Gf [(2,1,jAt b)] Tryz.func52 Tryz.call52 rfl rfl rfl rfl (by repeat (first|exact trivial|refine And.intro ⟨rfl,rfl⟩ ?_)) ?_
 intro C hC
 refine ap hC hGL (xn1 ?_)
 intros
 refine dw_p mixed hC hGL false (fun _:(Option Addr×Nat×Nat)×Option Addr×Nat×Nat=>[]) (fun y=>[jZ z,obC b (.slice y.1.1 y.1.2.1 y.1.2.2) (.slice y.2.1 y.2.2.1 y.2.2.2),.row (.slice y.1.1 y.1.2.1 y.1.2.2) none 1 (L.length+1) (aS (keyJ L)++[.str k]),.row (.slice y.2.1 y.2.2.1 y.2.2.2) none 4 (L.length+1) (jsC (d+1) (txtJ L)++Js.C (d+1) (tsJ l))]) (.take 0 (.take 2 (.take 5 (.take 7 (.br 1 (.br 3 (.br 4 (.br 6 (.take 11 (.br 8 (.br 9 (.br 10 (.br 12 (.take 13 (.br 14 (.done) (.nil))) (.nil)) (.nil)) (.nil)) (.nil))) (.br 8 (.br 6 (.take 11 (.br 9 (.br 10 (.br 12 (.take 13 (.br 14 (.done) (.nil))) (.nil)) (.nil)) (.nil))) (.br 9 (.br 6 (.take 11 (.br 10 (.br 12 (.take 13 (.br 14 (.done) (.nil))) (.nil)) (.nil))) (.nil)) (.nil))) (.nil))) (.br 6 (.br 4 (.take 11 (.br 8 (.br 9 (.br 10 (.br 12 (.take 13 (.br 14 (.done) (.nil))) (.nil)) (.nil)) (.nil)) (.nil))) (.nil)) (.nil))) (.br 6 (.br 3 (.br 4 (.take 11 (.br 8 (.br 9 (.br 10 (.br 12 (.take 13 (.br 14 (.done) (.nil))) (.nil)) (.nil)) (.nil)) (.nil))) (.nil)) (.nil)) (.nil))) (.br 3 (.br 1 (.br 4 (.br 6 (.take 11 (.br 8 (.br 9 (.br 10 (.br 12 (.take 13 (.br 14 (.done) (.nil))) (.nil)) (.nil)) (.nil)) (.nil))) (.br 8 (.br 6 (.take 11 (.br 9 (.br 10 (.br 12 (.take 13 (.br 14 (.done) (.nil))) (.nil)) (.nil)) (.nil))) (.br 9 (.br 6 (.take 11 (.br 10 (.br 12 (.take 13 (.br 14 (.done) (.nil))) (.nil)) (.nil))) (.nil)) (.nil))) (.nil))) (.br 6 (.br 4 (.take 11 (.br 8 (.br 9 (.br 10 (.br 12 (.take 13 (.br 14 (.done) (.nil))) (.nil)) (.nil)) (.nil)) (.nil))) (.nil)) (.nil))) (.br 6 (.br 1 (.br 4 (.take 11 (.br 8 (.br 9 (.br 10 (.br 12 (.take 13 (.br 14 (.done) (.nil))) (.nil)) (.nil)) (.nil)) (.nil))) (.nil)) (.nil)) (.nil))) (.br 6 (.br 1 (.br 3 (.br 4 (.take 11 (.br 8 (.br 9 (.br 10 (.br 12 (.take 13 (.br 14 (.done) (.nil))) (.nil)) (.nil)) (.nil)) (.nil))) (.nil)) (.nil)) (.br 3 (.br 1 (.br 4 (.take 11 (.br 8 (.br 9 (.br 10 (.br 12 (.take 13 (.br 14 (.done) (.nil))) (.nil)) (.nil)) (.nil)) (.nil))) (.nil)) (.nil)) (.nil))) (.nil)))))))) (by kernel_rfl) ?_ ?_
 ·refine xn ?_
  repeat' (first|exact Le.n|refine Lc.mk ?_ ?_)
  all_goals intros
  all_goals exact⟨((_,_,_),_,_,_),ae,rfl⟩
 rintro⟨⟨va,vk,vc⟩,ua,uk,uc⟩
 dsimp only
 rw[qh L k l,pM (d+1) L k l,←B7 L k l]
 refine xn1 ?_
 intros
 exact⟨_,List.Sublist.refl _,⟨_,_,rfl⟩,rfl⟩
theorem D6 {G:Glo}(z b d:Nat)(v1 v2:Value)(L:List (List UInt8×List (List UInt8)))(k s:List UInt8)(hL:L.length≤1000000):
  ah Tryz.prog G 52 [.str k,.list 1 1 (bc [(0,.str s)]),.raw (jAt b)] (obH z b (d+1) v1 v2 L) (fun r H=>(∃w1 w2,H=obH z b (d+1) w1 w2 (L++[(k,[s])]))∧r= .ret (.tuple [])):=
 k9 (rP z b d v1 v2 L k [s] (show 1≤1000000000 by decide) hL) fun _ _ h=>lO (k:=1) (n:=1) (f:=bc [(0,.str s)]) (g:=aq [s]) (fun i hi _ h=>match i,hi with|0,_=>h) rfl h
theorem xg {G:Glo}{z b d:Nat}{v1 v2:Value}{L:List (List UInt8×List (List UInt8))}{p:List UInt8×List (List UInt8)}{avs:List AVal}{T:Heap}{K Kp:AVal→Heap→Prop}(hs:ah Tryz.prog G 52 avs (obH z b d v1 v2 L) (fun r H=>(∃w1 w2,H=obH z b d w1 w2 (L++[p]))∧r= .ret (.tuple [])))
  (k:∀w1 w2,K (.tuple []) (obH z b d w1 w2 (L++[p])++T)):Cx Tryz.prog G 52 avs (obH z b d v1 v2 L++T) K Kp:=by
 refine Ev [0,0,0,0] hs rfl ?_ ?_
 ·rintro v H1 ⟨⟨w1,w2,rfl⟩,e⟩
  cases e
  exact⟨obH z b d w1 w2 (L++[p])++T,rfl,rfl,k w1 w2⟩
 ·rintro v H1 ⟨_,e⟩
  cases e
theorem GN {C:Ctx}{n:Nat}{e:Env}(z b d:Nat):To C n e [jZ z,.cells b (some 29) [.int .i64 7,.str [],jN,jN]] e (obH z b d (.slice none 0 0) (.slice none 0 0) []):=
 aM (d8 1) (aM (d8 4) (aM (cK (i:=1) (p:=2) (x:=.cells b (some 29) [.int .i64 7,.str [],jN,jN]) (a':=.own 2 (.slice none 0 0)) rfl (fun R=>.cells rfl fun _=>gI)) (cK (i:=1) (p:=3) (x:=.cells b (some 29) [.int .i64 7,.str [],.own 2 (.slice none 0 0),jN]) (a':=.own 3 (.slice none 0 0)) rfl (fun R=>.cells rfl fun _=>gI))))
attribute [local irreducible] typL kvP kvO
theorem zV {G:Glo}(d:Nat)(x:Itm)(hx:x.OK 2500):FnIs Tryz.prog G 28 [itR x] (.agg (Js.C (d+2) (parJ x))):=by
 have hps:x.1.ps.length≤2500:=hx.p.ps
 have hq:∀k,(x.1.ps.getD k Pr.z).n.length≤2500:=fun k=>(hx.p.q k).1
 have hT:∀k,FnIs Tryz.prog G 50 [.str (x.1.ps.getD k Pr.z).n,.str [84,89,80,69]] (.bool (isT (x.1.ps.getD k Pr.z))):=fun k=>by
  have h:=jb (G:=G) (x.1.ps.getD k Pr.z).n nTYP (by have:=hq k;omega) (by decide)
  rw[rK] at h
  exact h
 have hV:∀k,FnIs Tryz.prog G 50 [.str (x.1.ps.getD k Pr.z).n,.str [86,65,76,85,69]] (.bool (isV (x.1.ps.getD k Pr.z))):=fun k=>by
  have h:=jb (G:=G) (x.1.ps.getD k Pr.z).n valN (by have:=hq k;omega) (by decide)
  rw[show aj 97 122 (-32) valN=valN by decide+kernel] at h
  exact h
 have hLo:=fun k=>j3 (G:=G) (x.1.ps.getD k Pr.z).n (by have:=hq k;omega)
 have hFi:=gE (G:=G) x.1.ps nTYP (by omega) (fun k=>by have:=hq k;omega) (by decide)
 have hP:=fun z b v1 v2 L k l h1 h2=>rP (G:=G) z b d v1 v2 L k l h1 h2
 have hvs:∀k,(x.1.ps.getD k Pr.z).vs.length≤2500:=fun k=>(hx.p.q k).2.1
 have htl:∀k,k≤2500→(typL x.1.ps k).length≤6250000:=fun k hk=>Nat.le_trans (kn hvs k) (Nat.mul_le_mul_right 2500 hk)
 have hkl:=nc x
 unfold itR
 have hGL:ad G []:=ab
 refine fn_a Tryz.func28 Tryz.call28 rfl rfl rfl rfl ?_
 intro C hC
 refine cuty hC hGL (fun b:Nat=>[(1,.rop (bh x) 0),(2,.own 0 (jAt b))]) (fun b=>[jZ b]) (fun _=>True) ?_ ?_
 ·refine xn1 ?_
  intro b
  intros
  exact cy b trivial
 intro b2 _
 refine cuty hC hGL (fun b:Nat=>[(1,.rop (bh x) 0),(2,.own 0 (jAt b2)),(3,.own 1 (jAt b))]) (fun b=>[jZ b2,.cells b (some 29) [.int .i64 7,.str [],jN,jN]]) (fun _=>True) ?_ ?_
 ·refine xn1 ?_
  intro b
  intros
  exact cy b trivial
 intro b3 _
 refine cut hC hGL [(1,.rop (bh x) 0),(2,.own 0 (jAt b2)),(3,.own 1 (jAt b3)),(4,.func (.func 52) [] [.own 1 (jAt b3)])] [jZ b2,.cells b3 (some 29) [.int .i64 7,.str [],jN,jN]] True xn0 fun _=> ?_
 refine fp (GN b2 b3 (d+1)) ?_
 refine cuty hC hGL (fun _:Value×Value=>[(1,.rop (bh x) 0),(2,.own 0 (jAt b2)),(3,.own 1 (jAt b3)),(4,.func (.func 52) [] [.own 1 (jAt b3)])]) (fun y=>obH b2 b3 (d+1) y.1 y.2 (kvP x 0)) (fun _=>True) ?_ ?_
 ·by_cases hg:x.1.g.length=0
  ·rw[show kvP x 0=[] by unfold kvP;rw[if_pos (List.length_eq_zero_iff.1 hg)]]
   refine xn1 ?_
   intros
   exact cy (_,_) trivial
  ·rw[show kvP x 0=[(grpL,[x.1.g])] by unfold kvP;rw[if_neg (fun h=>hg (by rw[h];rfl))]]
   refine xn1 ?_
   intros
   refine xg (D6 b2 b3 d _ _ [] grpL x.1.g (by decide)) (T:=[]) fun w1 w2=> ?_
   refine xn1 ?_
   exact cy (w1,w2) trivial
 rintro⟨v1,v2⟩-
 dsimp only
 refine cut hC hGL [(1,.rop (bh x) 0),(2,.own 0 (jAt b2)),(3,.own 1 (jAt b3)),(4,.func (.func 52) [] [.own 1 (jAt b3)]),(5,.raw (.slice none 0 0))] (obH b2 b3 (d+1) v1 v2 (kvP x 0)) True xn0 fun _=> ?_
 refine cuty hC hGL (fun v:Value=>[(1,.rop (bh x) 0),(2,.own 0 (jAt b2)),(3,.own 1 (jAt b3)),(4,.func (.func 52) [] [.own 1 (jAt b3)]),(5,.own 4 v)]) (fun v=>obH b2 b3 (d+1) v1 v2 (kvP x 0)++[.row v none 1 (typL x.1.ps x.1.ps.length).length (aS (typL x.1.ps x.1.ps.length))]) (fun _=>True) ?_ ?_
 ·refine xn1 ?_
  intros
  refine iD 5 1 rfl ?_
  refine lp hC hGL (fun y:Nat×Value=>[(1,.rop (bh x) 0),(2,.own 0 (jAt b2)),(3,.own 1 (jAt b3)),(4,.func (.func 52) [] [.own 1 (jAt b3)]),(5,.own 4 y.2),(21,.list 2 x.1.ps.length (prF x.1.ps)),(22,.int .i64 (x.1.ps.length:Nat)),(23,.int .i64 (y.1:Nat))]) (fun y=>obH b2 b3 (d+1) v1 v2 (kvP x 0)++[.row y.2 none 1 (typL x.1.ps y.1).length (aS (typL x.1.ps y.1))]) (fun y=>y.1≤x.1.ps.length) (fun y=>x.1.ps.length-y.1) (0,.slice none 0 0) (Nat.zero_le _) ae ?_ ?_
  ·unfold typL
   rfl
  rintro⟨k,v⟩ k1
  have k1:k≤x.1.ps.length:=k1
  dsimp only
  by_cases hk:k<x.1.ps.length
  ·have hT:=hT k
   have hsrc:=sU (x.1.ps.getD k Pr.z).vs
   have hv:=hvs k
   have ht:=htl k (by omega)
   cases hc:isT (x.1.ps.getD k Pr.z) with
   |true=>
    rw[hc] at hT
    have hp:=sS hc
    refine xn1 ?_
    intro b7 va vk vc hw _
    refine nxs (k+1,Value.slice va vk vc) hk (by show x.1.ps.length-(k+1)<x.1.ps.length-k;omega) ae ?_
    show(obH b2 b3 (d+1) v1 v2 (kvP x 0)++[HEnt.row (Value.slice va vk vc) none 1 (typL x.1.ps (k+1)).length (aS (typL x.1.ps (k+1)))]).Sublist _
    rw[←hp.1,←hp.2]
    exact aB
   |false=>
    rw[hc] at hT
    refine xn1 ?_
    intros
    refine nxs (k+1,v) hk (by show x.1.ps.length-(k+1)<x.1.ps.length-k;omega) ae ?_
    show(obH b2 b3 (d+1) v1 v2 (kvP x 0)++[HEnt.row v none 1 (typL x.1.ps (k+1)).length (aS (typL x.1.ps (k+1)))]).Sublist _
    rw[sR hc]
    exact aB
  ·obtain rfl:k=x.1.ps.length:=by omega
   refine xn1 ?_
   intros
   exact cy v trivial
 intro v _
 refine fp (aM (fY (i:=4) (k:=5) (aq (typL x.1.ps x.1.ps.length)) rfl rfl (ea _)) (bm (h':=obH b2 b3 (d+1) v1 v2 (kvP x 0)) (e':=[(1,.rop (bh x) 0),(2,.own 0 (jAt b2)),(3,.own 1 (jAt b3)),(4,.func (.func 52) [] [.own 1 (jAt b3)]),(5,.list 1 (typL x.1.ps x.1.ps.length).length (aq (typL x.1.ps x.1.ps.length)))]) ae aB)) ?_
 refine cuty hC hGL (fun _:Value×Value=>[(1,.rop (bh x) 0),(2,.own 0 (jAt b2)),(3,.own 1 (jAt b3))]) (fun y=>obH b2 b3 (d+1) y.1 y.2 (kvP x x.1.ps.length)) (fun _=>True) ?_ ?_
 ·refine xn1 ?_
  intros
  refine lp hC hGL (fun y:Nat×Value×Value=>[(1,.rop (bh x) 0),(2,.own 0 (jAt b2)),(3,.own 1 (jAt b3)),(4,.func (.func 52) [] [.own 1 (jAt b3)]),(5,.list 1 (typL x.1.ps x.1.ps.length).length (aq (typL x.1.ps x.1.ps.length))),(36,.list 2 x.1.ps.length (prF x.1.ps)),(37,.int .i64 (x.1.ps.length:Nat)),(38,.int .i64 (y.1:Nat))]) (fun y=>obH b2 b3 (d+1) y.2.1 y.2.2 (kvP x y.1)) (fun y=>y.1≤x.1.ps.length) (fun y=>x.1.ps.length-y.1) (0,v1,v2) (Nat.zero_le _) ae rfl ?_
  rintro⟨k,v1,v2⟩ k1
  have k1:k≤x.1.ps.length:=k1
  dsimp only
  by_cases hk:k<x.1.ps.length
  ·have hT:=hT k
   have hV:=hV k
   have hLo:=hLo k
   have hv:=hvs k
   have hl:=hkl k
   have ht:=htl x.1.ps.length hps
   have hlt:x.1.ps.length-(k+1)<x.1.ps.length-k:=by omega
   cases hcv:isV (x.1.ps.getD k Pr.z) with
   |true=>
    rw[hcv] at hV
    refine xn1 ?_
    intros
    refine nxs (k+1,v1,v2) hk hlt ae ?_
    show(obH b2 b3 (d+1) v1 v2 (kvP x (k+1))).Sublist _
    rw[kvP,EZ hcv,List.append_nil]
    exact aB
   |false=>
    rw[hcv] at hV
    cases hc:isT (x.1.ps.getD k Pr.z) with
    |false=>
     rw[hc] at hT
     refine xn1 ?_
     intros
     refine ig (bn (i:=4) (k:=9) rfl rfl) ?_
     refine dw_p mixed hC hGL false (fun _:Value×Value=>[(1,.rop (bh x) 0),(2,.own 0 (jAt b2)),(3,.own 1 (jAt b3)),(4,.func (.func 52) [] [.own 1 (jAt b3)]),(5,.list 1 (typL x.1.ps x.1.ps.length).length (aq (typL x.1.ps x.1.ps.length))),(36,.list 2 x.1.ps.length (prF x.1.ps)),(37,.int .i64 (x.1.ps.length:Nat)),(38,.int .i64 (k:Nat))]) (fun y=>obH b2 b3 (d+1) y.1 y.2 (kvP x k++[(aj 65 90 32 (x.1.ps.getD k Pr.z).n,(x.1.ps.getD k Pr.z).vs)])++[ck]) (.take 0 (.take 1 (.take 2 (.take 4 (.take 5 (.br 3 (.br 6 (.done) (.nil)) (.nil))))))) (by kernel_rfl) ?_ ?_
     ·refine xn ?_
      repeat' (first|exact Le.n|refine Lc.mk ?_ ?_)
      all_goals intros
      all_goals
       refine xg (rP b2 b3 d _ _ (kvP x k) _ (x.1.ps.getD k Pr.z).vs (by omega) (by omega)) (T:=[ck]) fun w1 w2=> ?_
       refine xn ?_
       repeat' (first|exact Le.n|refine Lc.mk ?_ ?_)
       all_goals intros
       all_goals exact⟨(w1,w2),ae,rfl⟩
     rintro⟨w1,w2⟩
     dsimp only
     refine xn1 ?_
     intros
     refine nxs (k+1,w1,w2) hk hlt ae ?_
     show(obH b2 b3 (d+1) w1 w2 (kvP x (k+1))).Sublist _
     rw[kvP,E1 hcv hc]
     exact aB
    |true=>
     rw[hc] at hT
     have hf:=Em hk hc
     cases ha:anyT x.1.ps k with
     |false=>
      rw[hf.2 ha] at hFi
      refine xn1 ?_
      intros
      refine xg (rP b2 b3 d _ _ (kvP x k) typM (typL x.1.ps x.1.ps.length) (by omega) (by omega)) (T:=[_]) fun w1 w2=> ?_
      refine xn1 ?_
      intros
      refine nxs (k+1,w1,w2) hk hlt ae ?_
      show(obH b2 b3 (d+1) w1 w2 (kvP x (k+1))).Sublist _
      rw[kvP,E2 hcv hc ha]
      exact aB
     |true=>
      have hne:a7 nTYP x.1.ps 0≠(k:Int):=fun h=>by rw[hf.1 h] at ha;cases ha
      refine xn1 ?_
      intros
      refine nxs (k+1,v1,v2) hk hlt ae ?_
      show(obH b2 b3 (d+1) v1 v2 (kvP x (k+1))).Sublist _
      rw[kvP,E0 hc ha,List.append_nil]
      exact aB
  ·obtain rfl:k=x.1.ps.length:=by omega
   refine xn1 ?_
   intros
   exact cy (v1,v2) trivial
 rintro⟨v1,v2⟩-
 dsimp only
 have e1:(keyJ (kvP x x.1.ps.length)).length=(kvP x x.1.ps.length).length:=List.length_map ..
 have e2:(txtJ (kvP x x.1.ps.length)).length=(kvP x x.1.ps.length).length:=List.length_map ..
 refine fp (ft (i:=3) (k:=1) (p:=3) (jsF (d+2) (txtJ (kvP x x.1.ps.length))) rfl rfl (fun j hj=>fM (d+1) _ j (by omega)) (fun R hr=>.cells (a:=.own 3 v2) rfl fun _=>eg hr)) ?_
 refine fp (ft (i:=2) (k:=1) (p:=2) (aq (keyJ (kvP x x.1.ps.length))) rfl rfl (fun j hj=>ea _ j (by omega)) (fun R hr=>.cells (a:=.own 2 v1) rfl fun _=>eg hr)) ?_
 unfold parJ obJ Js.C
 dsimp only[Js.k,Js.t,Js.ks,Js.l]
 rw[e1,e2]
 exact ap hC hGL xn0
end
section
open Go Go.RowKit
attribute [local irreducible] AWp AOps aA OrOk ad ah
attribute [local irreducible] tabE escF escS
theorem GZ (a:AVal):∀R v,Rel R a v→∀w,∃u,(Go.method (Tryz.prog.types.size+Made.depth) 303 v "Replace").run Tryz.prog w= .ok (296,u) w∧Rel R a u:=by
 intro R v hv w
 exact⟨v,by kernel_rfl,hv⟩
theorem tt {G:Glo}(br bl vc:Nat)(s:List UInt8)(hl:s.length≤2000000)(hct:∀c,FnIs Tryz.prog G 187 [.str s,.str [c]] (.int .i64 (s.countP (· ==c):Nat))):
  ah Tryz.prog G 101 [.raw (pv bl 0),.str s] [escO br vc,.cells bl (some 209) (newC (.slice (some ⟨br,0,none⟩) 8 vc))] (fun r H=>r= .ret (.str (escS s))∧H=[]):=by
 have hGL:ad G []:=ab
 have e1:=Gj (G:=G) br bl vc
 refine gh 1 Tryz.func101 Tryz.call101 rfl rfl rfl rfl hGL rfl ?_
 intro C hC
 refine xm1 ?_
 intros
 refine⟨_,e1,?_,fun v' H' ⟨y,e,_⟩=>by cases e⟩
 rintro v' H' ⟨y,e,rfl⟩
 cases e
 have e3:=uI (G:=G) br bl vc (escQ y) y.va y.vk y.vt y.bz y.b1 y.c1 y.b2 y.c2 y.b3 y.c3 y.b4 y.c4 y.h s hl hct
 refine xm1 ?_
 intros
 refine iv 296 (.raw (pv y.bz 0)) (GZ _) (sk e3 ?_)
 exact xm0
theorem mn {G:Glo}(s:List UInt8)(hl:s.length≤2000000)(hct:∀c,FnIs Tryz.prog G 187 [.str s,.str [c]] (.int .i64 (s.countP (· ==c):Nat))):FnIs Tryz.prog G 54 [.str s] (.str (escS s)):=by
 have hGL:ad G []:=ab
 refine fn_x Tryz.func54 Tryz.call54 rfl rfl rfl rfl hGL ?_
 intro C hC
 refine xn1 ?_
 intros
 refine⟨_,rI 8 _ (by decide) (by decide) ?_,?_,?_⟩
 ·unfold aA
  exact f5 rfl
 ·rintro v H' ⟨bl,va,vk,vc,hva,e,rfl⟩
  cases e
  obtain⟨br,rfl,rfl⟩:=hva (by omega)
  have e2:=tt (G:=G) br bl vc s hl hct
  refine xm1 ?_
  intros
  refine sk e2 ?_
  exact xm0
 ·rintro v H' ⟨bl,va,vk,vc,hva,e,rfl⟩
  cases e
end
section
open Go Go.RowKit
attribute [local irreducible] AWp AOps aa aA OrOk ad ah
attribute [local irreducible] escF escS
theorem ze {G:Glo}(l:List (List UInt8))(hn:l.length≤2000000)(hl:Lib.lens l≤2000000):FnIs Tryz.prog G 102 [.list 1 l.length (aq l)] (.tuple [.str (joinT l),(kW l).A]):=by
 have hE:=fun k=>mn (G:=G) (l.getD k []) (by have:=cL (l:=l) (k:=k);omega) (jt _)
 have hj:=jd l
 have hGL:ad G []:=ab
 refine fn_x Tryz.func102 Tryz.call102 rfl rfl rfl rfl hGL ?_
 intro C hC
 cases l with
 |nil=>
  exact xw0
 |cons x r=>
  refine xw1 ?_
  intros
  refine iD 4 1 rfl ?_
  refine lp hC hGL (fun(y:List (List UInt8)×Value)=>[(4,.own 0 y.2),(11,.list 1 (x::r).length (aq (x::r))),(12,.int .i64 ((x::r).length:Nat)),(13,.int .i64 (y.1.length:Nat))]) (fun y=>[.row y.2 none 1 y.1.length (aS y.1)]) (fun y=>y.1.length≤(x::r).length∧y.1=((x::r).map escS).take y.1.length) (fun y=>(x::r).length-y.1.length) ([],.slice none 0 0) ?_ ae rfl ?_
  ·exact⟨Nat.zero_le _,rfl⟩
  ·rintro⟨ps,v⟩ ⟨h1,h2⟩
   have h1:ps.length≤(x::r).length:=h1
   have h2:ps=((x::r).map escS).take ps.length:=h2
   repeat' (first|(conv=>whnf);first|refine .w ?_|refine .v ?_|refine sc_c ?_ ?_<;>(intro hb;try exact dd hb)|apply ao|apply aG|(apply sc_i<;>intro hb)|(apply bx_i;intro hbd)|(apply ax;first|exact hE _)|(apply aw (i:=0) rfl;first|exact hE _)|(apply ab_i;intro bl)|(apply as_i;intro va vk vc hva)|(apply av_i;intro v)|(apply ac_i;intro bl cap hcap)|apply bo_l|(apply nx_i<;>intro hnx)|apply dw_q mixed hC hGL (by kernel_rfl)|(apply cq;assumption;(first|exact hE _);exact rfl)|(show Rt _ _ _;exact rt_w)|fail)
   all_goals try conv=>whnf
   ·have hb:((ps.length:Nat):Int)<(((x::r).length:Nat):Int):=hb
    have hlt:ps.length<(x::r).length:=by omega
    refine nxt (ps++[escS ((x::r).getD ps.length [])],.slice va vk vc) ?_ ?_ ⟨rfl,rfl,rfl,?_,trivial⟩ ?_
    ·refine⟨?_,?_⟩
     ·show(ps++[escS ((x::r).getD ps.length [])]).length≤(x::r).length
      rw[List.length_append,List.length_singleton];omega
     ·show ps++[escS ((x::r).getD ps.length [])]=((x::r).map escS).take (ps++[escS ((x::r).getD ps.length [])]).length
      rw[List.length_append,List.length_singleton,pc hlt,←h2]
    ·show(x::r).length-(ps++[escS ((x::r).getD ps.length [])]).length<(x::r).length-ps.length
     rw[List.length_append,List.length_singleton];omega
    ·show some (AVal.int .i64 (((ps.length:Nat):Int)+1))=some (AVal.int .i64 ((ps++[escS ((x::r).getD ps.length [])]).length:Nat))
     rw[List.length_append];rfl
    ·dsimp only
     rw[←co,List.length_append]
     rfl
   ·have hb:(((x::r).length:Nat):Int)≤((ps.length:Nat):Int):=hb
    have h3:ps=(x::r).map escS:=by rw[h2,List.take_of_length_le (by rw[List.length_map];omega)]
    subst h3
    refine aw (i:=0) rfl (cb ((x::r).map escS) [44] v (by omega) (by have:(Lib.join ((x::r).map escS) [44]).length≤_:=hj;omega)) ?_
    exact xw0
theorem Bz {G:Glo}(l:List (List UInt8))(hn:l.length≤2000000)(hl:Lib.lens l≤2000000):FnIs Tryz.prog G 78 [.list 1 l.length (aq l)] (.tuple [.str (joinT l),.int .i64 (kW l).e]):=by
 have hE:=fun k=>nR (G:=G) (l.getD k []) (by have:=cL (l:=l) (k:=k);omega)
 have hj:=jd l
 have hGL:ad G []:=ab
 refine fn_x Tryz.func78 Tryz.call78 rfl rfl rfl rfl hGL ?_
 intro C hC
 cases l with
 |nil=>
  exact xw0
 |cons x r=>
  have hq:∀k,(escS x++Lib.joinTail [44] ((r.map escS).take k)).length≤(joinT (x::r)).length:=fun k=>by
   unfold joinT
   rw[List.map_cons,Lib.join_cons,List.length_append,List.length_append]
   have:=Lib.joinTail_take_le [44] (r.map escS) k
   omega
  have hx:∀k,(escS ((x::r).getD k [])).length≤4000000:=fun k=>by
   have h1:=(fi ((x::r).getD k [])).2
   have h2:=cL (l:=x::r) (k:=k)
   omega
  have k1:=@hE
  refine xw1 ?_
  intros
  refine lp hC hGL (fun k:Nat=>[(4,.str (escS x++Lib.joinTail [44] ((r.map escS).take k))),(15,.list 1 ((x::r).length-1) (fun k=>aq (x::r) (1+k))),(16,.int .i64 (((x::r).length-1:Nat):Int)),(17,.int .i64 (k:Nat))]) (fun _=>[]) (fun k=>k≤r.length) (fun k=>r.length-k) 0 (Nat.zero_le _) ⟨?_,rfl,rfl,rfl,trivial⟩ rfl ?_
  ·show some (AVal.str (escS x))=some (AVal.str (escS x++Lib.joinTail [44] []))
   simp[Lib.joinTail]
  ·intro k hk
   have hq1:=hq k
   have hx1:=hx (1+k)
   have hgl:(x::r).getD (1+k) []=r.getD k []:=by rw[Nat.add_comm];rfl
   repeat' (first|(conv=>whnf);first|refine .w ?_|refine .v ?_|refine sc_c ?_ ?_<;>(intro hb;try exact dd hb)|apply ao|apply aG|(apply sc_i<;>intro hb)|(apply bx_i;intro hbd)|(apply ax;first|exact hE _)|(apply aw (i:=0) rfl;first|exact hE _)|(apply ab_i;intro bl)|(apply as_i;intro va vk vc hva)|(apply av_i;intro v)|(apply ac_i;intro bl cap hcap)|apply bo_l|(apply nx_i<;>intro hnx)|apply dw_q mixed hC hGL (by kernel_rfl)|(apply cq;assumption;(first|exact hE _);exact rfl)|(show Rt _ _ _;exact rt_w)|fail)
   all_goals try conv=>whnf
   ·have hb2:((k:Nat):Int)<((r.length:Nat):Int):=hb
    have hlt:k<r.length:=by omega
    refine nxt (k+1) ?_ ?_ ⟨?_,rfl,rfl,rfl,trivial⟩ rfl
    ·exact hlt
    ·show r.length-(k+1)<r.length-k;omega
    ·show some (AVal.str (escS x++Lib.joinTail [44] ((r.map escS).take k)++([44]++escS ((x::r).getD (1+k) []))))=some (AVal.str (escS x++Lib.joinTail [44] ((r.map escS).take (k+1))))
     rw[Lib.joinTail_take_succ [44] (r.map escS) k (escS (r.getD k [])) (by rw[List.getElem?_map,List.getD_eq_getElem?_getD,List.getElem?_eq_getElem hlt];rfl),hgl]
     simp only[List.append_assoc]
   ·have hb2:((r.length:Nat):Int)≤((k:Nat):Int):=hb
    apply ak
    unfold joinT
    rw[List.take_of_length_le (by rw[List.length_map];omega),List.map_cons,Lib.join_cons]
    rfl
end
section
open Go Go.RowKit
attribute [local irreducible] AWp AOps aa aA OrOk ad ah
attribute [local irreducible] escF escS joinT kW
theorem qk:kW []= .errno 8:=by unfold kW;rw[if_pos rfl]
theorem ov {l:List (List UInt8)}(h:l≠[]):kW l= .none:=by unfold kW;rw[if_neg h]
theorem nB {G:Glo}(L:List (List (List UInt8)))(hs:Small L):FnIs Tryz.prog G 55 [.list 1 L.length (bY L)] (.tuple [.str (dc L),(dy L).A]):=by
 have hJ:=fun k=>ze (G:=G) (L.getD k []) (hs.k k).1 (hs.k k).2
 have hn:=hs.n
 by_cases h0:L=[]
 ·subst h0
  have hGL:ad G []:=ab
  refine fn_x Tryz.func55 Tryz.call55 rfl rfl rfl rfl hGL ?_
  intro C hC
  exact xw0
 ·have h00:L.length≠0:=fun h=>h0 (List.eq_nil_of_length_eq_zero h)
  have hGL:ad G []:=ab
  refine fn_x Tryz.func55 Tryz.call55 rfl rfl rfl rfl hGL ?_
  intro C hC
  refine xw1 ?_
  intros
  refine iD 4 1 rfl ?_
  refine lp hC hGL (fun(y:List (List UInt8)×Value)=>[(4,.own 0 y.2),(13,.list 1 L.length (bY L)),(14,.int .i64 (L.length:Nat)),(15,.int .i64 (y.1.length:Nat))]) (fun y=>[.row y.2 none 1 y.1.length (aS y.1)]) (fun y=>y.1.length≤bR L∧y.1=(L.map joinT).take y.1.length) (fun y=>L.length-y.1.length) ([],.slice none 0 0) ?_ ae rfl ?_
  ·exact⟨Nat.zero_le _,rfl⟩
  ·rintro⟨ps,v⟩ ⟨h1,h2⟩
   have h1:ps.length≤bR L:=h1
   have h2:ps=(L.map joinT).take ps.length:=h2
   have h3:=kR L
   by_cases hlt:ps.length<L.length
   ·have hJ1:=hJ ps.length
    by_cases hnil:L.getD ps.length []=[]
    ·have hk:=lU hlt h1 hnil
     rw[show kW (L.getD ps.length [])= .errno 8 by rw[hnil];exact qk] at hJ1
     refine xw1 ?_
     intros
     apply ak
     unfold dc dy
     rw[if_pos (by omega),if_neg h0,if_pos (by omega),hk]
     rfl
    ·rw[ov hnil] at hJ1
     repeat' (first|(conv=>whnf);first|refine .w ?_|refine .v ?_|refine sc_c ?_ ?_<;>(intro hb;try exact dd hb)|apply ao|apply aG|(apply sc_i<;>intro hb)|(apply bx_i;intro hbd)|(apply ax;first|exact hJ1)|(apply aw (i:=0) rfl;first|exact hJ1)|(apply ab_i;intro bl)|(apply as_i;intro va vk vc hva)|(apply av_i;intro v)|(apply ac_i;intro bl cap hcap)|apply bo_l|(apply nx_i<;>intro hnx)|apply dw_q mixed hC hGL (by kernel_rfl)|(apply cq;assumption;(first|exact hJ1);exact rfl)|(show Rt _ _ _;exact rt_w)|fail)
     all_goals try conv=>whnf
     have hm:=jY hlt h1 hnil
     refine nxt (ps++[joinT (L.getD ps.length [])],.slice va vk vc) ?_ ?_ ⟨rfl,rfl,rfl,?_,trivial⟩ ?_
     ·refine⟨?_,?_⟩
      ·show(ps++[joinT (L.getD ps.length [])]).length≤bR L
       rw[List.length_append,List.length_singleton];exact hm
      ·show ps++[joinT (L.getD ps.length [])]=(L.map joinT).take (ps++[joinT (L.getD ps.length [])]).length
       rw[List.length_append,List.length_singleton,im hlt,←h2]
     ·show L.length-(ps++[joinT (L.getD ps.length [])]).length<L.length-ps.length
      rw[List.length_append,List.length_singleton];omega
     ·show some (AVal.int .i64 (((ps.length:Nat):Int)+1))=some (AVal.int .i64 ((ps++[joinT (L.getD ps.length [])]).length:Nat))
      rw[List.length_append];rfl
     ·dsimp only
      rw[←co,List.length_append]
      rfl
   ·refine xw1 ?_
    intros
    have h5:bR L=L.length:=by omega
    have h4:ps=L.map joinT:=by rw[h2,List.take_of_length_le (by rw[List.length_map];omega)]
    subst h4
    refine aw (i:=0) rfl (cb (L.map joinT) [59] v (by omega) (nF hs)) ?_
    refine xw1 ?_
    intros
    apply ak
    unfold dc dy
    rw[if_neg (by omega),if_neg h0,if_neg (by omega)]
    rfl
theorem pr {G:Glo}(L:List (List (List UInt8)))(hs:Small L):FnIs Tryz.prog G 43 [.list 1 L.length (bY L)] (.tuple [.str (dc L),.agg [.int .i64 (dy L).e,.int .i64 (dy L).p]]):=by
 have hJ:=fun k=>Bz (G:=G) (L.getD k []) (hs.k k).1 (hs.k k).2
 have hn:=hs.n
 have hb8:=fb (G:=G) 8
 have hg:=fa (G:=G)
 by_cases h0:L=[]
 ·subst h0
  have hGL:ad G []:=ab
  refine fn_x Tryz.func43 Tryz.call43 rfl rfl rfl rfl hGL ?_
  intro C hC
  exact xw0
 ·have h00:L.length≠0:=fun h=>h0 (List.eq_nil_of_length_eq_zero h)
  have hGL:ad G []:=ab
  refine fn_x Tryz.func43 Tryz.call43 rfl rfl rfl rfl hGL ?_
  intro C hC
  repeat' (first|(conv=>whnf);first|refine .w ?_|refine .v ?_|refine sc_c ?_ ?_<;>(intro hb;try exact dd hb)|apply ao|apply aG|(apply sc_i<;>intro hb)|(apply bx_i;intro hbd)|(apply ax;first|fail)|(apply aw (i:=0) rfl;first|fail)|(apply ab_i;intro bl)|(apply as_i;intro va vk vc hva)|(apply av_i;intro v)|(apply ac_i;intro bl cap hcap)|apply bo_l|(apply nx_i<;>intro hnx)|apply dw_q mixed hC hGL (by kernel_rfl)|(apply cq;assumption;(first|fail);exact rfl)|(show Rt _ _ _;exact rt_w)|fail)
  all_goals try conv=>whnf
  refine iD 4 1 rfl ?_
  refine lp hC hGL (fun(y:List (List UInt8)×Value)=>[(0,.list 1 L.length (bY L)),(3,.own 0 (pv bl 0)),(4,.own 1 y.2),(13,.int .i64 (L.length:Nat)),(14,.int .i64 (y.1.length:Nat))]) (fun y=>[.cells bl (some 32) [.int .i64 0,.int .i64 0],.row y.2 none 1 y.1.length (aS y.1)]) (fun y=>y.1.length≤bR L∧y.1=(L.map joinT).take y.1.length) (fun y=>L.length-y.1.length) ([],.slice none 0 0) ?_ ae rfl ?_
  ·exact⟨Nat.zero_le _,rfl⟩
  ·rintro⟨ps,v⟩ ⟨h1,h2⟩
   have h1:ps.length≤bR L:=h1
   have h2:ps=(L.map joinT).take ps.length:=h2
   have h3:=kR L
   by_cases hlt:ps.length<L.length
   ·have hJ1:=hJ ps.length
    by_cases hnil:L.getD ps.length []=[]
    ·have hk:=lU hlt h1 hnil
     rw[show kW (L.getD ps.length [])= .errno 8 by rw[hnil];exact qk] at hJ1
     have hJ1:FnIs Tryz.prog G 78 [.list 1 (L.getD ps.length []).length (aq (L.getD ps.length []))] (.tuple [.str (joinT (L.getD ps.length [])),.int .i64 8]):=hJ1
     refine xw1 ?_
     intros
     apply ak
     unfold dc dy
     rw[if_pos (by omega),if_neg h0,if_pos (by omega),hk]
     rfl
    ·rw[ov hnil] at hJ1
     have hJ1:FnIs Tryz.prog G 78 [.list 1 (L.getD ps.length []).length (aq (L.getD ps.length []))] (.tuple [.str (joinT (L.getD ps.length [])),.int .i64 0]):=hJ1
     repeat' (first|(conv=>whnf);first|refine .w ?_|refine .v ?_|refine sc_c ?_ ?_<;>(intro hb;try exact dd hb)|apply ao|apply aG|(apply sc_i<;>intro hb)|(apply bx_i;intro hbd)|(apply ax;first|exact hJ1)|(apply aw (i:=0) rfl;first|exact hJ1)|(apply ab_i;intro bl)|(apply as_i;intro va vk vc hva)|(apply av_i;intro v)|(apply ac_i;intro bl cap hcap)|apply bo_l|(apply nx_i<;>intro hnx)|apply dw_q mixed hC hGL (by kernel_rfl)|(apply cq;assumption;(first|exact hJ1);exact rfl)|(show Rt _ _ _;exact rt_w)|fail)
     all_goals try conv=>whnf
     have hm:=jY hlt h1 hnil
     refine nxt (ps++[joinT (L.getD ps.length [])],.slice va vk vc) ?_ ?_ ⟨rfl,rfl,rfl,rfl,?_,trivial⟩ ?_
     ·refine⟨?_,?_⟩
      ·show(ps++[joinT (L.getD ps.length [])]).length≤bR L
       rw[List.length_append,List.length_singleton];exact hm
      ·show ps++[joinT (L.getD ps.length [])]=(L.map joinT).take (ps++[joinT (L.getD ps.length [])]).length
       rw[List.length_append,List.length_singleton,im hlt,←h2]
     ·show L.length-(ps++[joinT (L.getD ps.length [])]).length<L.length-ps.length
      rw[List.length_append,List.length_singleton];omega
     ·show some (AVal.int .i64 (((ps.length:Nat):Int)+1))=some (AVal.int .i64 ((ps++[joinT (L.getD ps.length [])]).length:Nat))
      rw[List.length_append];rfl
     ·dsimp only
      rw[←co,List.length_append]
      rfl
   ·refine xw1 ?_
    intros
    have h5:bR L=L.length:=by omega
    have h4:ps=L.map joinT:=by rw[h2,List.take_of_length_le (by rw[List.length_map];omega)]
    subst h4
    refine aw (i:=1) rfl (cb (L.map joinT) [59] v (by omega) (nF hs)) ?_
    refine xw1 ?_
    intros
    apply ak
    unfold dc dy
    rw[if_neg (by omega),if_neg h0,if_neg (by omega)]
    rfl
end
end Go.Proofs.YtdpbejofgemloaaGreatDoor
