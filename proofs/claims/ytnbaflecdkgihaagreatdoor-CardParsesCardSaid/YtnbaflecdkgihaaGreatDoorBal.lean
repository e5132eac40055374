/- Parts of the proof of cardParses_card. -/
import Derived.Test.YtnbaflecdkgihaaGreatDoorBak
set_option linter.unusedVariables false
set_option linter.unusedSimpArgs false
set_option linter.unusedSectionVars false
namespace Go.Proofs.YtnbaflecdkgihaaGreatDoor
open Go Go.RowKit
open Tryz
set_option maxRecDepth 20000
set_option maxHeartbeats 4000000
section
theorem px {R R':Seal}{a a' b:AVal}{x:Value}(hle:R.le R')(h:bx R (.tuple [a,b]) x)(ht:∀v,bx R a v->bx R' a' v):bx R' (.tuple [a',b]) x:=by
 obtain⟨⟨ws,e,u,t,e1,hu,u2,t2,e2,hu2,rfl⟩,h2⟩:=h;have k:=ht u ⟨hu.1,hu.2⟩;have k2:=fm hle (show bx R b u2 from⟨hu2.1,hu2.2⟩);exact⟨⟨ws,e,_,_,e1,⟨k.1,k.2⟩,_,_,e2,⟨k2.1,k2.2⟩,rfl⟩,h2⟩
theorem Su {C:Ctx}{R:Seal}{w:World}{L:List LineS}{v u:Value}(hm:MS C R [.row v none 3 L.length (nZ L 1 u),.row u none 1 (kJ L).length (gJ (kJ L))] w):∃R',R.le R'/\MS C R' [] w/\bx R' (.list 3 L.length (cM L)) v:=by
 rcases List.eq_nil_or_concat L with rfl|⟨I,l,rfl⟩
 ·exact MS.seal_row (hm.drop (by exact V_ _ (Ug _))) (λi h=>absurd h (Uf _))
 ·rw[List.concat_eq_append] at*
  have hI:=gp I;rw[nJ,nG] at hm;obtain⟨R1,l1,m1,r1⟩:=MS.seal_row (f:=eo l.f) (hm.perm (List.Perm.swap _ _ _)) (xO _);have hc:lP R1 (I.length*3+2) (.list 1 l.f.length (eo l.f)) (.row v none 3 (I++[l]).length (aW I++[.str l.t,.int .i64 l.a,.own 1 u])) _:=.row (a:=.own 1 u) (PK hI) λ_=>cE r1;obtain⟨h1,h2⟩:=hc.holds (m1.heap.holds _ (z_ ..));have m2:=m1.setEnt (i:=0) rfl h2 h1;have e1:(aW I++([.str l.t,.int .i64 l.a,.own 1 u]:List AVal)).set (I.length*3+2) (.list 1 l.f.length (eo l.f))=aW (I++[l]):=by
   rw[List.set_append_right _ _ a_,hI,T_,jJ];simp[aW]
  rw[e1] at m2;obtain⟨R2,l2,m3,r2⟩:=MS.seal_row (f:=cM (I++[l])) m2 (Az _);exact⟨R2,Seal.le_trans l1 l2,m3,r2⟩
theorem Am {R:Seal}{f:Nat->AVal}{v:Value}(h:bx R (.raw (.slice none 0 0)) v):bx R (.list 3 0 f) v:=by
 rw[ar] at h;subst h;exact⟨⟨none,0,rfl,Nat.le_refl _,.inl rfl⟩,rfl⟩
theorem zx {G:Glo}(t:List UInt8)(hl:t.length<=9223372036854775000):ak prog G 11 [.str t] (.tuple [.list 3 (ci t).length (cM (ci t)),(ca t).A]):=by
 refine dA (Id t hl) ?_;rintro r H (⟨rfl,h2,rfl⟩|⟨v,u,rfl,rfl⟩)
 ·rintro C R w e hm ⟨x,rfl,hx⟩;rw[h2];exact⟨R,hm,x,rfl,px (Seal.le_refl R) hx λv=>Am⟩
 ·rintro C R w e hm ⟨x,rfl,hx⟩;obtain⟨R',hle,m2,hr⟩:=Su hm;exact⟨R',m2,x,rfl,px hle hx λv2 h=>by rw[(aG.1 h).1];exact hr⟩
theorem Ps (l:List Int):az 1 l.length (eo l):=λi hi=>⟨rfl,rfl,rfl⟩
theorem y7 (l:List Int):eP l.length (eo l)=gJ l:=by
 unfold eP gJ;have:(λi=>(eo l i).cells)=λi=>[AVal.int .i64 (l.getD i 0)]:=rfl;rw[this,<-List.map_eq_flatMap];refine List.ext_getElem (by simp) (λi h1 h2=> ?_);have h3:i<l.length:=by simpa using h2
 simp[List.getD,y_ h3]
attribute [local irreducible] bG au aa az aR ab ad
attribute [local irreducible] aW nZ kJ cU nT fb iB To dP Lv fZ
theorem wO {G:Glo}(b2 b3:Nat)(x:AVal)(e p:Int):dP prog G 17 [.own 1 (.pointer (some ⟨b3,0,none⟩)),.own 0 (.pointer (some ⟨b2,0,none⟩))] .ret [.cells b2 (some 37) [x],.cells b3 (some 27) [.int .i64 e,.int .i64 p]]
  (λr m H=>m= .ret/\r= .ret (.tuple [])/\H=[.cells b2 (some 37) [if e=0 then x else .raw (.slice none 0 0)],.cells b3 (some 27) [.int .i64 e,.int .i64 p]]):=by
 have hGL:ab G []:=al;have hI:=gA (G:=G) e p;refine vx (rs:=[]) (GL:=[]) func17 rfl rfl rfl rfl hGL ?_;intro C hC;by_cases he:e=0
 ·rw[fA.2 he] at hI;rw[if_pos he];refine xw ?_;repeat' first|exact .n|apply Lc.mk
  all_goals intros
  all_goals skip
 ·rw[lK.2 he] at hI;rw[if_neg he];refine xw ?_;repeat' first|exact .n|apply Lc.mk
  all_goals intros
  all_goals skip
theorem py {C:Ctx}{n:Nat}{e:Env}{c2 c3:HEnt}{v:Value}{L:List LineS}{q:List UInt8}{a m:Nat}(hm:m=(L++[(⟨q,a,[]⟩:LineS)]).length):To C n e [c2,c3,.row v none 3 m (aW L++([.str q,.int .i64 a,.raw (.slice none 0 0)]:List AVal))] e
  [c2,c3,.row v none 3 (L++[(⟨q,a,[]⟩:LineS)]).length (aW (L++[⟨q,a,[]⟩]))]:=by
 have hI:=gp L;rw[<-hm];have e1:(aW L++([.str q,.int .i64 a,.raw (.slice none 0 0)]:List AVal)).set (L.length*3+2) (.list 1 0 (eo []))=aW (L++[⟨q,a,[]⟩]):=by
  rw[List.set_append_right _ _ a_,hI,T_,jJ];unfold aW;simp
 rw[<-e1];exact jO (i:=2) (p:=L.length*3+2) (x:=.row v none 3 m (aW L++([.str q,.int .i64 a,.raw (.slice none 0 0)]:List AVal))) (a':=.list 1 0 (eo [])) rfl (λR=>.row (a:=.raw (.slice none 0 0)) (PK hI) λ_=>lx)
theorem GO {C:Ctx}{n:Nat}{e:Env}{c2 c3:HEnt}{v u:Value}{I:List LineS}{x:List UInt8}{a m k:Nat}{f:List Int}(hk:k=f.length)(hm:m=(I++[(⟨x,a,f⟩:LineS)]).length):To C n e [c2,c3,.row v none 3 m (aW I++([.str x,.int .i64 a,.own 4 u]:List AVal)),.row u none 1 k (gJ f)] e
  [c2,c3,.row v none 3 (I++[(⟨x,a,f⟩:LineS)]).length (aW (I++[⟨x,a,f⟩]))]:=by
 subst hk;have hI:=gp I;rw[<-hm];have e1:(aW I++([.str x,.int .i64 a,.own 4 u]:List AVal)).set (I.length*3+2) (.list 1 f.length (eo f))=aW (I++[⟨x,a,f⟩]):=by
  rw[List.set_append_right _ _ a_,hI,T_,jJ];unfold aW;simp
 rw[<-e1];exact kS (i:=3) (k:=2) (p:=I.length*3+2) (eo f) rfl rfl (xO _) (λR hr=>.row (a:=.own 4 u) (PK hI) λ_=>cE hr)
theorem Yv {A:List AVal}{x y z x' y' z':AVal}{N k:Nat}(hA:A.length=N)(hk:k=N):(A++[x,y,z]).take k++[x',y',z']++(A++[x,y,z]).drop (k+3)=A++[x',y',z']:=by
 subst hA;subst hk;simp
theorem oS (I:List LineS)(l:LineS):aW (I++[l])=aW I++[.str l.t,.int .i64 l.a,.list 1 l.f.length (eo l.f)]:=by
 rw[jJ];simp[aW]
theorem qS:aW []=[]:=by unfold aW;rfl
abbrev Eh (I:List LineS)(l:LineS):List AVal:=aW I++[.str l.t,.int .i64 l.a,.list 1 l.f.length (eo l.f)]
abbrev gB (b:Nat):Value:=.pointer (some ⟨b,0,none⟩)
abbrev sr (b3:Nat):Deferred:={target:=.fn (.func 18) #[],args:=#[gB b3]}
abbrev yq (b2 b3:Nat):Deferred:={target:=.fn (.func 17) #[gB b3,gB b2],args:=#[]}
theorem Sx {P:Program}[Tab P]{G:Glo}{n:Nat}{rs:List ResultVar}{env:Env}{H:Heap}{Qf:ct->Heap->Prop}(h:TL P rs Qf .ret env H):Lv P G n rs env [] .ret H Qf:=by
 unfold Lv;rintro C R a w fn u D0 hC hrs hm hf rfl
 obtain⟨vs,H'',hv,hs,q⟩:=h
 obtain⟨y,hy,hr⟩:=dT (fn:=fn) hm hf (by rw[hrs];exact hv)
 exact⟨y,hy,_,H'',R,q,⟨y,rfl,hr⟩,hm.drop hs⟩
section
variable {G:Glo} {n:Nat} {env:Env} {Qf:ct->Heap->Prop} {b2 b3:Nat} {T:Heap} {x y z:AVal} {e p:Int}
theorem Jp (R:Seal)(i b:Nat):dO R [.own i (gB b)] [gB b]:=⟨_,_,rfl,aG.2 ⟨rfl,rfl⟩,rfl⟩
theorem tz (h2:Env.get env 2=some (.own 0 (gB b2)))(h3:Env.get env 3=some (.own 1 (gB b3)))(hx:x.isAgg=false){H':Heap}(hs:H'.Sublist T)(hq:Qf (.ret (.tuple [x,.agg [.int .i64 e,.int .i64 p]])) H'):
  Lv prog G n [.cell 2 37,.cell 3 27] env [] .ret (.cells b2 (some 37) [x]:: .cells b3 (some 27) [.int .i64 e,.int .i64 p]::T) Qf:=by
 refine Sx ⟨[x,.agg [.int .i64 e,.int .i64 p]],H',⟨_,_,rfl,⟨b2,0,_,_,_,.inr ⟨0,h2⟩,rfl,rfl,rfl,.inr ⟨rfl,rfl,hx⟩⟩,_,_,rfl,⟨b3,1,_,_,_,.inr ⟨1,h3⟩,rfl,rfl,rfl,.inl ⟨rfl,rfl⟩⟩,rfl⟩,?_,hq⟩
 exact(hs.cons _).cons _
theorem gC (h2:Env.get env 2=some (.own 0 (gB b2)))(h3:Env.get env 3=some (.own 1 (gB b3)))(he:e≠0)(hq:Qf (.ret (.tuple [.raw (.slice none 0 0),.agg [.int .i64 e,.int .i64 p]])) []):
  Lv prog G n [.cell 2 37,.cell 3 27] env [sr b3,yq b2 b3] (.pan (qK e p)) (.cells b2 (some 37) [x]:: .cells b3 (some 27) [y,z]::T) Qf:=by
 refine ig (Kv (i:=1) rfl (wL b3 e p y z)) (λR=>Jp R 0 b3) call18 ?_;have h1:=wO (G:=G) b2 b3 x e p;rw[if_neg he] at h1;refine ig (o8 T h1) (λR=>⟨_,_,rfl,aG.2 ⟨rfl,rfl⟩,_,_,rfl,aG.2 ⟨rfl,rfl⟩,rfl⟩) call17 ?_;exact tz h2 h3 rfl (Ug _) hq
theorem HI (h2:Env.get env 2=some (.own 0 (gB b2)))(h3:Env.get env 3=some (.own 1 (gB b3)))(hx:x.isAgg=false){H':Heap}(hs:H'.Sublist T)(hq:Qf (.ret (.tuple [x,.agg [.int .i64 0,.int .i64 p]])) H'):
  Lv prog G n [.cell 2 37,.cell 3 27] env [sr b3,yq b2 b3] .ret (.cells b2 (some 37) [x]:: .cells b3 (some 27) [.int .i64 0,.int .i64 p]::T) Qf:=by
 refine ig (Kv (i:=0) rfl (rQ b3 _)) (λR=>Jp R 0 b3) call18 ?_;have h1:=wO (G:=G) b2 b3 x 0 p;rw[if_pos rfl] at h1;refine ig (o8 T h1) (λR=>⟨_,_,rfl,aG.2 ⟨rfl,rfl⟩,_,_,rfl,aG.2 ⟨rfl,rfl⟩,rfl⟩) call17 ?_;exact tz h2 h3 hx hs hq
end
theorem LE {G:Glo}(t:List UInt8)(hl:t.length<=9223372036854775000):ad prog G 8 [.str t] [] (λr H=>(r= .ret (.tuple [.raw (.slice none 0 0),.agg [.int .i64 (ca t).e,.int .i64 (ca t).p]])/\ci t=[]/\H=[])\/
  ∃v,r= .ret (.tuple [.own 2 v,.agg [.int .i64 (ca t).e,.int .i64 (ca t).p]])/\H=[.row v none 3 (ci t).length (aW (ci t))]):=by
 have hGL:ab G []:=al;have hbare:=jc (G:=G);have hgood:=fp (G:=G);refine SX (rs:=[.cell 2 37,.cell 3 27]) func8 call8 rfl rfl rfl rfl ?_;intro C hC hD;refine ff (dJ hC hGL ?_);refine aK ?_;intro b2 b3;intros;refine ff (ff (dJ hC hGL ?_));refine aK ?_;intros;refine(Ga rfl (λhb=>dJ hC hGL ?_) (λhb=>dJ hC hGL ?_))
 ·have k1:=@hbare;refine aK ?_;intros;rw[hD];have hb:=nX.1 hb;have e1:ca t= .errno 4:=by unfold ca;rw[if_pos a_]
  refine tz rfl rfl rfl (Ug _) (.inl ⟨by rw[e1];rfl,by unfold ci;rw[if_pos a_],rfl⟩)
 ·refine aK ?_;intros;have hb:=oP.1 hb;refine ff (dJ hC hGL ?_);refine aK ?_;intros;refine ff (jN hC hGL rfl ?_);refine aK ?_;intros;refine⟨_,rfl,?_⟩;refine ff (jN hC hGL rfl ?_);refine aK ?_;intros;refine⟨_,rfl,?_⟩;refine(λ(h:∀C2:Ctx,C2.G=G->C2.D=[sr b3,yq b2 b3]->fZ prog C2 _ _ _ _ _)=>h (withD C (sr b3::yq b2 b3::C.D)) hC (by show sr b3::yq b2 b3::C.D=_;rw[hD])) ?_;clear hC hD C;intro C hC hD;refine dJ hC hGL ?_;refine ao ?_;intros;refine VF hC hGL (λ(x:Nat×Nat×List LineS×Nat×Nat)=>[(0,.str t),(2,.own 0 (gB b2)),(3,.own 1 (gB b3)),(4,.int .i64 x.2.1),(5,.int .i64 x.1)]) (λx=>[.cells b2 (some 37) [.own 2 (cJ x.2.2.2.1 x.2.2.2.2 x.2.2.1.length)],.cells b3 (some 27) [.int .i64 0,.int .i64 (-1)],.row (cJ x.2.2.2.1 x.2.2.2.2 x.2.2.1.length) none 3 x.2.2.1.length (aW x.2.2.1)])
   (λx=>x.2.1<=x.1/\x.1<=t.length+1/\(x.2.1<t.length->x.1<=t.length)/\x.2.2.1.length<=x.2.1/\cw t 0 []=cw t x.2.1 x.2.2.1/\(∀j,x.2.1<=j->j<x.1->aa t j≠10/\aa t j≠13)/\∀l,x.2.2.1.getLast? =some l->l.t.length<=x.2.1/\l.f.length<=x.2.1) (λx=>t.length+1-x.1) (0,0,[],0,0) ?_ ?_ ?_
  ·exact⟨Nat.le_refl _,Nat.zero_le _,λ_=>Nat.zero_le _,Nat.le_refl _,rfl,λj h1 h2=>absurd h2 (Uf _),λl h=>by cases h⟩
  ·dsimp only
   refine an (fg 3) (an (jO (i:=0) (p:=0) (x:=.cells b2 (some 37) [.raw (.slice none 0 0)]) (a':=.own 2 (.slice none 0 0)) rfl (λR=>.cells rfl λ_=>jU)) (bL ⟨rfl,rfl,rfl,rfl,rfl,trivial⟩ ?_));rw[show aW []=[] by unfold aW;rfl];exact At _
  rintro⟨i,a,L,b,cap⟩ ⟨g1,g2,g3,g4,g5,g6,g7⟩;dsimp only at g1 g2 g3 g4 g5 g6 g7 ⊢;have hE:ca t=(cw t a L).1:=by unfold ca;rw[if_neg a_,g5]
  have hL:ci t=(cw t a L).2:=by unfold ci;rw[if_neg a_,g5]
  have hT:=λe p=>pI (G:=G) e p;by_cases ha:a<t.length
  ·have g3:=g3 ha;by_cases hi:i=t.length
   ·have hc:fb (t.drop a)= -1:=FR (oL (Nat.le_refl _) λj hj=>by rw[cm];rw[k_] at hj;exact g6 (a+j) a_ a_);have h1:=qR (L:=L) ha hc;refine ao ?_;intros;refine bY (hT 7 i) ?_
    (conv=>whnf)
    rw[hD];exact gC rfl rfl b_ (.inl ⟨by rw[hE,h1,hi];rfl,by rw[hL,h1],rfl⟩)
   ·by_cases hn:aa t i=10\/aa t i=13
    ·have hii:a+(i-a)=i:=by omega
     have hc:fb (t.drop a)=((i-a:Nat):Int):=Te (by rw[k_];omega) (by rw[cm,hii];exact hn) (λj hj=>by rw[cm];exact g6 (a+j) a_ a_);have h1:=tB (L:=L) ha hc;have h2:=oR (L:=L) ha hc;rw[hii] at h1 h2;rw[show(t.drop a).take (i-a)=(t.take i).drop a by rw[List.drop_take]] at h2;have hpl:((t.take i).drop a).length=i-a:=by rw[k_,i_];omega
     cases hk:iB t i with
     |false=>
      have h1:=h1 hk;have hk':aa t i≠13\/¬(i+1<t.length)\/aa t (i+1)≠10:=by
       unfold iB at hk;rw[Vr,Vr,beq_eq_false_iff_ne,beq_eq_false_iff_ne,YU] at hk;omega
      rw[show(a:Int)+((i-a:Nat):Int)=i by omega] at h1;refine xn ?_;repeat' first|exact .n|apply Lc.mk
      all_goals intros
      all_goals
       refine bY (hT 3 i) ?_
       (conv=>whnf)
       rw[hD];exact gC rfl rfl b_ (.inl ⟨by rw[hE,h1];rfl,by rw[hL,h1],rfl⟩)
     |true=>
      have hk':aa t i=13/\i+1<t.length/\aa t (i+1)=10:=by
       unfold iB at hk;rw[l_,l_,YS,YS,n_] at hk;omega
      have h2:=h2 hk;clear h1;rcases List.eq_nil_or_concat L with rfl|⟨I,l,rfl⟩
      ·rw[qS];refine xn ?_;repeat' first|exact .n|apply Lc.mk
       all_goals intros
       iterate 2
        ·have hF:cU ((t.take i).drop a)=true:=by first|exact pV (by assumption) (by assumption)|exact pU (by assumption) (by assumption)
         refine bY (hT 10 0) ?_
         (conv=>whnf)
         rw[hD];exact gC rfl rfl b_ (.inl ⟨by rw[hE,h2,gX hF];rfl,by rw[hL,h2,gX hF],rfl⟩)
       ·rename_i va vk vc hva _ _ _ _ _ _ _ _ _ _ _ _ _ _;have hF:cU ((t.take i).drop a)=false:=by first|exact iL (by assumption)|exact kg (by assumption) (by assumption)
        obtain⟨bv,rfl,rfl⟩:=hva (by simp);refine ao ?_;intros;refine oA ⟨⟨_,rfl⟩,show(((([]:List LineS).length+1:Nat):Int)-1).toNat*3+3<=(([]:List LineS).length+1)*3 by omega,a_⟩ ?_;refine yb (c:=[.str ((t.take i).drop a),.int .i64 a,.raw (.slice none 0 0)]) rfl ?_;refine xn ?_;repeat' first|exact .n|apply Lc.mk
        all_goals intros
        ·refine bY (hT 4 a) ?_
         (conv=>whnf)
         rw[hD];exact gC rfl rfl b_ (.inl ⟨by rw[hE,h2,gG hF a_];rfl,by rw[hL,h2,gG hF a_],rfl⟩)
        ·refine C9 (i+2,i+2,(([]:List LineS)++[(⟨((t.take i).drop a),a,[]⟩:LineS)]),bv,vc) ⟨Nat.le_refl _,by dsimp only;omega,λ_=>by dsimp only;omega,by simp only[d_,j_,E_];omega,?_,λj h1 h2=>by dsimp only at h1 h2;omega,λl h=>by have e:(⟨((t.take i).drop a),a,[]⟩:LineS)=l:=(by simpa using h);subst e;exact⟨by show(((t.take i).drop a)).length<=i+2;omega,Nat.zero_le _⟩⟩ (by dsimp only;omega) ?_
         ·dsimp only
          rw[g5,h2,jp hF a_]
         ·dsimp only
          have hm:([]:List LineS).length+1=(([]:List LineS)++[(⟨((t.take i).drop a),a,[]⟩:LineS)]).length:=by simp
          refine an (bL (e':=[(0,.str t),(2,.own 0 (gB b2)),(3,.own 1 (gB b3)),(4,.int .i64 ((i+2:Nat):Int)),(5,.int .i64 ((i+2:Nat):Int))]) (h':=[.cells b2 (some 37) [.own 2 (.slice (some ⟨bv,0,none⟩) (([]:List LineS).length+1) vc)],.cells b3 (some 27) [.int .i64 0,.int .i64 (-1)],.row (.slice (some ⟨bv,0,none⟩) (([]:List LineS).length+1) vc) none 3 (([]:List LineS).length+1) (aW ([]:List LineS)++([.str ((t.take i).drop a),.int .i64 a,.raw (.slice none 0 0)]:List AVal))]) ⟨rfl,rfl,rfl,congrArg (λz=>some (AVal.int .i64 z)) a_,congrArg (λz=>some (AVal.int .i64 z)) a_,trivial⟩ (by rw[qS];exact V_ _ (V_ _ (V_ _ (Ug _))))) (an (py hm) (by rw[<-hm];exact ng))
       ·rename_i va vk vc hva _ _ _ _ _ _ _ _ _ _;have hF:cU ((t.take i).drop a)=false:=by first|exact iL (by assumption)|exact kg (by assumption) (by assumption)
        obtain⟨bv,rfl,rfl⟩:=hva (by simp);refine ao ?_;intros;refine oA ⟨⟨_,rfl⟩,show(((([]:List LineS).length+1:Nat):Int)-1).toNat*3+3<=(([]:List LineS).length+1)*3 by omega,a_⟩ ?_;refine yb (c:=[.str ((t.take i).drop a),.int .i64 a,.raw (.slice none 0 0)]) rfl ?_;refine xn ?_;repeat' first|exact .n|apply Lc.mk
        all_goals intros
        ·refine C9 (i+2,i+2,(([]:List LineS)++[(⟨((t.take i).drop a),a,[]⟩:LineS)]),bv,vc) ⟨Nat.le_refl _,by dsimp only;omega,λ_=>by dsimp only;omega,by simp only[d_,j_,E_];omega,?_,λj h1 h2=>by dsimp only at h1 h2;omega,λl h=>by have e:(⟨((t.take i).drop a),a,[]⟩:LineS)=l:=(by simpa using h);subst e;exact⟨by show(((t.take i).drop a)).length<=i+2;omega,Nat.zero_le _⟩⟩ (by dsimp only;omega) ?_
         ·dsimp only
          rw[g5,h2,jp hF a_]
         ·dsimp only
          have hm:([]:List LineS).length+1=(([]:List LineS)++[(⟨((t.take i).drop a),a,[]⟩:LineS)]).length:=by simp
          refine an (bL (e':=[(0,.str t),(2,.own 0 (gB b2)),(3,.own 1 (gB b3)),(4,.int .i64 ((i+2:Nat):Int)),(5,.int .i64 ((i+2:Nat):Int))]) (h':=[.cells b2 (some 37) [.own 2 (.slice (some ⟨bv,0,none⟩) (([]:List LineS).length+1) vc)],.cells b3 (some 27) [.int .i64 0,.int .i64 (-1)],.row (.slice (some ⟨bv,0,none⟩) (([]:List LineS).length+1) vc) none 3 (([]:List LineS).length+1) (aW ([]:List LineS)++([.str ((t.take i).drop a),.int .i64 a,.raw (.slice none 0 0)]:List AVal))]) ⟨rfl,rfl,rfl,congrArg (λz=>some (AVal.int .i64 z)) a_,congrArg (λz=>some (AVal.int .i64 z)) a_,trivial⟩ (by rw[qS];exact V_ _ (V_ _ (V_ _ (Ug _))))) (an (py hm) (by rw[<-hm];exact ng))
      ·rw[List.concat_eq_append] at*
       have hll:(I++[l]).length=I.length+1:=by simp
       have hI3:=gp I;rw[oS,hll];rw[hll] at g4;obtain⟨g8,g9⟩:=g7 l (by simp);have ra:cd (cJ b cap (I.length+1)) b (I.length+1):=⟨cap,rfl⟩;refine xn ?_;repeat' first|exact .n|apply Lc.mk
       all_goals intros
       iterate 2
        ·have hF:cU ((t.take i).drop a)=true:=by first|exact pV (by assumption) (by assumption)|exact pU (by assumption) (by assumption)
         refine oA ⟨ra,show(((I.length+1:Nat):Int)-1).toNat*3+3<=(I.length+1)*3 by omega,a_⟩ ?_;refine yb (c:=[.str l.t,.int .i64 l.a,.list 1 l.f.length (eo l.f)]) (wf hI3 (show(((I.length+1:Nat):Int)-1).toNat*3=I.length*3 by omega)) ?_;refine ao ?_;intro bl;intros;have rb:cd (cJ b cap (I.length+1)) b (I.length+1)/\(((I.length+1:Nat):Int)-1).toNat*3+3<=(I.length+1)*3/\0<I.length+1:=⟨ra,a_,a_⟩;have hsrc:=Ps l.f;have jV:(((t.take i).drop a).drop 1).length=i-a-1:=by rw[k_,hpl]
         refine eq (e':=[(0,.str t),(2,.own 0 (gB b2)),(3,.own 1 (gB b3)),(4,.int .i64 a),(5,.int .i64 i),(6,.str ((t.take i).drop a)),(7,.own 3 (gB bl))]) (bL ⟨rfl,rfl,rfl,rfl,rfl,rfl,rfl,trivial⟩ (At _)) ?_;refine bh mixed hC hGL false (λ(_:Option Addr×Nat×Nat)=>[(0,.str t),(2,.own 0 (gB b2)),(3,.own 1 (gB b3)),(4,.int .i64 a),(5,.int .i64 i),(6,.str ((t.take i).drop a)),(7,.own 3 (gB bl))]) (λy=>[.cells b2 (some 37) [.own 2 (cJ b cap (I.length+1))],.cells b3 (some 27) [.int .i64 0,.int .i64 (-1)],.row (cJ b cap (I.length+1)) none 3 (I.length+1) (Eh I l),.cells bl (some 66) [.str l.t,.int .i64 l.a,.own 4 (.slice y.1 y.2.1 y.2.2)],.row (.slice y.1 y.2.1 y.2.2) none 1 (l.f.length+1) (eP l.f.length (eo l.f)++[.int .i64 l.t.length])]) (.t 0 (.t 3 (.br 1 (.br 2 (.b 4 (.b 5 (.b 6 (.b 7 (.t 8 (.b 9 .done)))))) (.b 4 (.br 2 (.b 5 (.b 6 (.b 7 (.t 8 (.b 9 .done))))) (.b 5 (.br 2 (.b 6 (.b 7 (.t 8 (.b 9 .done)))) (.b 6 (.b 2 (.b 7 (.t 8 (.b 9 .done)))))))))) (.b 4 (.br 1 (.br 2 (.b 5 (.b 6 (.b 7 (.t 8 (.b 9 .done))))) (.b 5 (.br 2 (.b 6 (.b 7 (.t 8 (.b 9 .done)))) (.b 6 (.b 2 (.b 7 (.t 8 (.b 9 .done)))))))) (.b 5 (.br 1 (.br 2 (.b 6 (.b 7 (.t 8 (.b 9 .done)))) (.b 6 (.b 2 (.b 7 (.t 8 (.b 9 .done)))))) (.b 6 (.b 1 (.b 2 (.b 7 (.t 8 (.b 9 .done))))))))))))) be xu ?_
         ·rintro⟨va,vk,vc⟩;dsimp only
          refine ao ?_;intros;refine bh mixed hC hGL false (λ(_:Unit)=>[(0,.str t),(2,.own 0 (gB b2)),(3,.own 1 (gB b3)),(4,.int .i64 a),(5,.int .i64 i),(6,.str ((t.take i).drop a)),(7,.own 3 (gB bl))]) (λ_=>[.cells b2 (some 37) [.own 2 (cJ b cap (I.length+1))],.cells b3 (some 27) [.int .i64 0,.int .i64 (-1)],.row (cJ b cap (I.length+1)) none 3 (I.length+1) (Eh I l),.cells bl (some 66) [.str (l.t++((t.take i).drop a).drop 1),.int .i64 l.a,.own 4 (.slice va vk vc)],.row (.slice va vk vc) none 1 (l.f.length+1) (eP l.f.length (eo l.f)++[.int .i64 l.t.length])]) (.t 0 (.t 2 (.t 3 (.b 1 (.t 4 (.t 5 (.b 6 .done))))))) be xu ?_
          ·intro _;refine ao ?_;intros;have hkk:((((I.length+1:Nat):Int)-1).toNat*3)=I.length*3:=by omega
           have hset:=Yv (x:=.str l.t) (y:=.int .i64 l.a) (z:=.list 1 l.f.length (eo l.f)) (x':=.str (l.t++((t.take i).drop a).drop 1)) (y':=.int .i64 l.a) (z':=.own 4 (.slice va vk vc)) hI3 hkk;refine yb (c:=[.str (l.t++((t.take i).drop a).drop 1),.int .i64 l.a,.own 4 (.slice va vk vc)]) (by show(((Eh I l).take ((((I.length+1:Nat):Int)-1).toNat*3)++([.str (l.t++((t.take i).drop a).drop 1),.int .i64 l.a,.own 4 (.slice va vk vc)]:List AVal)++(Eh I l).drop (((((I.length+1:Nat):Int)-1).toNat*3)+3)).drop ((((I.length+1:Nat):Int)-1).toNat*3)).take 3=_;rw[hset];exact wf hI3 hkk) ?_;have hal:(l.t++((t.take i).drop a).drop 1).length=l.t.length+(i-a-1):=by rw[d_,jV]
           refine xn ?_;repeat' first|exact .n|apply Lc.mk
           all_goals intros
           ·refine bY (hT 4 l.a) ?_
            (conv=>whnf)
            rw[hD];exact gC rfl rfl b_ (.inl ⟨by rw[hE,h2,gv hF a_];rfl,by rw[hL,h2,gv hF a_],rfl⟩)
           ·refine C9 (i+2,i+2,I++[(⟨(l.t++((t.take i).drop a).drop 1),l.a,l.f++[(l.t.length:Int)]⟩:LineS)],b,cap) ⟨Nat.le_refl _,by dsimp only;omega,λ_=>by dsimp only;omega,by simp only[d_,j_,E_];omega,?_,λj h1 h2=>by dsimp only at h1 h2;omega,λl' h=>by have e:(⟨(l.t++((t.take i).drop a).drop 1),l.a,l.f++[(l.t.length:Int)]⟩:LineS)=l':=(by simpa using h);subst e;exact⟨by show(l.t++((t.take i).drop a).drop 1).length<=i+2;omega,by show(l.f++[(l.t.length:Int)]).length<=i+2;rw[d_,j_,E_];omega⟩⟩ (by dsimp only;omega) ?_
            ·dsimp only
             rw[g5,h2,ud hF a_]
            ·dsimp only
             have hm:I.length+1=(I++[(⟨(l.t++((t.take i).drop a).drop 1),l.a,l.f++[(l.t.length:Int)]⟩:LineS)]).length:=by simp
             refine an (bL (e':=[(0,.str t),(2,.own 0 (gB b2)),(3,.own 1 (gB b3)),(4,.int .i64 ((i+2:Nat):Int)),(5,.int .i64 ((i+2:Nat):Int))]) (h':=[.cells b2 (some 37) [.own 2 (cJ b cap (I.length+1))],.cells b3 (some 27) [.int .i64 0,.int .i64 (-1)],.row (cJ b cap (I.length+1)) none 3 (I.length+1) ((Eh I l).take ((((I.length+1:Nat):Int)-1).toNat*3)++[.str (l.t++((t.take i).drop a).drop 1),.int .i64 l.a,.own 4 (.slice va vk vc)]++(Eh I l).drop (((((I.length+1:Nat):Int)-1).toNat*3)+3)),.row (.slice va vk vc) none 1 (l.f.length+1) (eP l.f.length (eo l.f)++[.int .i64 l.t.length])]) ⟨rfl,rfl,rfl,congrArg (λz=>some (AVal.int .i64 z)) a_,congrArg (λz=>some (AVal.int .i64 z)) a_,trivial⟩ (by exact V_ _ (V_ _ (V_ _ (List.Sublist.cons _ (V_ _ (Ug _))))))) ?_;rw[hset,y7,xP,<-hm];exact an (GO (by simp) hm) (by rw[<-hm];exact ng)
       ·rename_i va vk vc hva _ _ _ _ _ _ _ _ _ _ _ _ _ _;have hF:cU ((t.take i).drop a)=false:=by first|exact iL (by assumption)|exact kg (by assumption) (by assumption)
        obtain⟨bv,rfl,rfl⟩:=hva (by simp);refine ao ?_;intros;refine oA ⟨⟨_,rfl⟩,show((((I.length+1)+1:Nat):Int)-1).toNat*3+3<=((I.length+1)+1)*3 by omega,a_⟩ ?_;refine yb (c:=[.str ((t.take i).drop a),.int .i64 a,.raw (.slice none 0 0)]) (wf (A:=Eh I l) (N:=(I.length+1)*3) (by simp only[d_,hI3,j_,E_];omega) (show(((I.length+1+1:Nat):Int)-1).toNat*3=(I.length+1)*3 by omega)) ?_;refine xn ?_;repeat' first|exact .n|apply Lc.mk
        all_goals intros
        ·refine bY (hT 4 a) ?_
         (conv=>whnf)
         rw[hD];exact gC rfl rfl b_ (.inl ⟨by rw[hE,h2,gG hF a_];rfl,by rw[hL,h2,gG hF a_],rfl⟩)
        ·refine C9 (i+2,i+2,((I++[l])++[(⟨((t.take i).drop a),a,[]⟩:LineS)]),bv,vc) ⟨Nat.le_refl _,by dsimp only;omega,λ_=>by dsimp only;omega,by simp only[d_,j_,E_];omega,?_,λj h1 h2=>by dsimp only at h1 h2;omega,λl h=>by have e:(⟨((t.take i).drop a),a,[]⟩:LineS)=l:=(by simpa using h);subst e;exact⟨by show(((t.take i).drop a)).length<=i+2;omega,Nat.zero_le _⟩⟩ (by dsimp only;omega) ?_
         ·dsimp only
          rw[g5,h2,jp hF a_]
         ·dsimp only
          have hm:(I.length+1)+1=((I++[l])++[(⟨((t.take i).drop a),a,[]⟩:LineS)]).length:=by simp
          refine an (bL (e':=[(0,.str t),(2,.own 0 (gB b2)),(3,.own 1 (gB b3)),(4,.int .i64 ((i+2:Nat):Int)),(5,.int .i64 ((i+2:Nat):Int))]) (h':=[.cells b2 (some 37) [.own 2 (.slice (some ⟨bv,0,none⟩) ((I.length+1)+1) vc)],.cells b3 (some 27) [.int .i64 0,.int .i64 (-1)],.row (.slice (some ⟨bv,0,none⟩) ((I.length+1)+1) vc) none 3 ((I.length+1)+1) (aW (I++[l])++([.str ((t.take i).drop a),.int .i64 a,.raw (.slice none 0 0)]:List AVal))]) ⟨rfl,rfl,rfl,congrArg (λz=>some (AVal.int .i64 z)) a_,congrArg (λz=>some (AVal.int .i64 z)) a_,trivial⟩ (by rw[oS];exact V_ _ (V_ _ (V_ _ (Ug _))))) (an (py hm) (by rw[<-hm];exact ng))
       ·rename_i va vk vc hva _ _ _ _ _ _ _ _ _ _;have hF:cU ((t.take i).drop a)=false:=by first|exact iL (by assumption)|exact kg (by assumption) (by assumption)
        obtain⟨bv,rfl,rfl⟩:=hva (by simp);refine ao ?_;intros;refine oA ⟨⟨_,rfl⟩,show((((I.length+1)+1:Nat):Int)-1).toNat*3+3<=((I.length+1)+1)*3 by omega,a_⟩ ?_;refine yb (c:=[.str ((t.take i).drop a),.int .i64 a,.raw (.slice none 0 0)]) (wf (A:=Eh I l) (N:=(I.length+1)*3) (by simp only[d_,hI3,j_,E_];omega) (show(((I.length+1+1:Nat):Int)-1).toNat*3=(I.length+1)*3 by omega)) ?_;refine xn ?_;repeat' first|exact .n|apply Lc.mk
        all_goals intros
        ·refine C9 (i+2,i+2,((I++[l])++[(⟨((t.take i).drop a),a,[]⟩:LineS)]),bv,vc) ⟨Nat.le_refl _,by dsimp only;omega,λ_=>by dsimp only;omega,by simp only[d_,j_,E_];omega,?_,λj h1 h2=>by dsimp only at h1 h2;omega,λl h=>by have e:(⟨((t.take i).drop a),a,[]⟩:LineS)=l:=(by simpa using h);subst e;exact⟨by show(((t.take i).drop a)).length<=i+2;omega,Nat.zero_le _⟩⟩ (by dsimp only;omega) ?_
         ·dsimp only
          rw[g5,h2,jp hF a_]
         ·dsimp only
          have hm:(I.length+1)+1=((I++[l])++[(⟨((t.take i).drop a),a,[]⟩:LineS)]).length:=by simp
          refine an (bL (e':=[(0,.str t),(2,.own 0 (gB b2)),(3,.own 1 (gB b3)),(4,.int .i64 ((i+2:Nat):Int)),(5,.int .i64 ((i+2:Nat):Int))]) (h':=[.cells b2 (some 37) [.own 2 (.slice (some ⟨bv,0,none⟩) ((I.length+1)+1) vc)],.cells b3 (some 27) [.int .i64 0,.int .i64 (-1)],.row (.slice (some ⟨bv,0,none⟩) ((I.length+1)+1) vc) none 3 ((I.length+1)+1) (aW (I++[l])++([.str ((t.take i).drop a),.int .i64 a,.raw (.slice none 0 0)]:List AVal))]) ⟨rfl,rfl,rfl,congrArg (λz=>some (AVal.int .i64 z)) a_,congrArg (λz=>some (AVal.int .i64 z)) a_,trivial⟩ (by rw[oS];exact V_ _ (V_ _ (V_ _ (Ug _))))) (an (py hm) (by rw[<-hm];exact ng))
    ·refine ao ?_;intros;refine C9 (i+1,a,L,b,cap) ⟨by dsimp only;omega,by dsimp only;omega,λ_=>by dsimp only;omega,g4,g5,λj h1 h2=> ?_,g7⟩ (by dsimp only;omega) (bL ⟨rfl,rfl,rfl,rfl,rfl,trivial⟩ (At _));by_cases e:j=i
     ·subst e;omega
     ·exact g6 j h1 a_
  ·have h1:=tA (L:=L) ha;refine ao ?_;intros;refine bh mixed hC hGL false (λ(_:Unit)=>[(0,.str t),(2,.own 0 (gB b2)),(3,.own 1 (gB b3))]) (λ_=>[.cells b2 (some 37) [.own 2 (cJ b cap L.length)],.cells b3 (some 27) [.int .i64 0,.int .i64 (-1)],.row (cJ b cap L.length) none 3 L.length (aW L)]) .p9 be xu ?_
   ·intro _;refine ao ?_;intros;rw[hD];refine HI rfl rfl rfl (At _) (.inr ⟨_,by rw[hE,h1];rfl,by rw[hL,h1]⟩)
end
section
def nP (t:List UInt8)(l:LineS):Prop:=l.a<=t.length/\l.t.length<=1500/\l.f.length<=t.length
theorem JV (t:List UInt8):∀(k a:Nat) (L:List LineS),t.length-a<=k->a<=t.length->(∀l∈L,l.a<=a/\l.t.length<=1500/\l.f.length<=a)->L.length<=a->(∀l∈(cw t a L).2,nP t l)/\(cw t a L).2.length<=t.length
 |k,a,L,hk,ha,hb,hn=>by
  by_cases h:a<t.length
  ·have stop:∀e:Err,cw t a L=(e,[])->(∀l∈(cw t a L).2,nP t l)/\(cw t a L).2.length<=t.length:=by
    intro e he;rw[he];exact⟨λl hl=>(by cases hl),Nat.zero_le _⟩
   rcases yw (t.drop a) with⟨hc,_⟩|⟨n,hn2,hc,_,_⟩
   ·exact stop _ (qR h hc)
   ·rw[k_] at hn2;cases hx:iB t (a+n) with
    |false=>exact stop _ (tB h hc hx)
    |true=>
     have h2:=oR (L:=L) h hc hx;have hlt:a+n+1<t.length:=by
      unfold iB at hx;rw[l_,l_,n_] at hx;exact hx.1.2
     have hpl:((t.drop a).take n).length=n:=by rw[i_,k_];omega
     have go:∀L',cw t a L=cw t (a+n+2) L'->(∀l∈L',l.a<=a+n+2/\l.t.length<=1500/\l.f.length<=a+n+2)->L'.length<=a+n+2->(∀l∈(cw t a L).2,nP t l)/\(cw t a L).2.length<=t.length:=by
      intro L' he h3 h4;rw[he];cases k with
      |zero=>omega
      |succ k=>exact JV t k (a+n+2) L' a_ a_ h3 h4
     cases hf:cU ((t.drop a).take n) with
     |true=>
      rcases List.eq_nil_or_concat L with rfl|⟨I,l,rfl⟩
      ·rw[gX hf] at h2;exact stop _ h2
      ·rw[List.concat_eq_append] at*
       by_cases hl:1500<l.t.length+(((t.drop a).take n).length-1)
       ·rw[gv hf hl] at h2;exact stop _ h2
       ·rw[ud hf hl] at h2;refine go _ h2 ?_ (by simp only[d_,j_,E_] at*;omega);intro x hx;rcases List.mem_append.1 hx with hx|hx
        ·have:=hb x (List.mem_append_left _ hx);omega
        ·have h5:=hb l (by simp);simp only[p_,t_,or_false] at hx;subst hx;simp only[d_,k_,j_,E_] at*
         omega
     |false=>
      by_cases hl:1500<((t.drop a).take n).length
      ·rw[gG hf hl] at h2;exact stop _ h2
      ·rw[jp hf hl] at h2;refine go _ h2 ?_ (by simp only[d_,j_,E_];omega);intro x hx;rcases List.mem_append.1 hx with hx|hx
       ·have:=hb x hx;omega
       ·simp only[p_,t_,or_false] at hx;subst hx;simp only[E_] at*
        omega
  ·rw[tA h];exact⟨λl hl=>by have:=hb l hl;exact⟨a_,this.2.1,a_⟩,by show L.length<=_;omega⟩
theorem xA (t:List UInt8):(∀l∈ci t,nP t l)/\(ci t).length<=t.length:=by
 unfold ci;split
 ·exact⟨λl hl=>(by cases hl),Nat.zero_le _⟩
 ·exact JV t _ 0 [] (Nat.le_refl _) (Nat.zero_le _) (λl hl=>(by cases hl)) (Nat.zero_le _)
def cK (l:LineS)(i:Int)(k:Nat):Int:=(l.a:Int)+i+3*((l.f.take k).filter λf=>decide (f<=i)).length
theorem Ep (l:LineS)(i:Int):cK l i 0=l.a+i:=by simp[cK]
theorem En {l:LineS}{i:Int}{k:Nat}(h:k<l.f.length)(hf:l.f.getD k 0<=i):cK l i (k+1)=cK l i k+3:=by
 unfold cK;rw[x_ h,List.filter_append,d_];rw[f_,y_ h] at hf;simp only[Z_] at hf;simp[hf];omega
theorem Eo {l:LineS}{i:Int}{k:Nat}(h:k<l.f.length)(hf:¬l.f.getD k 0<=i):cK l i (k+1)=cK l i k:=by
 unfold cK;rw[x_ h,List.filter_append,d_];rw[f_,y_ h] at hf;simp only[Z_] at hf;simp[hf]
theorem Ad (l:LineS)(i:Int)(k:Nat):l.a+i<=cK l i k/\cK l i k<=l.a+i+3*l.f.length:=by
 unfold cK;have h1:=List.length_filter_le (λf=>decide (f<=i)) (l.f.take k);have h2:(l.f.take k).length<=l.f.length:=by rw[i_];omega
 omega
attribute [local irreducible] bG au aa az aR ab ad
attribute [local irreducible] aW nZ kJ cU nT fb iB cK ci ca
theorem Ic {G:Glo}(t:List UInt8)(l:LineS)(i:Int)(h0:0<=i)(h1:i<=3000)(hl:t.length<=20100)(hb:nP t l):ak prog G 48 [uv l,.int .i64 i] (.int .i64 (cK l i l.f.length)):=by
 obtain⟨b1,b2,b3⟩:=hb;refine ax func48 call48 λC hC hGL=> ?_;refine aK ?_;intros;rw[<-Ep l i];refine lp hC hGL (λ(k:Nat)=>[(1,.int .i64 i),(5,.int .i64 (cK l i k)),(13,.list 1 l.f.length (eo l.f)),(14,.int .i64 l.f.length),(15,.int .i64 k)]) (λ_=>[]) (λk=>k<=l.f.length) (λk=>l.f.length-k) 0 ?_ ah rfl ?_
 ·exact Nat.zero_le _
 intro k hk;have hk:k<=l.f.length:=hk;have hp:=Ad l i k;by_cases hk2:k<l.f.length
 ·have e1:=En (l:=l) (i:=i) hk2;have e2:=Eo (l:=l) (i:=i) hk2;refine xw ?_;repeat' first|exact .n|apply Lc.mk
  all_goals intros
  ·refine cQ (k+1) (show k+1<=_ by omega) a_ ⟨rfl,congrArg (λz=>some (AVal.int .i64 z)) (e1 (by assumption)).symm,rfl,rfl,rfl,trivial⟩ rfl
  ·refine cQ (k+1) (show k+1<=_ by omega) a_ ⟨rfl,congrArg (λz=>some (AVal.int .i64 z)) (e2 a_).symm,rfl,rfl,rfl,trivial⟩ rfl
 ·refine aK ?_;intros;apply aj;rw[show k=l.f.length by omega]
theorem LC {G:Glo}(t:List UInt8)(l:LineS)(i:Int)(h0:0<=i)(h1:i<=3000)(hl:t.length<=20100)(hb:nP t l):ak prog G 33 [uv l,.int .i64 i] (.int .i64 (cK l i l.f.length)):=by
 obtain⟨b1,b2,b3⟩:=hb;refine ax func33 call33 λC hC hGL=> ?_;refine aK ?_;intros;rw[<-Ep l i];refine lp hC hGL (λ(k:Nat)=>[(1,.int .i64 i),(2,.rop [.str l.t,.int .i64 l.a,.list 1 l.f.length (eo l.f)] 0),(5,.int .i64 (cK l i k)),(13,.int .i64 l.f.length),(14,.int .i64 k)]) (λ_=>[]) (λk=>k<=l.f.length) (λk=>l.f.length-k) 0 ?_ ah rfl ?_
 ·exact Nat.zero_le _
 intro k hk;have hk:k<=l.f.length:=hk;have hp:=Ad l i k;by_cases hk2:k<l.f.length
 ·have e1:=En (l:=l) (i:=i) hk2;have e2:=Eo (l:=l) (i:=i) hk2;refine xw ?_;repeat' first|exact .n|apply Lc.mk
  all_goals intros
  ·refine cQ (k+1) (show k+1<=_ by omega) a_ ⟨rfl,rfl,congrArg (λz=>some (AVal.int .i64 z)) (e1 (by assumption)).symm,rfl,rfl,trivial⟩ rfl
  ·refine cQ (k+1) (show k+1<=_ by omega) a_ ⟨rfl,rfl,congrArg (λz=>some (AVal.int .i64 z)) (e2 a_).symm,rfl,rfl,trivial⟩ rfl
 ·refine aK ?_;intros;apply aj;rw[show k=l.f.length by omega]
theorem BT {G:Glo}(t:List UInt8)(hl:t.length<=9223372036854775000):ak prog G 8 [.str t] (.tuple [.list 3 (ci t).length (cM (ci t)),.agg [.int .i64 (ca t).e,.int .i64 (ca t).p]]):=by
 refine dA (LE t hl) ?_;rintro r H (⟨rfl,h2,rfl⟩|⟨v,rfl,rfl⟩)
 ·rintro C R w e hm ⟨x,rfl,hx⟩;rw[h2];exact⟨R,hm,x,rfl,px (Seal.le_refl R) hx λv=>Am⟩
 ·rintro C R w e hm ⟨x,rfl,hx⟩;obtain⟨R',hle,m2,hr⟩:=MS.seal_row (f:=cM (ci t)) hm (Az _);exact⟨R',m2,x,rfl,px hle hx λv2 h=>by rw[(aG.1 h).1];exact hr⟩
end
section
def Err.in (n:Nat):Err->Prop
 |.at _ p=>0<=p/\p<=(n:Int)
 |_=>True
theorem KJ:∀(k:Nat) {s:List UInt8} {i:Nat},tW k s=some i->i<s.length
 |0,s,i,h=>by cases h
 |k+1,s,i,h=>by
  unfold tW at h;split at h
  ·cases h
  ·split at h
   ·cases h;omega
   ·cases hq:tW k (s.drop (aC s).2) with
    |none=>rw[hq] at h;cases h
    |some j=>
     have ih:=KJ k hq
     rw[hq] at h
     cases h
     rw[k_] at ih
     show j+(aC s).2<_
     omega
section
variable {c:Bool} {s:List UInt8} {e:Int} {p:Nat}
theorem vR {a:Nat}(ha:a<=s.length)(h:bC s a= .bad e p):p<=s.length:=by
 unfold bC at h;split at h
 ·cases h
 ·cases h;exact ha
theorem Rn {a:Nat}(ha:a<=s.length):lR s a<=s.length:=Bv ((rm s a).2.2 ha)
theorem Rm {a:Nat}(ha:a<=s.length)(h:cp c s a= .bad e p):p<=s.length:=by
 have h1:=Rn ha;unfold cp at h
 (repeat' split at h)<;>(cases h;try exact h1)
theorem UI {v:List UInt8}{a b:Nat}(h:cp c s a= .ok (v,b)):v.length<=s.length:=by
 have h1:∀i j:Nat,(M0 c ((s.take i).drop j)).length<=s.length:=λi j=>by
  have e1:((s.take i).drop j).length<=s.length:=by rw[k_,i_];omega
  unfold M0;split
  ·exact YX (sq _) e1
  ·exact e1
 unfold cp at h
 (repeat' split at h)<;>(cases h;try exact h1 _ _)
theorem Dl:∀(n:Nat) {a:Nat} {acc:List (List UInt8)},s.length-a<=n->a<=s.length->ea c s a acc= .bad e p->p<=s.length
 |n,a,acc,hn,ha,h=>by
  cases hv:cp c s a with
  |bad e' p'=>rw[gw hv] at h;cases h;exact Rm ha hv
  |ok x=>
   obtain⟨v,d⟩:=x;have h1:=iU hv;cases hb:ez s d 44 with
   |true=>
    have h2:=cG.1 hb;rw[mE hv hb] at h;cases n with
    |zero=>omega
    |succ n=>exact Dl n a_ a_ h
   |false=>rw[la hv hb] at h;cases h
theorem I1:∀(n:Nat) {a b:Nat} {acc vs:List (List UInt8)},s.length-a<=n->(∀v∈acc,v.length<=s.length)->ea c s a acc= .ok (vs,b)->∀v∈vs,v.length<=s.length
 |n,a,b,acc,vs,hn,h0,h=>by
  cases hv:cp c s a with
  |bad e' p'=>rw[gw hv] at h;cases h
  |ok x=>
   obtain⟨v,d⟩:=x;have h1:=iU hv;have h3:∀u∈acc++[v],u.length<=s.length:=λu hu=>by
    rcases List.mem_append.1 hu with hu|hu
    ·exact h0 u hu
    ·rw[List.mem_singleton.1 hu];exact UI hv
   cases hb:ez s d 44 with
   |true=>
    have h2:=cG.1 hb;rw[mE hv hb] at h;cases n with
    |zero=>omega
    |succ n=>exact I1 n a_ h3 h
   |false=>rw[la hv hb] at h;cases h;exact h3
theorem Ex:∀(n:Nat) {a:Nat} {acc:List Pr},s.length-a<=n->a<=s.length->cD c s a acc= .bad e p->p<=s.length
 |n,a,acc,hn,ha,h=>by
  cases hq:ez s a 59 with
  |false=>rw[iJ hq] at h;cases h
  |true=>
   have h1:=(cG.1 hq).1;cases hw:bC s (a+1) with
   |bad e' p'=>rw[gm hq hw] at h;cases h;exact vR h1 hw
   |ok x=>
    obtain⟨w,j⟩:=x;have h2:=de hw;have h4:=h2.2.1 h1;cases hj:ez s j 61 with
    |false=>rw[kb hq hw hj] at h;cases h;exact h4
    |true=>
     have h5:=(cG.1 hj).1;cases hv:ea c s (j+1) [] with
     |bad e' p'=>rw[eR hq hw hj hv] at h;cases h;exact Dl _ (Nat.le_refl _) h5 hv
     |ok x=>
      obtain⟨vs,d⟩:=x;have h3:=jY _ (Nat.le_refl _) hv;by_cases h20:acc.length=20
      ·rw[iI hq hw hj hv h20] at h;cases h;exact h1
      ·rw[ka hq hw hj hv h20] at h;cases n with
       |zero=>omega
       |succ n=>exact Ex n a_ (h3.2.1 h5) h
def Pr.in (n:Nat)(q:Pr):Prop:=q.n.length<=n/\q.vs.length<=n+1/\∀v∈q.vs,v.length<=n
theorem JE:∀(n:Nat) {a b:Nat} {acc ps:List Pr},s.length-a<=n->(∀q∈acc,q.in s.length)->cD c s a acc= .ok (ps,b)->∀q∈ps,q.in s.length
 |n,a,b,acc,ps,hn,h0,h=>by
  cases hq:ez s a 59 with
  |false=>rw[iJ hq] at h;cases h;exact h0
  |true=>
   have h1:=(cG.1 hq).1;cases hw:bC s (a+1) with
   |bad e' p'=>rw[gm hq hw] at h;cases h
   |ok x=>
    obtain⟨w,j⟩:=x;have h2:=de hw;have h4:=h2.2.1 h1;cases hj:ez s j 61 with
    |false=>rw[kb hq hw hj] at h;cases h
    |true=>
     have h5:=(cG.1 hj).1;cases hv:ea c s (j+1) [] with
     |bad e' p'=>rw[eR hq hw hj hv] at h;cases h
     |ok x=>
      obtain⟨vs,d⟩:=x;have h3:=jY _ (Nat.le_refl _) hv;by_cases h20:acc.length=20
      ·rw[iI hq hw hj hv h20] at h;cases h
      ·rw[ka hq hw hj hv h20] at h;cases n with
       |zero=>omega
       |succ n=>
        refine JE n a_ (λq hq=> ?_) h
        rcases List.mem_append.1 hq with hq|hq
        ·exact h0 q hq
        ·rw[List.mem_singleton.1 hq]
         have:=h3.2.1 h5
         have:=h3.2.2.2
         rw[E_] at this
         refine⟨?_,by show vs.length<=_;omega,I1 _ (Nat.le_refl _) (λv hv=>by cases hv) hv⟩
         show w.length<=_
         rw[h2.2.2.1,k_,i_]
         omega
theorem Pe (c:Bool)(s:List UInt8):(rk c s).in s.length:=by
 unfold rk;cases hl:dF c s with
 |ok l=>trivial
 |bad e p=>
  suffices h:p<=s.length from⟨Int.natCast_nonneg p,a_⟩
  unfold dF at hl;split at hl
  ·cases hh:fy s with
   |bad e' p'=>
    rw[hh] at hl;cases hl;unfold fy at hh;cases hw:bC s 0 with
    |bad e'' p''=>rw[hw] at hh;cases hh;exact vR (Nat.zero_le _) hw
    |ok x=>
     obtain⟨w,j⟩:=x;rw[hw] at hh;dsimp only at hh;split at hh
     ·rename_i hj;cases hv:bC s (j+1) with
      |bad e'' p''=>rw[hv] at hh;cases hh;exact vR (cG.1 hj).1 hv
      |ok x=>rw[hv] at hh;cases hh
     ·cases hh
   |ok x=>
    obtain⟨⟨g,n⟩,a⟩:=x;have ha:a<=s.length:=by
     unfold fy at hh;cases hw:bC s 0 with
     |bad e'' p''=>rw[hw] at hh;cases hh
     |ok x=>
      obtain⟨w,j⟩:=x;have g1:=(de hw).2.1 (Nat.zero_le _);rw[hw] at hh;dsimp only at hh;split at hh
      ·rename_i hj;cases hv:bC s (j+1) with
       |bad e'' p''=>rw[hv] at hh;cases hh
       |ok x=>
        obtain⟨w2,j2⟩:=x;rw[hv] at hh;cases hh;exact(de hv).2.1 (cG.1 hj).1
      ·cases hh;exact g1
    rw[hh] at hl;dsimp only at hl;cases hp:cD c s a [] with
    |bad e' p'=>rw[hp] at hl;cases hl;exact Ex _ (Nat.le_refl _) ha hp
    |ok x=>
     obtain⟨ps,b⟩:=x;have hb:=(xh _ (Nat.le_refl _) hp).2 ha;rw[hp] at hl;dsimp only at hl;unfold iX at hl;split at hl
     ·rename_i hq;have hq:=(cG.1 hq).1;split at hl
      ·cases hl
      ·cases hl;rcases gq (iw false) (s.drop (b+1)) with⟨g1,_⟩|⟨m,g1,g2,_⟩
       ·omega
       ·rw[k_] at g1;omega
     ·cases hl;exact hb
  ·rename_i hb;cases hl;unfold dm at hb ⊢;cases hq:kH s with
   |none=>rw[hq] at hb;exact absurd b_ hb
   |some i=>
    have:=KJ _ hq;show(i:Int).toNat<=_;omega
theorem HE (c:Bool)(s:List UInt8):(iQ c s).n.length<=s.length/\(iQ c s).v.length<=s.length/\∀q∈(iQ c s).ps,q.in s.length:=by
 unfold iQ;cases hl:dF c s with
 |bad e p=>exact⟨Nat.zero_le _,Nat.zero_le _,λq hq=>by cases hq⟩
 |ok l=>
  unfold dF at hl;split at hl
  ·cases hh:fy s with
   |bad e p=>rw[hh] at hl;cases hl
   |ok x=>
    obtain⟨⟨g,n⟩,a⟩:=x;have hn:n.length<=s.length:=by
     unfold fy at hh;cases hw:bC s 0 with
     |bad e'' p''=>rw[hw] at hh;cases hh
     |ok x=>
      obtain⟨w,j⟩:=x;have g1:=(de hw).2.2.1;rw[hw] at hh;dsimp only at hh;split at hh
      ·cases hv:bC s (j+1) with
       |bad e'' p''=>rw[hv] at hh;cases hh
       |ok x=>
        obtain⟨w2,j2⟩:=x;have g2:=(de hv).2.2.1;rw[hv] at hh;cases hh;rw[g2,k_,i_];omega
      ·cases hh;rw[g1,k_,i_];omega
    rw[hh] at hl;dsimp only at hl;cases hp:cD c s a [] with
    |bad e p=>rw[hp] at hl;cases hl
    |ok x=>
     obtain⟨ps,b⟩:=x;rw[hp] at hl;dsimp only at hl;have hb:=JE _ (Nat.le_refl _) (λq hq=>by cases hq) hp;unfold iX at hl
     (repeat' split at hl)<;>first|(cases hl;exact⟨hn,by show(s.drop _).length<=_;rw[k_];omega,hb⟩)|cases hl
  ·cases hl
end
theorem Cz:∀(s:List UInt8) (i:Nat),(a7 s i).in (i+s.length)
 |[],_=>trivial
 |[c],i=>by
  unfold a7;split
  ·exact⟨Int.natCast_nonneg _,Int.le_refl _⟩
  ·trivial
 |c::d::r,i=>by
  have h1:=Cz r (i+2);have h2:=Cz (d::r) (i+1);rw[show i+(c::d::r).length=i+2+r.length by simp only[j_];omega];rw[show i+1+(d::r).length=i+2+r.length by simp only[j_];omega] at h2;unfold a7;split
  ·split
   ·exact h1
   ·exact⟨Int.natCast_nonneg _,a_⟩
  ·exact h2
theorem Rq (s:List UInt8):(gx s).in s.length:=by
 unfold gx;split
 ·trivial
 ·split
  ·rename_i h;rcases gq ft s with⟨g1,_⟩|⟨m,g1,g2,_⟩
   ·omega
   ·exact⟨h,a_⟩
  ·split
   ·exact⟨Int.natCast_nonneg _,Int.le_refl _⟩
   ·trivial
def GS:List (List UInt8)->Nat
 |[]=>0
 |x::l=>x.length+1+GS l
theorem Dz (c:UInt8):∀s:List UInt8,GS (bS c s)=s.length+1
 |[]=>rfl
 |x::t=>by
  have ih:=Dz c t;unfold bS;split
  ·simp only[GS,ih,E_,j_];omega
  ·cases hq:bS c t with
   |nil=>exact absurd hq (pA c t)
   |cons p ps=>
    rw[hq] at ih;simp only[GS,j_] at ih ⊢
    omega
theorem LK (f:Bool)(a:Nat)(x:List UInt8):(eC f a x).in (a+x.length):=by
 unfold eC;split
 ·rename_i h;rcases gq (λc=> !vo f c) x with⟨g1,_⟩|⟨m,g1,g2,_⟩
  ·omega
  ·exact⟨a_,a_⟩
 ·split
  ·exact⟨Int.natCast_nonneg _,a_⟩
  ·split
   ·exact⟨Int.natCast_nonneg _,a_⟩
   ·trivial
theorem Err.in_le {n m:Nat}(hn:n<=m):∀{x:Err},x.in n->x.in m
 |.none,_=>trivial
 |.errno _,_=>trivial
 |.at _ _,h=>⟨h.1,by have:=h.2;omega⟩
theorem E4:∀(l:List (List UInt8)) (f:Bool) (a:Nat),(fa f a l).in (a+GS l)
 |[],_,_=>trivial
 |x::l,f,a=>by
  unfold fa;split
  ·exact Err.in_le (by simp only[GS];omega) (E4 l false (a+x.length+1))
  ·exact Err.in_le (by simp only[GS];omega) (LK f a x)
theorem Nd (s:List UInt8)(k:Int):(nc s k).2.in (s.length+1):=by
 have h0:(nV s k).2.in (s.length+1):=by
  have h1:(a7 s 0).in (s.length+1):=Err.in_le a_ (Cz s 0);have h2:(gx s).in (s.length+1):=Err.in_le a_ (Rq s);have h3:(dG s).in (s.length+1):=by
   have:=E4 (bS 45 s) true 0;rw[Dz] at this;exact Err.in_le a_ this
  have h4:(gP s).in (s.length+1):=by
   unfold gP;split<;>trivial
  have h5:(Gp s).2.in (s.length+1):=by
   unfold Gp mq o5
   (repeat' split)<;>trivial
  unfold nV
  (repeat' split)<;>first|assumption|trivial
 unfold nc;split
 ·trivial
 ·split
  ·trivial
  ·split
   ·exact h0
   ·exact h0
def M3 (v:Int)(s:List UInt8):Int:=jv v (iQ (bU v 4) s).n (iQ (bU v 4) s).ps
def yA (v:Int)(s:List UInt8):Vl×Err:=nc (iQ (bU v 4) s).v (M3 v s)
def iR (v:Int)(l:LineS):Err:=
 if v=3\/v=4 then
  match rk (bU v 4) l.t with
  |.none=>match (yA v l.t).2 with
   |.none=>.none
   |x=>.at x.e (cK l ((l.t.length:Int)-(iQ (bU v 4) l.t).v.length+max 0 x.p) l.f.length)
  |x=>.at x.e (cK l x.p l.f.length)
 else .errno 1
def pg (v:Int)(l:LineS):Ln×Vl:=match iR v l with
 |.none=>(iQ (bU v 4) l.t,(yA v l.t).1)
 |_=>(Ln.no,Vl.no)
end
section
def Vd (s:List UInt8):Prop:=kH s=none
theorem Nh:Vd []:=rfl
theorem I0 {s:List UInt8}(h0:s.length≠0)(h:(aC s).2≠0):Vd s↔Vd (s.drop (aC s).2):=by
 unfold Vd kH;obtain⟨k,hk⟩:=Nat.exists_eq_succ_of_ne_zero h0;conv=>lhs;rw[hk]
 simp only[tW];rw[if_neg h0,if_neg h,A8 k (s.drop (aC s).2) (by rw[k_];omega)];cases tW (s.drop (aC s).2).length (s.drop (aC s).2)<;>simp
theorem Xg {s:List UInt8}(h0:s.length≠0)(h:Vd s):(aC s).2≠0:=by
 intro hn;unfold Vd kH at h;obtain⟨k,hk⟩:=Nat.exists_eq_succ_of_ne_zero h0;rw[hk] at h;simp only[tW] at h;rw[if_neg h0,if_pos hn] at h;cases h
theorem fR {a b:List UInt8}{k:Nat}(h:k<a.length):aa (a++b) k=aa a k:=by
 unfold aa;rw[f_,f_,H_ h]
theorem m5 {a b:List UInt8}{k:Nat}(h:bW a k=true):bW (a++b) k=true:=by
 unfold bW at h ⊢;rw[l_,n_] at h;rw[fR h.1,h.2,Bool.and_true,n_,d_];omega
theorem ip {a:List UInt8}{k:Nat}(h:bW a k=true):k<a.length/\128<=aa a k:=by
 unfold bW at h;rw[l_,n_] at h;have:=eq_of_beq h.2;exact⟨h.1,a_⟩
inductive MQ (s:List UInt8):Nat->Prop
 |one:s.length≠0->aa s 0<128->MQ s 1
 |two:s.length≠0->¬aa s 0<128->aa s 0/32=6->bW s 1=true->128<=A1 s->kY (A1 s)=true->MQ s 2
 |three:s.length≠0->¬aa s 0<128->aa s 0/16=14->bW s 1=true->bW s 2=true->2048<=A0 s->kY (A0 s)=true->MQ s 3
 |four:s.length≠0->¬aa s 0<128->aa s 0/8=30->bW s 1=true->bW s 2=true->bW s 3=true->65536<=AZ s->kY (AZ s)=true->MQ s 4
theorem XD {s:List UInt8}(h:(aC s).2≠0):MQ s (aC s).2:=by
 by_cases h0:s.length=0
 ·exact absurd (by unfold aC;rw[if_pos h0]) h
 by_cases h1:aa s 0<128
 ·have e:aC s=(aa s 0,1):=by unfold aC;rw[if_neg h0,if_pos h1]
  rw[e];exact .one h0 h1
 by_cases h2:aa s 0/32=6
 ·have e:aC s=if bW s 1&&decide (128<=A1 s)&&kY (A1 s) then(A1 s,2) else(0,0):=by unfold aC;rw[if_neg h0,if_neg h1,if_pos h2]
  rw[e] at h ⊢
  split at h
  ·rename_i hc
   rw[if_pos hc]
   simp only[l_,n_] at hc
   exact .two h0 h1 h2 hc.1.1 hc.1.2 hc.2
  ·exact absurd rfl h
 by_cases h3:aa s 0/16=14
 ·have e:aC s=if bW s 1&&bW s 2&&decide (2048<=A0 s)&&kY (A0 s) then(A0 s,3) else(0,0):=by unfold aC;rw[if_neg h0,if_neg h1,if_neg h2,if_pos h3]
  rw[e] at h ⊢
  split at h
  ·rename_i hc
   rw[if_pos hc]
   simp only[l_,n_] at hc
   exact .three h0 h1 h3 hc.1.1.1 hc.1.1.2 hc.1.2 hc.2
  ·exact absurd rfl h
 by_cases h4:aa s 0/8=30
 ·have e:aC s=if bW s 1&&bW s 2&&bW s 3&&decide (65536<=AZ s)&&kY (AZ s) then(AZ s,4) else(0,0):=by unfold aC;rw[if_neg h0,if_neg h1,if_neg h2,if_neg h3,if_pos h4]
  rw[e] at h ⊢
  split at h
  ·rename_i hc
   rw[if_pos hc]
   simp only[l_,n_] at hc
   exact .four h0 h1 h4 hc.1.1.1.1 hc.1.1.1.2 hc.1.1.2 hc.1.2 hc.2
  ·exact absurd rfl h
 ·exact absurd (by unfold aC;rw[if_neg h0,if_neg h1,if_neg h2,if_neg h3,if_neg h4]) h
theorem XC {s:List UInt8}{n:Nat}(h:MQ s n):(aC s).2=n:=by
 cases h with
 |one h0 h1=>unfold aC;rw[if_neg h0,if_pos h1]
 |two h0 h1 h2 c1 p m=>unfold aC;rw[if_neg h0,if_neg h1,if_pos h2,if_pos (by simp[c1,p,m])]
 |three h0 h1 h3 c1 c2 p m=>
  unfold aC;rw[if_neg h0,if_neg h1,if_neg a_,if_pos h3,if_pos (by simp[c1,c2,p,m])]
 |four h0 h1 h4 c1 c2 c3 p m=>
  unfold aC;rw[if_neg h0,if_neg h1,if_neg a_,if_neg a_,if_pos h4,if_pos (by simp[c1,c2,c3,p,m])]
theorem Vv {a b:List UInt8}{n:Nat}(h:MQ a n):MQ (a++b) n:=by
 have hl:a.length≠0->(a++b).length≠0:=λh=>by rw[d_];omega
 cases h with
 |one h0 h1=>exact .one (hl h0) (by rwa [fR a_])
 |two h0 h1 h2 c1 p m=>
  have e0:=fR (b:=b) (show 0<a.length by omega)
  have e1:=fR (b:=b) (ip c1).1
  have e:A1 (a++b)=A1 a:=by unfold A1;rw[e0,e1]
  exact .two (hl h0) (by rwa [e0]) (by rwa [e0]) (m5 c1) (by rwa [e]) (by rwa [e])
 |three h0 h1 h2 c1 c2 p m=>
  have e0:=fR (b:=b) (show 0<a.length by omega)
  have e:A0 (a++b)=A0 a:=by unfold A0;rw[e0,fR (ip c1).1,fR (ip c2).1]
  exact .three (hl h0) (by rwa [e0]) (by rwa [e0]) (m5 c1) (m5 c2) (by rwa [e]) (by rwa [e])
 |four h0 h1 h2 c1 c2 c3 p m=>
  have e0:=fR (b:=b) (show 0<a.length by omega)
  have e:AZ (a++b)=AZ a:=by unfold AZ;rw[e0,fR (ip c1).1,fR (ip c2).1,fR (ip c3).1]
  exact .four (hl h0) (by rwa [e0]) (by rwa [e0]) (m5 c1) (m5 c2) (m5 c3) (by rwa [e]) (by rwa [e])
theorem JJ {a:List UInt8}{n:Nat}(h:MQ a n):0<n/\n<=a.length/\(n=1->aa a 0<128)/\(n≠1->∀k,k<n->128<=aa a k):=by
 cases h with
 |one h0 h1=>exact⟨a_,a_,λ_=>h1,λh=>absurd rfl h⟩
 |two h0 h1 h2 c1 p m=>
  have:=ip c1;exact⟨a_,a_,λh=>by omega,λ_ k hk=>by match k,hk with|0,_=>omega|1,_=>exact this.2⟩
 |three h0 h1 h2 c1 c2 p m=>
  have:=ip c1;have:=ip c2;exact⟨a_,a_,λh=>by omega,λ_ k hk=>by match k,hk with|0,_=>omega|1,_=>omega|2,_=>omega⟩
 |four h0 h1 h2 c1 c2 c3 p m=>
  have:=ip c1;have:=ip c2;have:=ip c3;exact⟨a_,a_,λh=>by omega,λ_ k hk=>by match k,hk with|0,_=>omega|1,_=>omega|2,_=>omega|3,_=>omega⟩
theorem Sn {a:List UInt8}{n:Nat}(h:MQ a n):MQ (a.take n) n:=by
 have hle:=JJ h;have hl:(a.take n).length=n:=by rw[i_];omega
 have hb:∀k,k<n->aa (a.take n) k=aa a k:=λk hk=>by
  conv=>rhs;rw[<-List.take_append_drop n a]
  rw[fR a_]
 have hc:∀k,k<n->bW a k=true->bW (a.take n) k=true:=λk hk h=>by
  unfold bW at h ⊢;rw[l_] at h;rw[hb k hk,h.2,hl,Bool.and_true,n_];exact hk
 cases h with
 |one h0 h1=>exact .one a_ (by rwa [hb 0 a_])
 |two h0 h1 h2 c1 p m=>
  have e:A1 (a.take 2)=A1 a:=by unfold A1;rw[hb 0 a_,hb 1 a_]
  exact .two a_ (by rwa [hb 0 a_]) (by rwa [hb 0 a_]) (hc 1 a_ c1) (by rwa [e]) (by rwa [e])
 |three h0 h1 h2 c1 c2 p m=>
  have e:A0 (a.take 3)=A0 a:=by unfold A0;rw[hb 0 a_,hb 1 a_,hb 2 a_]
  exact .three a_ (by rwa [hb 0 a_]) (by rwa [hb 0 a_]) (hc 1 a_ c1) (hc 2 a_ c2) (by rwa [e]) (by rwa [e])
 |four h0 h1 h2 c1 c2 c3 p m=>
  have e:AZ (a.take 4)=AZ a:=by unfold AZ;rw[hb 0 a_,hb 1 a_,hb 2 a_,hb 3 a_]
  exact .four a_ (by rwa [hb 0 a_]) (by rwa [hb 0 a_]) (hc 1 a_ c1) (hc 2 a_ c2) (hc 3 a_ c3) (by rwa [e]) (by rwa [e])
theorem Ni {p:List UInt8->Prop}(h0:p [])(h1:∀a b:List UInt8,MQ a a.length->Vd b->p b->p (a++b)):∀s,Vd s->p s:=by
 intro s;induction hn:s.length using Nat.strongRecOn generalizing s with
 |_ n ih=>
  intro hv;by_cases hz:s.length=0
  ·rw[List.length_eq_zero_iff.1 hz];exact h0
  have hne:=Xg hz hv;have hx:=XD hne;have hle:=JJ hx;have hd:=(I0 hz hne).1 hv;have:=h1 (s.take (aC s).2) (s.drop (aC s).2) (by rw[i_,Nat.min_eq_left hle.2.1];exact Sn hx) hd (ih _ (by rw[k_];omega) _ rfl hd);rwa [List.take_append_drop] at this
theorem Bj {a b:List UInt8}(h:MQ a a.length)(hb:Vd b):Vd (a++b):=by
 have hx:=XC (Vv (b:=b) h);have hle:=JJ h;refine(I0 (by rw[d_];omega) a_).2 ?_;rw[hx,List.drop_left];exact hb
theorem Nj {a b:List UInt8}(ha:Vd a)(hb:Vd b):Vd (a++b):=by
 refine Ni (p:=λa=>Vd (a++b)) hb (λx y hx _ ih=> ?_) a ha;rw[An];exact Bj hx ih
theorem vU:∀{s:List UInt8},(∀c∈s,c.toNat<128)->Vd s
 |[],_=>Nh
 |c::t,h=>Bj (a:=[c]) (.one (by simp) (h c (z_ ..))) (vU λx hx=>h x (List.mem_cons_of_mem _ hx))
theorem Im {c:UInt8}(h:c.toNat<128):∀x∈escF c,x.toNat<128:=by
 unfold escF;intro x hx;split at hx
 ·simp only[p_,t_,or_false] at hx;rcases hx with rfl|rfl<;>decide
 split at hx
 ·simp only[p_,t_,or_false] at hx;rcases hx with rfl|rfl<;>decide
 split at hx
 ·simp only[p_,t_,or_false] at hx;rcases hx with rfl|rfl<;>decide
 split at hx
 ·simp only[p_,t_,or_false] at hx;rcases hx with rfl|rfl<;>decide
 ·simp only[p_,t_,or_false] at hx;rw[hx];exact h
theorem S2 {c:UInt8}(h:128<=c.toNat):escF c=[c]:=by
 unfold escF;rw[if_neg (λe=>by rw[e] at h;exact absurd h b_),if_neg (λe=>by rw[e] at h;exact absurd h b_),if_neg (λe=>by rw[e] at h;exact absurd h b_),if_neg (λe=>by rw[e] at h;exact absurd h b_)]
theorem Km:∀{s:List UInt8},(∀c∈s,128<=c.toNat)->escS s=s
 |[],_=>rfl
 |c::t,h=>by
  have ih:=Km (s:=t) λx hx=>h x (List.mem_cons_of_mem _ hx);unfold escS at ih ⊢;rw[O_,ih,S2 (h c (z_ ..))];rfl
theorem UG {s:List UInt8}(h:Vd s):Vd (escS s):=by
 refine Ni (p:=λs=>Vd (escS s)) Nh (λa b ha _ ih=> ?_) s h;have e:escS (a++b)=escS a++escS b:=by unfold escS;exact List.flatMap_append
 rw[e];have hle:=JJ ha;have hmem:∀c∈a,∃k,k<a.length/\c.toNat=aa a k:=λc hc=>by
  obtain⟨i,hi,rfl⟩:=D_ hc;exact⟨i,hi,by unfold aa;rw[f_,y_ hi];rfl⟩
 by_cases h1:a.length=1
 ·refine Nj (vU λx hx=> ?_) ih;unfold escS at hx;obtain⟨c,hc,hx⟩:=List.mem_flatMap.1 hx;obtain⟨k,hk,e⟩:=hmem c hc;have:=hle.2.2.1 h1;rw[show k=0 by omega] at e;exact Im a_ x hx
 ·rw[Km λc hc=>by
   obtain⟨k,hk,e⟩:=hmem c hc;rw[e];exact hle.2.2.2 h1 k hk]
  exact Bj ha ih
theorem pZ {b:Bool}{s:List UInt8}:fd b s=true↔Vd s/\∀c∈s,iw b (c.toNat:Int)=false:=by
 unfold fd;rw[n_];refine and_congr ?_ ?_
 ·unfold dm Vd;cases kH s with
  |none=>simp
  |some i=>simp
 ·rcases gq (iw b) s with⟨h1,h2⟩|⟨m,h1,h2,h3,_⟩
  ·refine⟨λ_ c hc=> ?_,λ_=>by omega⟩;obtain⟨i,hi,rfl⟩:=D_ hc;have:=h2 i hi;unfold aa at this;rwa [f_,y_ hi] at this
  ·refine⟨λh=>by omega,λh=> ?_⟩;have:=h s[m] (K_ h1);unfold aa at h3;rw[f_,y_ h1] at h3;rw[Z_,this] at h3;cases h3
theorem XO {b:Bool}{c:Nat}(h1:32<=c)(h2:c≠127):iw b (c:Int)=false:=by
 unfold iw;rw[YU];omega
def Gd (s:List UInt8):Prop:=∀c∈s,32<=c.toNat/\c.toNat<127
theorem ky:Gd []:=λc h=>by cases h
theorem dR {a b:List UInt8}(ha:Gd a)(hb:Gd b):Gd (a++b):=λc h=>(List.mem_append.1 h).elim (ha c) (hb c)
theorem sh {s:List UInt8}(h:Gd s):fd false s=true:=pZ.2 ⟨vU λc hc=>by have:=h c hc;omega,λc hc=>by have:=h c hc;exact XO a_ a_⟩
theorem Fr {vs:List Int}(h:∀v∈vs,32<=v/\v<127):Gd (cb vs):=λc hc=>by
 unfold cb at hc;obtain⟨v,hv,rfl⟩:=List.mem_map.1 hc;have:=h v hv;rw[UInt8.toNat_ofNat'];omega
theorem eX {n:Int}(h0:0<=n)(h1:n<=99):Gd (eB n):=by
 refine Fr λv hv=> ?_;simp only[p_,t_,or_false] at hv;rcases hv with rfl|rfl<;>omega
theorem Cp {n:Int}(h0:0<=n)(h1:n<=9999):Gd (kK n):=by
 refine Fr λv hv=> ?_;simp only[p_,t_,or_false] at hv;rcases hv with rfl|rfl|rfl|rfl<;>omega
theorem iz {s:List UInt8}(h:s.all (λc=>decide (32<=c.toNat/\c.toNat<127))=true):Gd s:=λc hc=>of_decide_eq_true (List.all_eq_true.1 h c hc)
theorem H9 (n:Int):Gd (ko n)/\(ko n).length<=10:=by
 unfold ko;cases hz:vK n with
 |false=>exact⟨ky,Nat.zero_le _⟩
 |true=>
  have hb:=vJ.1 hz
  rw[if_pos rfl]
  split
  ·exact⟨iz rfl,b_⟩
  split
  ·exact⟨dR (dR (iz rfl) (eX a_ a_)) (eX a_ a_),by simp[eB,cb]⟩
  ·exact⟨dR (dR (iz rfl) (eX a_ a_)) (eX a_ a_),by simp[eB,cb]⟩
theorem SV {a b c:Bool}{y m d:Int}(hy:a=true->0<=y/\y<=9999)(hm:b=true->0<=m/\m<=99)(hd:c=true->0<=d/\d<=99):Gd (qC a b c y m d)/\(qC a b c y m d).length<=20:=by
 cases a<;>cases b<;>cases c<;>simp only[qC]<;>refine⟨?_,by simp[kK,eB,cb]⟩
 ·exact ky
 ·exact dR (iz rfl) (eX (hd rfl).1 (hd rfl).2)
 ·exact dR (iz rfl) (eX (hm rfl).1 (hm rfl).2)
 ·exact dR (dR (iz rfl) (eX (hm rfl).1 (hm rfl).2)) (eX (hd rfl).1 (hd rfl).2)
 ·exact Cp (hy rfl).1 (hy rfl).2
 ·exact ky
 ·exact dR (dR (Cp (hy rfl).1 (hy rfl).2) (iz rfl)) (eX (hm rfl).1 (hm rfl).2)
 ·exact dR (dR (Cp (hy rfl).1 (hy rfl).2) (eX (hm rfl).1 (hm rfl).2)) (eX (hd rfl).1 (hd rfl).2)
theorem ST {a b c:Bool}{y m d:Int}(hy:a=true->0<=y/\y<=99)(hm:b=true->0<=m/\m<=99)(hd:c=true->0<=d/\d<=99):Gd (oq a b c y m d)/\(oq a b c y m d).length<=20:=by
 cases a<;>cases b<;>cases c<;>simp only[oq]<;>refine⟨?_,by simp[eB,cb]⟩
 ·exact ky
 ·exact dR (iz rfl) (eX (hd rfl).1 (hd rfl).2)
 ·exact dR (iz rfl) (eX (hm rfl).1 (hm rfl).2)
 ·exact dR (dR (iz rfl) (eX (hm rfl).1 (hm rfl).2)) (eX (hd rfl).1 (hd rfl).2)
 ·exact dR (iz rfl) (eX (hy rfl).1 (hy rfl).2)
 ·exact ky
 ·exact dR (dR (iz rfl) (eX (hy rfl).1 (hy rfl).2)) (eX (hm rfl).1 (hm rfl).2)
 ·exact dR (dR (dR (iz rfl) (eX (hy rfl).1 (hy rfl).2)) (eX (hm rfl).1 (hm rfl).2)) (eX (hd rfl).1 (hd rfl).2)
theorem PL (t:Stm):Gd t.T/\t.T.length<=60:=by
 unfold Stm.T;split
 ·split
  ·rename_i _ h;unfold Stm.rng at h;simp only[l_,vS,oo] at h;obtain⟨h1,h2,h3,h4,h5,h6,_⟩:=h;have hday:t.day<=31:=by
    unfold Stm.day u5
    (repeat' split)<;>omega
   have d1:=SV (a:=a6 t.y) (b:=a6 t.m) (c:=a6 t.d) (y:=t.y) (m:=t.m) (d:=t.d) (λh=>by rw[oo] at h;omega) (λh=>by rw[oo] at h;omega) (λh=>by rw[oo] at h;omega);have d2:=ST (a:=a6 t.h) (b:=a6 t.i) (c:=a6 t.s) (y:=t.h) (m:=t.i) (d:=t.s) (λh=>by rw[oo] at h;omega) (λh=>by rw[oo] at h;omega) (λh=>by rw[oo] at h;omega);have d3:Gd (if t.z then ko t.o else[])/\(if t.z then ko t.o else[]).length<=10:=by
    split
    ·exact H9 _
    ·exact⟨ky,Nat.zero_le _⟩
   unfold Stm.txt;refine⟨dR (dR d1.1 d2.1) d3.1,?_⟩;rw[d_,d_];omega
  ·exact⟨ky,Nat.zero_le _⟩
 ·exact⟨ky,Nat.zero_le _⟩
theorem VR {s:List UInt8}(h:gx s= .none):Gd s:=by
 unfold gx at h;split at h
 ·cases h
 split at h
 ·cases h
 rename_i h2;rcases gq ft s with⟨_,g⟩|⟨m,g1,g2,_⟩
 ·intro c hc;obtain⟨i,hi,rfl⟩:=D_ hc;have:=xp.1 (g i hi);unfold aa at this;rw[f_,y_ hi,Z_] at this;omega
 ·omega
theorem b_none {x:Err}(h:x.b= .none):x= .none:=by
 cases x with
 |none=>rfl
 |errno e=>cases h
 | «at» e p=>cases h
theorem PM {f:Bool}{a:Nat}{x:List UInt8}(h:(eC f a x).isNone=true):Gd x:=by
 unfold eC at h;split at h
 ·cases h
 rename_i h2;rcases gq (λc=> !vo f c) x with⟨_,g⟩|⟨m,g1,g2,_⟩
 ·intro c hc;obtain⟨i,hi,rfl⟩:=D_ hc;have:=g i hi;simp only[Bool.not_eq_false',vo,l_] at this;have:=(tC).1 this.1;unfold aa at this;rw[f_,y_ hi,Z_] at this;omega
 ·omega
theorem Fq:∀{l:List (List UInt8)} {f:Bool} {a:Nat},fa f a l= .none->∀x∈l,Gd x
 |[],_,_,_,x,h=>by cases h
 |y::l,f,a,h,x,hx=>by
  simp only[fa] at h;split at h
  ·rename_i hp;rcases List.mem_cons.1 hx with rfl|hx
   ·exact PM hp
   ·exact Fq h x hx
  ·rename_i hp;rw[h] at hp;exact absurd rfl hp
theorem Co {c:UInt8}(h0:32<=c.toNat/\c.toNat<127):∀{s:List UInt8},(∀x∈bS c s,Gd x)->Gd s
 |[],_=>ky
 |y::t,h=>by
  have h2:Gd t/\(32<=y.toNat/\y.toNat<127):=by
   by_cases hy:y=c
   ·rw[bS,if_pos hy] at h;exact⟨Co h0 λx hx=>h x (List.mem_cons_of_mem _ hx),by rw[hy];exact h0⟩
   ·rw[bS,if_neg hy] at h;cases h1:bS c t with
    |nil=>
     rw[h1] at h;exact⟨Co h0 λx hx=>(by rw[h1] at hx;cases hx),h [y] (z_ ..) y (z_ ..)⟩
    |cons p r=>
     rw[h1] at h;have g:=h (y::p) (z_ ..);refine⟨Co h0 λx hx=> ?_,g y (z_ ..)⟩;rw[h1] at hx;rcases List.mem_cons.1 hx with rfl|hx
     ·exact λc hc=>g c (List.mem_cons_of_mem _ hc)
     ·exact h x (List.mem_cons_of_mem _ hx)
  exact λx hx=>by
   rcases List.mem_cons.1 hx with rfl|hx
   ·exact h2.2
   ·exact h2.1 x hx
theorem SU {s:List UInt8}(h:dG s= .none):Gd s:=Co (c:=45) b_ (Fq h)
theorem PC {s:List UInt8}(h:fd true s=true):fd false (escS s)=true:=by
 obtain⟨h1,h2⟩:=pZ.1 h
 refine pZ.2 ⟨UG h1,λc hc=> ?_⟩;unfold escS at hc;obtain⟨x,hx,hc⟩:=List.mem_flatMap.1 hc;have hx:=h2 x hx;unfold iw at hx ⊢;rw[YU] at hx ⊢;by_cases e0:x=10
 ·rw[e0] at hc;simp only[escF] at hc;have hc:c∈([92,110]:List UInt8):=hc;simp only[p_,t_,or_false] at hc;rcases hc with rfl|rfl<;>decide
 have e10:x.toNat≠10:=λh=>e0 (UInt8.toNat_inj.1 h);unfold escF at hc;split at hc
 ·simp only[p_,t_,or_false] at hc;rcases hc with rfl|rfl<;>decide
 split at hc
 ·simp only[p_,t_,or_false] at hc;rcases hc with rfl|rfl<;>decide
 split at hc
 ·simp only[p_,t_,or_false] at hc;rcases hc with rfl|rfl<;>decide
 ·simp only[p_,t_,or_false] at hc;rw[hc]
  omega
theorem H5 {a b:List UInt8}(ha:fd false a=true)(hb:fd false b=true):fd false (a++b)=true:=by
 obtain⟨h1,h2⟩:=pZ.1 ha;obtain⟨h3,h4⟩:=pZ.1 hb;exact pZ.2 ⟨Nj h1 h3,λc hc=>(List.mem_append.1 hc).elim (h2 c) (h4 c)⟩
theorem Ka {sep:List UInt8}(hs:fd false sep=true):∀{l:List (List UInt8)},(∀x∈l,fd false x=true)->fd false (Lib.joinTail sep l)=true
 |[],_=>sh ky
 |x::l,h=>by
  rw[show Lib.joinTail sep (x::l)=(sep++x)++Lib.joinTail sep l by simp[Lib.joinTail]];exact H5 (H5 hs (h x (z_ ..))) (Ka hs λy hy=>h y (List.mem_cons_of_mem _ hy))
theorem Kb {sep:List UInt8}(hs:fd false sep=true){l:List (List UInt8)}(h:∀x∈l,fd false x=true):fd false (Lib.join l sep)=true:=by
 cases l with
 |nil=>rw[Lib.join_nil];exact sh ky
 |cons x l=>rw[Lib.join_cons];exact H5 (h x (z_ ..)) (Ka hs λy hy=>h y (List.mem_cons_of_mem _ hy))
theorem PB {t:Int}{L:List (List (List UInt8))}(h:uT t L= .none):fd false (iq L)=true:=by
 unfold uT at h
 split at h
 ·cases h
 split at h
 ·cases h
 split at h
 ·rename_i h1 h2 h3
  unfold iq
  rw[if_neg h2]
  refine Kb (sh (iz rfl)) λx hx=> ?_
  obtain⟨l,hl,rfl⟩:=List.mem_map.1 hx
  unfold joinT
  refine Kb (sh (iz rfl)) λy hy=> ?_
  obtain⟨z,hz,rfl⟩:=List.mem_map.1 hy
  unfold PD at h3
  exact PC (List.all_eq_true.1 (List.all_eq_true.1 h3 l hl) z hz)
 ·cases h
theorem Vl.T_hd (v:Vl):fd false v.T=true:=by
 unfold Vl.T;split
 ·rename_i h;unfold Vl.E at h;split at h
  ·cases h
  split
  ·rename_i h1;rw[if_neg a_,if_neg a_,if_neg a_,if_neg a_,if_neg a_] at h;split at h
   ·rename_i g;rw[decide_eq_true h1] at g;exact PC g
   ·cases h
  split
  ·rename_i h1 h2;rw[if_pos h2] at h;exact PB h
  split
  ·exact sh (PL _).1
  split
  ·exact sh (H9 _).1
  ·rename_i h1 h2 h5 h6;rw[if_neg h2] at h;by_cases h4:v.t=4
   ·rw[if_pos h4] at h;exact sh (VR (b_none h))
   rw[if_neg h4,if_neg h5,if_neg h6] at h;by_cases h7:v.t=7
   ·rw[if_pos h7] at h;exact sh (SU (b_none h))
   rw[if_neg h7] at h;split at h
   ·rename_i g;rw[decide_eq_false h1] at g;exact g
   ·cases h
 ·exact sh ky
theorem Vl.T_len {v:Vl}(hs:v.s.length<=2000000)(hL:Small v.L):v.T.length<=140737488355328:=by
 unfold Vl.T;split
 ·split
  ·have:=(sl v.s).2;omega
  split
  ·unfold iq;split
   ·exact Nat.zero_le _
   ·refine xJ (M:=6000000) (λx hx=> ?_) (by rw[C_];exact hL.n) (Nat.le_refl _);obtain⟨l,hl,rfl⟩:=List.mem_map.1 hx;obtain⟨i,hi,rfl⟩:=D_ hl;have h1:=hL.k i;rw[f_,y_ hi,Z_] at h1;have:=pT v.L[i];omega
  split
  ·have:=(PL v.st).2;omega
  split
  ·have:=(H9 v.n).2;omega
  ·omega
 ·exact Nat.zero_le _
end
section
abbrev Itm:=Ln×Vl
def Itm.z:Itm:=(⟨[],[],[],[]⟩,⟨0,[],[],⟨0,0,0,0,0,0,false,0⟩,0⟩)
instance:Inhabited Itm:=⟨Itm.z⟩
abbrev df (x:Itm):List AVal:=[.str x.1.g,.str x.1.n,.list 2 x.1.ps.length (fU x.1.ps),.int .i64 x.2.t,.str x.2.s,.list 1 x.2.L.length (gM x.2.L),.int .i64 x.2.st.y,.int .i64 x.2.st.m,.int .i64 x.2.st.d,.int .i64 x.2.st.h,.int .i64 x.2.st.i,.int .i64 x.2.st.s,.bool x.2.st.z,.int .i64 x.2.st.o,.int .i64 x.2.n]
def J2 (x:Itm):AVal:=.agg (df x)
def eS (l:List Itm)(i:Nat):AVal:=J2 (l.getD i Itm.z)
structure Crd where
 v:Int
 l:List Itm
def Crd.A (c:Crd):AVal:=.agg [.int .i64 c.v,.list 15 c.l.length (eS c.l)]
def Itm.p (x:Itm):Ln:=⟨x.1.g,x.1.n,x.1.ps,[]⟩
structure Itm.OK (N:Nat) (x:Itm):Prop where
 p:x.p.OK N
 s:x.2.s.length<=N
 L:Small x.2.L
theorem Itm.OK.mono {N M:Nat}(hN:N<=M){x:Itm}(h:x.OK N):x.OK M:=⟨h.p.mono hN,YX h.s hN,h.L⟩
def Crd.fine (c:Crd):Prop:=c.l.length<=70/\∀x∈c.l,Itm.OK 2500 x
theorem tE {p:Itm->Prop}{l:List Itm}(h:∀x∈l,p x){k:Nat}(hk:k<l.length):p (l.getD k Itm.z):=by
 rw[f_,y_ hk];exact h _ (K_ hk)
end
section
attribute [local irreducible] bG au aa az aR ab ad
theorem DB {G:Glo}{m:Int}(hU:ab G (bP m))(s:List UInt8)(c:UInt8)(hl:s.length<100000):ak prog G 109 [.str s,.str [c]] (.tuple [.str (Lib.cut s [c]).1,.str (Lib.cut s [c]).2.1,.bool (Lib.cut s [c]).2.2]):=by
 refine ik (.tuple #[.string ⟨(Lib.cut s [c]).1.toArray⟩,.string ⟨(Lib.cut s [c]).2.1.toArray⟩,.bool (Lib.cut s [c]).2.2]) (λR=>Oh (aD.2 rfl) (aD.2 rfl) (aO.2 rfl)) call109 ?_;rintro R args ⟨x,t,e,hx,y,t',e',hy,rfl⟩ w hG hs;obtain rfl:=aD.1 hx;obtain rfl:=aD.1 hy;subst e';obtain rfl:=fK e;refine(strings_Cut ⟨s.toArray⟩ ⟨#[c]⟩ m w (by rw[bH];omega) (oO hU hG hs)).mono ?_;rintro e w' ⟨rfl,k,rfl⟩;exact⟨by simp,⟨rfl,rfl,rfl,Nat.le_refl _,λ_ _=>rfl⟩⟩
theorem strconv_Itoa {G:Glo}(hP:fC G)(n:Nat)(hn:n≤9223372036854775807):ak prog G 187 [.int .i64 (n:Int)] (.str (Lib.decDigits n)):=by
 refine bK rfl call187 ?_
 rintro R args ⟨x,t,e,hx,rfl⟩ w hG hs
 obtain rfl:=aq.1 hx
 obtain rfl:=fK e
 have ht:Lib.TabIs prog w "internal/strconv.uint64pow10" .u64 Lib.pow10Tab:=by
  obtain⟨e,fz,hR⟩:=hP R hG
  have hg:prog.globalNamed "internal/strconv.uint64pow10" =some 10:=by kernel_rfl
  show w.var? prog "internal/strconv.uint64pow10" =_
  simp only[World.var?,hg,Option.bind_some,hs _ _ hR]
 refine(Tryz.strconv_Itoa n a_ a_ w ht).mono ?_
 rintro e w' ⟨rfl,k,os,rfl⟩
 refine⟨?_,⟨rfl,rfl,rfl,?_,fun b hb=> ?_⟩⟩
 ·have:Lib.itoa (n:Int)=Lib.decDigits n:=by unfold Lib.itoa;rw[if_neg a_];rfl
  rw[this]
  rfl
 ·show w.heap.size≤(w.heap++os).size
  rw[Array.size_append];omega
 ·show(w.heap++os)[b]? =w.heap[b]?
  rw[Array.getElem?_append_left hb]
end
section
def gV (m:Nat)(s:List UInt8):Bool:=(List.range m).any λi=>decide (Lib.decDigits (i+1)=s)
theorem Iy {m:Nat}{s:List UInt8}:gV m s=true↔∃n,1<=n/\n<=m/\Lib.decDigits n=s:=by
 unfold gV;rw[List.any_eq_true];constructor
 ·rintro⟨i,hi,h⟩;exact⟨i+1,a_,by have:=List.mem_range.1 hi;omega,of_decide_eq_true h⟩
 ·rintro⟨n,h1,h2,h3⟩;exact⟨n-1,List.mem_range.2 a_,decide_eq_true (by rw[show n-1+1=n by omega];exact h3)⟩
theorem yz {m:Nat}{s:List UInt8}:gV m s=false↔∀n,1<=n->n<=m->Lib.decDigits n≠s:=by
 rw[<-W_,Iy];exact⟨λh n h1 h2 h3=>h ⟨n,h1,h2,h3⟩,λh ⟨n,h1,h2,h3⟩=>h n h1 h2 h3⟩
def oI (v:List UInt8):Bool:=gV 999 (Lib.cut v [46]).1&&(!(Lib.cut v [46]).2.2||gV 999 (Lib.cut v [46]).2.1)
def u4 (n:List UInt8)(vs:List (List UInt8)):Bool:=
 if n=[86,65,76,85,69]\/n=[65,76,84,73,68]\/n=[77,69,68,73,65,84,89,80,69]\/n=[69,78,67,79,68,73,78,71] then decide (vs.length=1)
 else if n=[76,65,78,71,85,65,71,69] then decide (vs.length=1)&&(dG (vs.getD 0 [])).isNone
 else if n=[80,82,69,70] then decide (vs.length=1)&&gV 100 (vs.getD 0 [])
 else if n=[84,89,80,69] then vs.all isS&&decide (0<vs.length)
 else if n=[80,73,68] then vs.all oI&&decide (0<vs.length)
 else decide (0<vs.length)
def Pr.fit (q:Pr):Bool:=u4 (am 97 122 (-32) q.n) q.vs
def Yh (s:List UInt8)(a:AVal):Prop:=(∃n,a= .tuple [.int .i64 n,.raw .nilIface]/\Lib.atoiAll s= .ok n)\/(∃n t v,a= .tuple [.int .i64 n,.iface t (.raw v)]/\∀k,Lib.atoiAll s≠ .ok k)
def Be (g:Nat)(R:Seal):Prop:=∃t v e fz,R g=some (.cells #[.iface t v] e fz)
def pq (G:Glo):Prop:=∀R,G.p R->Be 8 R/\Be 9 R
theorem Cv {P:Program}{G:Glo}{f:FuncId}{avs:List AVal}{Qf:AVal->Prop}(hc:∀args w,(callFunc f args).run P w= .ok (.enter f args) w)
  (h:∀R args,dO R avs args.toList->∀w,G.p R->eZ R w->Calls P f args w λe w'=>(∃u a,e= .returned u/\Qf a/\∀R,bx R a u)/\Below w.heap.size w w'):ad P G f avs [] (λr H=>(∃v,r= .ret v/\Qf v)/\H=[]):=by
 intro R w args hG hm ha;refine .inl ⟨hc args w,(h R args ha w hG hm.sealed).mono ?_⟩;rintro e w' ⟨⟨u,a,rfl,hq,hr⟩,hb⟩;refine⟨.ret a,[],R,⟨⟨a,rfl,hq⟩,rfl⟩,⟨_,rfl,hr R⟩,?_⟩;refine⟨?_,Seal.le_refl R,λ_ hb=>.inl hb,⟨λ_ h=>absurd h t_,List.nodup_nil,λ_ h=>absurd h t_⟩,λ_ h=>absurd h t_,
  ⟨hb.os,hb.tape,hb.output,hb.size,λb hlt _=>hb.block b hlt⟩⟩
 intro b o ho;have h1:=hm.sealed b o ho;have hlt:b<w.heap.size:=(Array.getElem?_eq_some_iff.1 h1).1;rw[hb.block b hlt,h1]
theorem FF {g:Nat}{R:Seal}{w:World}(h:Be g R)(hs:eZ R w):∃t v,w.cell? ⟨g,0,none⟩=some (.iface t v):=by
 obtain⟨t,v,e,fz,h⟩:=h;refine⟨t,v,?_⟩;unfold World.cell?;simp[hs _ _ h]
theorem Bm {G:Glo}(hE:pq G)(s:List UInt8)(hl:s.length<=1000000):ad prog G 117 [.str s] [] (λr H=>(∃v,r= .ret v/\Yh s v)/\H=[]):=by
 refine Cv call117 ?_;intro R args hr w hG hs;obtain⟨x,t,e',hx,rfl⟩:=hr;obtain rfl:=aD.1 hx;obtain rfl:=fK e';have hsz:(⟨s.toArray⟩:ByteArray).size<=1000000:=by rw[bH];exact hl
 obtain⟨⟨t1,v1,c1⟩,t2,v2,c2⟩:(∃t v,w.cell? ⟨8,0,none⟩=some (.iface t v))/\∃t v,w.cell? ⟨9,0,none⟩=some (.iface t v):=⟨FF (hE R hG).1 hs,FF (hE R hG).2 hs⟩;cases ha:Lib.atoiAll s
 ·rename_i n;refine(strconv_Atoi_ok ⟨s.toArray⟩ a_ n (by simpa using ha) w).mono ?_;rintro e w' ⟨rfl,hw⟩;refine⟨⟨_,_,rfl,.inl ⟨n,rfl,ha⟩,λR=>mO (aq.2 rfl) (ar.2 rfl)⟩,?_⟩;rcases hw with rfl|⟨t,rfl⟩
  ·exact Below.refl _ _
  ·exact⟨rfl,rfl,rfl,by rw[Lib.bytesWorld_size];omega,λk hk=>Lib.bytesWorld_at_old _ _ _ _ hk⟩
 ·refine(strconv_Atoi_syntax ⟨s.toArray⟩ a_ (by simpa using ha) _ w c1 (.inr ⟨_,_,rfl⟩)).mono ?_;rintro e w' ⟨N,rfl,_,_,hb⟩;exact⟨⟨_,_,rfl,.inr ⟨0,_,_,rfl,λk h=>by rw[ha] at h;cases h⟩,λR=>mO (aq.2 rfl) ⟨⟨_,rfl,rfl,rfl⟩,rfl⟩⟩,hb⟩
 ·refine(strconv_Atoi_range ⟨s.toArray⟩ a_ (by simpa using ha) _ w c2 (.inr ⟨_,_,rfl⟩)).mono ?_;rintro e w' ⟨N,rfl,_,_,hb⟩;exact⟨⟨_,_,rfl,.inr ⟨_,_,_,rfl,λk h=>by rw[ha] at h;cases h⟩,λR=>mO (aq.2 rfl) ⟨⟨_,rfl,rfl,rfl⟩,rfl⟩⟩,hb⟩
theorem yI:∀k:Fin 1000,Lib.atoiAll (Lib.decDigits k.val)= .ok (k.val:Int):=by decide+kernel
attribute [local irreducible] bG au aa az aR ab ad
theorem nu {G:Glo}(hE:pq G)(hP:fC G)(s:List UInt8)(m:Nat)(hl:s.length<=1000000)(hm:m<=999):ak prog G 163 [.str s,.int .i64 (m:Int)] (.bool (gV m s)):=by
 have hA:=Bm hE s hl;have hI:=λn h=>strconv_Itoa (G:=G) hP n h;refine ax func163 call163 λC hC hGL=> ?_;refine aK ?_;intros;refine Wi hA ?_;rintro a (⟨n,rfl,h⟩|⟨n,t,v,rfl,h⟩)
 ·by_cases hn:1<=n/\n<=m
  ·obtain⟨k,rfl⟩:∃k:Nat,n=k:=⟨n.toNat,a_⟩;have hI:=hI k a_;have e:aY (Lib.decDigits k) s=gV m s:=by
    cases hc:gV m s with
    |true=>
     obtain⟨j,h1,h2,h3⟩:=Iy.1 hc;have:=yI ⟨j,a_⟩;rw[h3,h] at this;have e:(k:Int)=j:=by simpa using this
     rw[Int.ofNat.inj e,h3];exact bZ.2 rfl
    |false=>exact ku.2 (yz.1 hc k a_ a_)
   rw[<-e]
   exact bB
  ·have e:gV m s=false:=by
    refine yz.2 λj h1 h2 h3=>hn ?_
    have:=yI ⟨j,a_⟩
    rw[h3,h] at this
    have e:n=j:=by simpa using this
    omega
   rw[e]
   exact bB
 ·have e:gV m s=false:=by
   refine yz.2 λj h1 h2 h3=>h (j:Int) ?_
   have:=yI ⟨j,a_⟩
   rwa [h3] at this
  rw[e]
  exact bB
end
section
abbrev prA (q:Pr):AVal:=.agg [.str q.n,.list 1 q.vs.length (aB q.vs)]
abbrev OT:List UInt8:=[86,65,76,85,69]
abbrev OW:List UInt8:=[65,76,84,73,68]
abbrev OU:List UInt8:=[77,69,68,73,65,84,89,80,69]
abbrev OV:List UInt8:=[69,78,67,79,68,73,78,71]
abbrev zl:List UInt8:=[76,65,78,71,85,65,71,69]
abbrev nPRE:List UInt8:=[80,82,69,70]
abbrev nTYP:List UInt8:=[84,89,80,69]
abbrev zk:List UInt8:=[80,73,68]
inductive NmC (n:List UInt8):Prop
 |one (h:n=OT\/n=OW\/n=OU\/n=OV)
 |lan (h:n=zl)
 |pre (h:n=nPRE)
 |typ (h:n=nTYP)
 |pid (h:n=zk)
 |els (h1:n≠OT) (h2:n≠OW) (h3:n≠OU) (h4:n≠OV) (h5:n≠zl) (h6:n≠nPRE) (h7:n≠nTYP) (h8:n≠zk)
theorem Yy (n:List UInt8):NmC n:=by
 by_cases h:n=OT\/n=OW\/n=OU\/n=OV
 ·exact .one h
 simp only[not_or] at h;obtain⟨h1,h2,h3,h4⟩:=h;by_cases h5:n=zl
 ·exact .lan h5
 by_cases h6:n=nPRE
 ·exact .pre h6
 by_cases h7:n=nTYP
 ·exact .typ h7
 by_cases h8:n=zk
 ·exact .pid h8
 exact .els h1 h2 h3 h4 h5 h6 h7 h8
theorem yM {p:List UInt8->Bool}{l:List (List UInt8)}(h:∀k,k<l.length->p (l.getD k [])=true):l.all p=true:=by
 rw[Bw];intro x hx;obtain⟨i,hi,rfl⟩:=D_ hx;have:=h i hi;rwa [f_,y_ hi] at this
theorem vG {p:List UInt8->Bool}{l:List (List UInt8)}{k:Nat}(hk:k<l.length)(h:p (l.getD k [])=false):l.all p=false:=by
 rw[List.all_eq_false];refine⟨l[k],K_ hk,?_⟩;rw[f_,y_ hk] at h;simpa using h
theorem Qk (s:List UInt8)(c:UInt8):(Lib.cut s [c]).1.length<=s.length/\(Lib.cut s [c]).2.1.length<=s.length:=by
 unfold Lib.cut;split
 ·exact⟨List.length_take_le' ..,by dsimp only;rw[k_];omega⟩
 ·exact⟨Nat.le_refl _,Nat.zero_le _⟩
attribute [local irreducible] bG au aa az aR ab ad
attribute [local irreducible] gV dG isS oI Lib.cut
theorem Hb {G:Glo}{m:Int}(hE:pq G)(hP:fC G)(hM:ab G (bP m))(q:Pr)(h0:q.n.length<=2000000)(h1:q.vs.length<=1000000)(h2:∀k,(q.vs.getD k []).length<=90000):ak prog G 112 [prA q] (.bool q.fit):=by
 have hU:=jI (G:=G) q.n a_;unfold Pr.fit;obtain⟨nm,vs⟩:=q;dsimp only at h0 h1 h2 hU ⊢;generalize am 97 122 (-32) nm=n at*
 cases Yy n with
 |one h=>
  have e:u4 n vs=bU (vs.length:Int) 1:=by
   unfold u4;rw[if_pos h];unfold bU;exact decide_eq_decide.2 a_
  rw[e];rcases h with rfl|rfl|rfl|rfl
  all_goals
   refine ax func112 call112 λC hC hGL=> ?_;exact bB
 |lan h=>
  subst h;have hR:=qV (G:=G) (vs.getD 0 []) (by have:=h2 0;omega);have e:u4 zl vs=(decide (vs.length=1)&&(dG (vs.getD 0 [])).isNone):=rfl;rw[e];by_cases hv:vs.length=1
  ·rw[decide_eq_true hv];rcases hx:dG (vs.getD 0 []) with _|e|⟨e,p⟩
   all_goals
    rw[hx] at hR;refine ax func112 call112 λC hC hGL=> ?_;exact bB
  ·rw[decide_eq_false hv];refine ax func112 call112 λC hC hGL=> ?_;exact bB
 |pre h=>
  subst h;have hR:=nu hE hP (vs.getD 0 []) 100 (by have:=h2 0;omega) b_;have e:u4 nPRE vs=(decide (vs.length=1)&&gV 100 (vs.getD 0 [])):=rfl;rw[e];by_cases hv:vs.length=1
  ·rw[decide_eq_true hv];refine ax func112 call112 λC hC hGL=> ?_;exact bB
  ·rw[decide_eq_false hv];refine ax func112 call112 λC hC hGL=> ?_;exact bB
 |typ h=>
  subst h;have e:u4 nTYP vs=(vs.all isS&&nY 0 (vs.length:Int)):=by
   unfold nY;rw[show decide ((0:Int)<(vs.length:Int))=decide (0<vs.length) from decide_eq_decide.2 a_];rfl
  rw[e];refine ax func112 call112 λC hC hGL=> ?_;refine aK ?_;intros;refine lp hC hGL (λk:Nat=>[(1,.rop [.str nm,.list 1 vs.length (aB vs)] 0),(48,.list 1 vs.length (aB vs)),(49,.int .i64 (vs.length:Int)),(50,.int .i64 (k:Int))]) (λ_=>[]) (λk=>k<=vs.length/\∀j,j<k->isS (vs.getD j [])=true) (λk=>vs.length-k) 0 ⟨Nat.zero_le _,λj h=>absurd h (Uf _)⟩ ah rfl ?_;rintro k ⟨hk1,hk2⟩;by_cases hk:k<vs.length
  ·have hI:=pQ (G:=G) (vs.getD k []) (by have:=h2 k;omega);cases hs:isS (vs.getD k []) with
   |true=>
    rw[hs] at hI;refine aK ?_;intros;refine cQ (k+1) ⟨a_,λj hj=> ?_⟩ a_ ah rfl;rcases Nat.lt_or_eq_of_le (Nat.le_of_lt_succ hj) with h|rfl
    ·exact hk2 j h
    ·exact hs
   |false=>
    rw[hs] at hI;rw[vG hk hs];exact bB
  ·rw[yM λj hj=>hk2 j a_];exact bB
 |pid h=>
  subst h;have e:u4 zk vs=(vs.all oI&&nY 0 (vs.length:Int)):=by
   unfold nY;rw[show decide ((0:Int)<(vs.length:Int))=decide (0<vs.length) from decide_eq_decide.2 a_];rfl
  rw[e];refine ax func112 call112 λC hC hGL=> ?_;refine aK ?_;intros;refine lp hC hGL (λk:Nat=>[(1,.rop [.str nm,.list 1 vs.length (aB vs)] 0),(61,.list 1 vs.length (aB vs)),(62,.int .i64 (vs.length:Int)),(63,.int .i64 (k:Int))]) (λ_=>[]) (λk=>k<=vs.length/\∀j,j<k->oI (vs.getD j [])=true) (λk=>vs.length-k) 0 ⟨Nat.zero_le _,λj h=>absurd h (Uf _)⟩ ah rfl ?_;rintro k ⟨hk1,hk2⟩;by_cases hk:k<vs.length
  ·have hl:=h2 k;have hcut:=DB (G:=G) hM (vs.getD k []) 46 a_;have hcl:=Qk (vs.getD k []) 46;have hp:oI (vs.getD k [])=(gV 999 (Lib.cut (vs.getD k []) [46]).1&&(!(Lib.cut (vs.getD k []) [46]).2.2||gV 999 (Lib.cut (vs.getD k []) [46]).2.1)):=by unfold oI;rfl
   generalize Lib.cut (vs.getD k []) [46]=cu at*
   obtain⟨a,b,tw⟩:=cu;dsimp only at hcut hcl hp;have hA:=nu hE hP a 999 a_ b_;have hB:=nu hE hP b 999 a_ b_;have go:oI (vs.getD k [])=true->k+1<=vs.length/\∀j,j<k+1->oI (vs.getD j [])=true:=λhs=>⟨a_,λj hj=>by
    rcases Nat.lt_or_eq_of_le (Nat.le_of_lt_succ hj) with h|rfl
    ·exact hk2 j h
    ·exact hs⟩
   cases ha:gV 999 a with
   |false=>
    rw[ha] at hA hp;rw[vG hk hp];exact bB
   |true=>
    rw[ha] at hA hp;cases tw with
    |false=>
     refine aK ?_;intros;exact cQ (k+1) (go hp) a_ ah rfl
    |true=>
     cases hb:gV 999 b with
     |true=>
      rw[hb] at hB hp;refine aK ?_;intros;exact cQ (k+1) (go hp) a_ ah rfl
     |false=>
      rw[hb] at hB hp;rw[vG hk hp];exact bB
  ·rw[yM λj hj=>hk2 j a_];exact bB
 |els h3 h4 h5 h6 h7 h8 h9 h10=>
  have e:u4 n vs=nY 0 (vs.length:Int):=by
   unfold u4;rw[if_neg (by simp[*]),if_neg h7,if_neg h8,if_neg h9,if_neg h10];unfold nY;exact decide_eq_decide.2 a_
  rw[e];refine ax func112 call112 λC hC hGL=> ?_;exact bB
end
section
theorem Pq {c:Nat}(h:c<256):isS (cb [(c:Int)])=aU c:=by
 have hb:aa (cb [(c:Int)]) 0=c:=by
  unfold cb aa;simp;omega
 rw[w_,isS];have hl:(cb [(c:Int)]).length=1:=rfl;rw[hl];simp only[l_,ub,hl,n_];constructor
 ·intro h;have:=h.1 0 a_;rwa [hb] at this
 ·intro h;exact⟨λj hj=>by rw[show j=0 by omega,hb];exact h,a_,a_⟩
theorem HL {c:Int}(h:aU c=true)(hc:c≠45):(48<=c/\c<=57)↔c<=57:=by
 rw[tC] at h;omega
theorem qW {b:Bool}{a:Nat}{x:List UInt8}{xs:List (List UInt8)}:fa b a (x::xs)=if(eC b a x).isNone then fa false (a+x.length+1) xs else eC b a x:=by rw[fa]
theorem B4 {x:List UInt8}(h:(45:UInt8)∉x){j:Nat}(hj:j<x.length):aa x j≠45:=by
 intro e;rw[bn hj] at e;exact h (by rw[<-show x[j]=45 from UInt8.toNat_inj.1 (by rw[e];rfl)];exact K_ hj)
theorem w9 {first:Bool}{a:Nat}{x:List UInt8}{i:Nat}(hi:i<x.length)(hb:vo first (aa x i:Int)=false)(h0:∀j,j<i->vo first (aa x j:Int)=true):eC first a x= .at 3 ((a:Int)+i):=by
 have hf:fX (λc=> !vo first c) x=i:=mf hi (by rw[hb];rfl) (λj hj=>by rw[h0 j hj];rfl);unfold eC;rw[hf,if_pos a_]
theorem oH {first:Bool}{a:Nat}{x:List UInt8}(h0:∀j,j<x.length->vo first (aa x j:Int)=true):eC first a x=if x.length=0 then .at 7 a else if 8<x.length then .at 4 a else .none:=by
 have hf:fX (λc=> !vo first c) x= -1:=iM (λj hj=>by rw[h0 j hj];rfl);unfold eC;rw[hf,if_neg a_]
theorem pB (c:UInt8):∀s:List UInt8,(bS c s).length<=s.length+1/\∀p,p∈bS c s->p.length<=s.length
 |[]=>⟨Nat.le_refl _,λp h=>by simp[bS] at h;subst h;exact Nat.le_refl _⟩
 |x::t=>by
  obtain⟨h1,h2⟩:=pB c t;by_cases hx:x=c
  ·rw[bS,if_pos hx];refine⟨by simp only[j_];omega,λp hp=> ?_⟩;rcases List.mem_cons.1 hp with rfl|hp
   ·simp
   ·have:=h2 p hp;simp only[j_];omega
  ·rw[bS,if_neg hx];cases h3:bS c t with
   |nil=>exact absurd h3 (pA c t)
   |cons q qs=>
    rw[h3] at h1 h2;refine⟨by simp only[j_] at*;omega,λp hp=> ?_⟩;rcases List.mem_cons.1 hp with rfl|hp
    ·have:=h2 q (by simp);simp only[j_];omega
    ·have:=h2 p (by simp[hp]);simp only[j_];omega
attribute [local irreducible] bG au aa az aR ab ad
attribute [local irreducible] bS fa vo isS aU eC
theorem mr {G:Glo}{m:Int}(hM:ab G (bP m))(s:List UInt8)(hl:s.length<=10000):ak prog G 80 [.str s] (.agg [.int .i64 (dG s).e,.int .i64 (dG s).p]):=by
 have h1:=wi (G:=G) hM s 45 a_;have hgd:=fp (G:=G);have hmem:∀k,k<(bS 45 s).length->(45:UInt8)∉(bS 45 s).getD k []:=λk hk=>by
  rw[f_,y_ hk];exact rz (K_ hk)
 have hX:dG s=fa true 0 (bS 45 s):=rfl;have hlen:∀p,p∈bS 45 s->p.length<=10000:=λp hp=>YX ((pB 45 s).2 p hp) hl;have hPl:(bS 45 s).length<=10001:=by have:=(pB 45 s).1;omega
 generalize bS 45 s=P at*
 refine ax func80 call80 λC hC hGL=> ?_;refine aK ?_;intros;rename Nat=>bl0
 refine lp hC hGL (λ(x:Nat×Nat)=>[(2,.own 0 (.pointer (some ⟨bl0,0,none⟩))),(3,.int .i64 x.2),(9,.list 1 P.length (aB P)),(10,.int .i64 P.length),(11,.int .i64 x.1)]) (λ_=>[.cells bl0 (some 27) [.int .i64 0,.int .i64 0]]) (λx=>x.1<=P.length/\x.2<=4000*x.1/\dG s=fa (decide (x.1=0)) x.2 (P.drop x.1)) (λx=>P.length-x.1) (0,0) ?_ ah rfl ?_
 ·exact⟨Nat.zero_le _,Nat.zero_le _,hX⟩
 rintro⟨k,a⟩ ⟨g1,g2,g3⟩;dsimp only at g1 g2 g3 ⊢;by_cases hk:k<P.length
 ·have hx:∃x,P.getD k []=x/\P.drop k=x::P.drop (k+1)/\(45:UInt8)∉x/\x.length<=10000:=by
   refine⟨P.getD k [],rfl,?_,hmem k hk,?_⟩
   ·rw[A_ hk,f_,y_ hk];rfl
   ·rw[f_,y_ hk];exact hlen _ (K_ hk)
  obtain⟨x,hx,hd,hm,hxl⟩:=hx;have hxe:aB P k= .str x:=by unfold aB;rw[hx]
  rw[hd,qW] at g3;have hkl:k<=4000*k:=by omega
  repeat' (first|(conv=>whnf);first|refine .w ?_|refine .v ?_|refine eh ?_ ?_<;>(intro hb;try exact dd hb)|apply aT|apply bM|(apply cR<;>intro hb)|(apply cX;intro hbd)|(apply bD;exact hgd)|(apply aV (i:=0) rfl;exact hgd)|(apply cY;intro bl)|(apply dv;intro va vk vc hva)|(apply du;intro v)|(apply dw;intro bl cap hcap)|apply dI|(apply dq<;>intro hnx)|apply d8 mixed hC hGL be|(apply cq;assumption;exact hgd;exact rfl)|(show Rt _ _ _;exact cP)|fail)
  all_goals try conv=>whnf
  rw[hx] at*
  rw[hxe] at*
  refine lp hC hGL (λ(i:Nat)=>[(2,.own 0 (.pointer (some ⟨bl0,0,none⟩))),(3,.int .i64 a),(4,.int .i64 k),(5,.str x),(9,.list 1 P.length (aB P)),(10,.int .i64 P.length),(11,.int .i64 k),(17,.own 1 (.slice (some ⟨bl,0,none⟩) x.length cap)),(18,.int .i64 x.length),(19,.int .i64 i)]) (λ_=>[.cells bl0 (some 27) [.int .i64 0,.int .i64 0],.buf bl x cap]) (λi=>i<=x.length/\∀j,j<i->vo (decide (k=0)) (aa x j:Int)=true) (λi=>x.length-i) 0 ?_ ah rfl ?_
  ·exact⟨Nat.zero_le _,by intro j hj;omega⟩
  rintro i ⟨hi,hb0⟩;have hI:i<x.length->ak prog G 66 [.str (cb [(aa x i:Int)])] (.bool (aU (aa x i))):=λh=>by
   have:=th (G:=G) (cb [(aa x i:Int)]) (by show 1<=_;omega);rwa [Pq (bu _ _)] at this
  have hW:=fF (G:=G) (aa x i:Int) 48 57;refine xw ?_;repeat' first|exact .n|apply Lc.mk
  all_goals intros
  ·refine aZ hC hGL (gk [_] rfl (by intro v hv;simp only[p_,t_,or_false] at hv;omega) rfl rfl rfl rfl rfl rfl) rfl rfl ?_;repeat' (first|(conv=>whnf);first|refine .w ?_|refine .v ?_|refine eh ?_ ?_<;>(intro hb;try exact dd hb)|apply aT|apply bM|(apply cR<;>intro hb)|(apply cX;intro hbd)|(apply bD;first|exact hI a_|exact hW)|(apply aV (i:=0) rfl;first|exact hI a_|exact hW)|(apply cY;intro bl)|(apply dv;intro va vk vc hva)|(apply du;intro v)|(apply dw;intro bl cap hcap)|apply dI|(apply dq<;>intro hnx)|apply d8 mixed hC hGL be|(apply cq;assumption;(first|exact hI a_|exact hW);exact rfl)|(show Rt _ _ _;exact cP)|fail)
   all_goals try conv=>whnf
   ·apply aj;rw[l_,n_,n_] at hb;rw[g3,w9 a_ (JX.2 (.inr ⟨by simp;omega,a_⟩)) hb0];rfl
   ·rw[Vr,YU,YU] at hb;refine cQ (i+1) ?_ ?_ ah rfl
    ·refine⟨a_,dj hb0 (JW.2 ⟨by assumption,λ_=> ?_⟩)⟩;have:=(HL (c:=(aa x i:Int)) (by assumption) (by have:=B4 hm (j:=i) a_;omega));omega
    ·omega
   ·refine cQ (i+1) ?_ ?_ ah rfl
    ·exact⟨a_,dj hb0 (JW.2 ⟨by assumption,λh=>by simp at h;omega⟩)⟩
    ·omega
   ·apply aj;rw[g3,w9 a_ (JX.2 (.inl hb)) hb0];rfl
  ·apply aj;have hp:=oH (first:=decide (k=0)) (a:=a) (x:=x) (λj hj=>hb0 j a_);rw[if_pos a_] at hp;rw[g3,hp];rfl
  ·apply aj;have hp:=oH (first:=decide (k=0)) (a:=a) (x:=x) (λj hj=>hb0 j a_);rw[if_neg a_,if_pos a_] at hp;rw[g3,hp];rfl
  ·have hp:=oH (first:=decide (k=0)) (a:=a) (x:=x) (λj hj=>hb0 j a_);rw[if_neg a_,if_neg a_] at hp;rw[hp,if_pos (show Err.none.isNone=true from rfl)] at g3;refine ga (k+1,a+x.length+1) ⟨a_,by dsimp only;omega,?_⟩ (by dsimp only;omega) ⟨rfl,?_,rfl,rfl,rfl,trivial⟩ aF
   ·dsimp only
    rw[g3];simp
   ·exact congrArg (λz=>some (AVal.int .i64 z)) (by dsimp only;omega)
 ·refine aK ?_;intros;apply aj;rw[g3,List.drop_eq_nil_of_le a_,fa];rfl
end
end Go.Proofs.YtnbaflecdkgihaaGreatDoor
