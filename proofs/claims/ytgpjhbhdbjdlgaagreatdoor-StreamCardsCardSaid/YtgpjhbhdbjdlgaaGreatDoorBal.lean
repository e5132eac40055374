/- Parts of the proof of streamCards_card. -/
import Derived.Test.YtgpjhbhdbjdlgaaGreatDoorBak
set_option linter.unusedVariables false
set_option linter.unusedSimpArgs false
set_option linter.unusedSectionVars false
namespace Go.Proofs.YtgpjhbhdbjdlgaaGreatDoor
open Go Go.RowKit
open Tryz
set_option maxRecDepth 20000
set_option maxHeartbeats 4000000
section
theorem ly {R R':Seal}{a a' b:AVal}{x:Value}(hle:R.le R')(h:bn R (.tuple [a,b]) x)(ht:∀v,bn R a v->bn R' a' v):bn R' (.tuple [a',b]) x:=by
 obtain⟨⟨ws,e,u,t,e1,hu,u2,t2,e2,hu2,rfl⟩,h2⟩:=h;have k:=ht u ⟨hu.1,hu.2⟩;have k2:=fx hle (show bn R b u2 from⟨hu2.1,hu2.2⟩);exact⟨⟨ws,e,_,_,e1,⟨k.1,k.2⟩,_,_,e2,⟨k2.1,k2.2⟩,rfl⟩,h2⟩
theorem TC {C:Ctx}{R:Seal}{w:World}{L:List LineS}{v u:Value}(hm:MS C R [.row v none 3 L.length (oq L 1 u),.row u none 1 (kZ L).length (gU (kZ L))] w):∃R',R.le R'/\MS C R' [] w/\bn R' (.list 3 L.length (a6 L)) v:=by
 rcases List.eq_nil_or_concat L with rfl|⟨I,l,rfl⟩
 ·exact MS.seal_row (hm.drop (by exact V_ _ (Ug _))) (λi h=>absurd h (Uf _))
 ·rw[List.concat_eq_append] at*
  have hI:=gA I;rw[n6,nY] at hm;obtain⟨R1,l1,m1,r1⟩:=MS.seal_row (f:=d8 l.f) (hm.perm (List.Perm.swap _ _ _)) (yu _);have hc:mh R1 (I.length*3+2) (.list 1 l.f.length (d8 l.f)) (.row v none 3 (I++[l]).length (aN I++[.str l.t,.int .i64 l.a,.own 1 u])) _:=.row (a:=.own 1 u) (QI hI) λ_=>ck r1;obtain⟨h1,h2⟩:=hc.holds (m1.heap.holds _ (z_ ..));have m2:=m1.setEnt (i:=0) rfl h2 h1;have e1:(aN I++([.str l.t,.int .i64 l.a,.own 1 u]:List AVal)).set (I.length*3+2) (.list 1 l.f.length (d8 l.f))=aN (I++[l]):=by
   rw[List.set_append_right _ _ a_,hI,T_,jY];simp[aN]
  rw[e1] at m2;obtain⟨R2,l2,m3,r2⟩:=MS.seal_row (f:=a6 (I++[l])) m2 (qa _);exact⟨R2,Seal.le_trans l1 l2,m3,r2⟩
theorem AV {R:Seal}{f:Nat->AVal}{v:Value}(h:bn R (.raw (.slice none 0 0)) v):bn R (.list 3 0 f) v:=by
 rw[aq] at h;subst h;exact⟨⟨none,0,rfl,Nat.le_refl _,.inl rfl⟩,rfl⟩
theorem z7 {G:Glo}(t:ω)(hl:t.length<=9223372036854775000):ai prog G 15 [.str t] (.tuple [.list 3 (bD t).length (a6 (bD t)),(cA t).A]):=by
 refine dB (I4 t hl) ?_;rintro r H (⟨rfl,h2,rfl⟩|⟨v,u,rfl,rfl⟩)
 ·rintro C R w e hm ⟨x,rfl,hx⟩;rw[h2];exact⟨R,hm,x,rfl,ly (Seal.le_refl R) hx λv=>AV⟩
 ·rintro C R w e hm ⟨x,rfl,hx⟩;obtain⟨R',hle,m2,hr⟩:=TC hm;exact⟨R',m2,x,rfl,ly hle hx λv2 h=>by rw[(aE.1 h).1];exact hr⟩
theorem Qp (l:List Int):ax 1 l.length (d8 l):=λi hi=>⟨rfl,rfl,rfl⟩
theorem zD (l:List Int):fa l.length (d8 l)=gU l:=by
 unfold fa gU;have:(λi=>(d8 l i).cells)=λi=>[AVal.int .i64 (l.getD i 0)]:=rfl;rw[this,<-List.map_eq_flatMap];refine List.ext_getElem (by simp) (λi h1 h2=> ?_);have h3:i<l.length:=by simpa using h2
 simp[List.getD,y_ h3]
attribute [local irreducible] bJ au aa ax aR ab ad aN oq kZ cU oi fk iO To dS Lv gj
theorem xC {G:Glo}(b2 b3:Nat)(x:AVal)(e p:Int):dS prog G 20 [.own 1 (.pointer (some ⟨b3,0,none⟩)),.own 0 (.pointer (some ⟨b2,0,none⟩))] .ret [.cells b2 (some 39) [x],.cells b3 (some 25) [.int .i64 e,.int .i64 p]]
  (λr m H=>m= .ret/\r= .ret (.tuple [])/\H=[.cells b2 (some 39) [if e=0 then x else .raw (.slice none 0 0)],.cells b3 (some 25) [.int .i64 e,.int .i64 p]]):=by
 have hGL:ab G []:=al;have hI:=gM (G:=G) e p;refine vY (rs:=[]) (GL:=[]) func20 rfl rfl rfl rfl hGL ?_;intro C hC;by_cases he:e=0
 ·rw[fJ.2 he] at hI;rw[if_pos he];refine xw ?_;repeat' first|exact .n|apply Lc.mk
  all_goals intros
  all_goals skip
 ·rw[k9.2 he] at hI;rw[if_neg he];refine xw ?_;repeat' first|exact .n|apply Lc.mk
  all_goals intros
  all_goals skip
theorem pL {C:Ctx}{n:Nat}{e:Env}{c2 c3:HEnt}{v:Value}{L:List LineS}{q:ω}{a m:Nat}(hm:m=(L++[(⟨q,a,[]⟩:LineS)]).length):To C n e [c2,c3,.row v none 3 m (aN L++([.str q,.int .i64 a,.raw (.slice none 0 0)]:List AVal))] e
  [c2,c3,.row v none 3 (L++[(⟨q,a,[]⟩:LineS)]).length (aN (L++[⟨q,a,[]⟩]))]:=by
 have hI:=gA L;rw[<-hm];have e1:(aN L++([.str q,.int .i64 a,.raw (.slice none 0 0)]:List AVal)).set (L.length*3+2) (.list 1 0 (d8 []))=aN (L++[⟨q,a,[]⟩]):=by
  rw[List.set_append_right _ _ a_,hI,T_,jY];unfold aN;simp
 rw[<-e1];exact iq (i:=2) (p:=L.length*3+2) (x:=.row v none 3 m (aN L++([.str q,.int .i64 a,.raw (.slice none 0 0)]:List AVal))) (a':=.list 1 0 (d8 [])) rfl (λR=>.row (a:=.raw (.slice none 0 0)) (QI hI) λ_=>lN)
theorem Hy {C:Ctx}{n:Nat}{e:Env}{c2 c3:HEnt}{v u:Value}{I:List LineS}{x:ω}{a m k:Nat}{f:List Int}(hk:k=f.length)(hm:m=(I++[(⟨x,a,f⟩:LineS)]).length):To C n e [c2,c3,.row v none 3 m (aN I++([.str x,.int .i64 a,.own 4 u]:List AVal)),.row u none 1 k (gU f)] e
  [c2,c3,.row v none 3 (I++[(⟨x,a,f⟩:LineS)]).length (aN (I++[⟨x,a,f⟩]))]:=by
 subst hk;have hI:=gA I;rw[<-hm];have e1:(aN I++([.str x,.int .i64 a,.own 4 u]:List AVal)).set (I.length*3+2) (.list 1 f.length (d8 f))=aN (I++[⟨x,a,f⟩]):=by
  rw[List.set_append_right _ _ a_,hI,T_,jY];unfold aN;simp
 rw[<-e1];exact ji (i:=3) (k:=2) (p:=I.length*3+2) (d8 f) rfl rfl (yu _) (λR hr=>.row (a:=.own 4 u) (QI hI) λ_=>ck hr)
theorem ZJ {A:List AVal}{x y z x' y' z':AVal}{N k:Nat}(hA:A.length=N)(hk:k=N):(A++[x,y,z]).take k++[x',y',z']++(A++[x,y,z]).drop (k+3)=A++[x',y',z']:=by
 subst hA;subst hk;simp
theorem mw (I:List LineS)(l:LineS):aN (I++[l])=aN I++[.str l.t,.int .i64 l.a,.list 1 l.f.length (d8 l.f)]:=by
 rw[jY];simp[aN]
theorem rj:aN []=[]:=by unfold aN;rfl
abbrev EZ (I:List LineS)(l:LineS):List AVal:=aN I++[.str l.t,.int .i64 l.a,.list 1 l.f.length (d8 l.f)]
abbrev gN (b:Nat):Value:=.pointer (some ⟨b,0,none⟩)
abbrev sT (b3:Nat):Deferred:={target:=.fn (.func 21) #[],args:=#[gN b3]}
abbrev yU (b2 b3:Nat):Deferred:={target:=.fn (.func 20) #[gN b3,gN b2],args:=#[]}
theorem TF {P:Program}[Tab P]{G:Glo}{n:Nat}{rs:List ResultVar}{env:Env}{H:Heap}{Qf:co->Heap->Prop}(h:UZ P rs Qf .ret env H):Lv P G n rs env [] .ret H Qf:=by
 unfold Lv;rintro C R a w fn u D0 hC hrs hm hf rfl
 obtain⟨vs,H'',hv,hs,q⟩:=h
 obtain⟨y,hy,hr⟩:=dZ (fn:=fn) hm hf (by rw[hrs];exact hv)
 exact⟨y,hy,_,H'',R,q,⟨y,rfl,hr⟩,hm.drop hs⟩
section
variable {G:Glo} {n:Nat} {env:Env} {Qf:co->Heap->Prop} {b2 b3:Nat} {T:Heap} {x y z:AVal} {e p:Int}
theorem Kg (R:Seal)(i b:Nat):dy R [.own i (gN b)] [gN b]:=⟨_,_,rfl,aE.2 ⟨rfl,rfl⟩,rfl⟩
theorem tW (h2:Env.get env 2=some (.own 0 (gN b2)))(h3:Env.get env 3=some (.own 1 (gN b3)))(hx:x.isAgg=false){H':Heap}(hs:H'.Sublist T)(hq:Qf (.ret (.tuple [x,.agg [.int .i64 e,.int .i64 p]])) H'):
  Lv prog G n [.cell 2 39,.cell 3 25] env [] .ret (.cells b2 (some 39) [x]:: .cells b3 (some 25) [.int .i64 e,.int .i64 p]::T) Qf:=by
 refine TF ⟨[x,.agg [.int .i64 e,.int .i64 p]],H',⟨_,_,rfl,⟨b2,0,_,_,_,.inr ⟨0,h2⟩,rfl,rfl,rfl,.inr ⟨rfl,rfl,hx⟩⟩,_,_,rfl,⟨b3,1,_,_,_,.inr ⟨1,h3⟩,rfl,rfl,rfl,.inl ⟨rfl,rfl⟩⟩,rfl⟩,?_,hq⟩
 exact(hs.cons _).cons _
theorem gO (h2:Env.get env 2=some (.own 0 (gN b2)))(h3:Env.get env 3=some (.own 1 (gN b3)))(he:e≠0)(hq:Qf (.ret (.tuple [.raw (.slice none 0 0),.agg [.int .i64 e,.int .i64 p]])) []):
  Lv prog G n [.cell 2 39,.cell 3 25] env [sT b3,yU b2 b3] (.pan (qZ e p)) (.cells b2 (some 39) [x]:: .cells b3 (some 25) [y,z]::T) Qf:=by
 refine iz (Lr (i:=1) rfl (xz b3 e p y z)) (λR=>Kg R 0 b3) call21 ?_;have h1:=xC (G:=G) b2 b3 x e p;rw[if_neg he] at h1;refine iz (pr T h1) (λR=>⟨_,_,rfl,aE.2 ⟨rfl,rfl⟩,_,_,rfl,aE.2 ⟨rfl,rfl⟩,rfl⟩) call20 ?_;exact tW h2 h3 rfl (Ug _) hq
theorem IC (h2:Env.get env 2=some (.own 0 (gN b2)))(h3:Env.get env 3=some (.own 1 (gN b3)))(hx:x.isAgg=false){H':Heap}(hs:H'.Sublist T)(hq:Qf (.ret (.tuple [x,.agg [.int .i64 0,.int .i64 p]])) H'):
  Lv prog G n [.cell 2 39,.cell 3 25] env [sT b3,yU b2 b3] .ret (.cells b2 (some 39) [x]:: .cells b3 (some 25) [.int .i64 0,.int .i64 p]::T) Qf:=by
 refine iz (Lr (i:=0) rfl (sd b3 _)) (λR=>Kg R 0 b3) call21 ?_;have h1:=xC (G:=G) b2 b3 x 0 p;rw[if_pos rfl] at h1;refine iz (pr T h1) (λR=>⟨_,_,rfl,aE.2 ⟨rfl,rfl⟩,_,_,rfl,aE.2 ⟨rfl,rfl⟩,rfl⟩) call20 ?_;exact tW h2 h3 hx hs hq
end
theorem Mv {G:Glo}(t:ω)(hl:t.length<=9223372036854775000):ad prog G 9 [.str t] [] (λr H=>(r= .ret (.tuple [.raw (.slice none 0 0),.agg [.int .i64 (cA t).e,.int .i64 (cA t).p]])/\bD t=[]/\H=[])\/
  ∃v,r= .ret (.tuple [.own 2 v,.agg [.int .i64 (cA t).e,.int .i64 (cA t).p]])/\H=[.row v none 3 (bD t).length (aN (bD t))]):=by
 have hGL:ab G []:=al;have hbare:=il (G:=G);have hgood:=fb (G:=G);refine Ua (rs:=[.cell 2 39,.cell 3 25]) func9 call9 rfl rfl rfl rfl ?_;intro C hC hD;refine fq (dQ hC hGL ?_);refine aH ?_;intro b2 b3;intros;refine fq (fq (dQ hC hGL ?_));refine aH ?_;intros;refine(GY rfl (λhb=>dQ hC hGL ?_) (λhb=>dQ hC hGL ?_))
 ·have k1:=@hbare;refine aH ?_;intros;rw[hD];have hb:=oo.1 hb;have e1:cA t= .errno 4:=by unfold cA;rw[if_pos a_]
  refine tW rfl rfl rfl (Ug _) (.inl ⟨by rw[e1];rfl,by unfold bD;rw[if_pos a_],rfl⟩)
 ·refine aH ?_;intros;have hb:=o8.1 hb;refine fq (dQ hC hGL ?_);refine aH ?_;intros;refine fq (j5 hC hGL rfl ?_);refine aH ?_;intros;refine⟨_,rfl,?_⟩;refine fq (j5 hC hGL rfl ?_);refine aH ?_;intros;refine⟨_,rfl,?_⟩;refine(λ(h:∀C2:Ctx,C2.G=G->C2.D=[sT b3,yU b2 b3]->gj prog C2 _ _ _ _ _)=>h (withD C (sT b3::yU b2 b3::C.D)) hC (by show sT b3::yU b2 b3::C.D=_;rw[hD])) ?_;clear hC hD C;intro C hC hD;refine dQ hC hGL ?_;refine an ?_;intros;refine WT hC hGL (λ(x:Nat×Nat×List LineS×Nat×Nat)=>[(0,.str t),(2,.own 0 (gN b2)),(3,.own 1 (gN b3)),(4,.int .i64 x.2.1),(5,.int .i64 x.1)]) (λx=>[.cells b2 (some 39) [.own 2 (cM x.2.2.2.1 x.2.2.2.2 x.2.2.1.length)],.cells b3 (some 25) [.int .i64 0,.int .i64 (-1)],.row (cM x.2.2.2.1 x.2.2.2.2 x.2.2.1.length) none 3 x.2.2.1.length (aN x.2.2.1)])
   (λx=>x.2.1<=x.1/\x.1<=t.length+1/\(x.2.1<t.length->x.1<=t.length)/\x.2.2.1.length<=x.2.1/\cz t 0 []=cz t x.2.1 x.2.2.1/\(∀j,x.2.1<=j->j<x.1->aa t j≠10/\aa t j≠13)/\∀l,x.2.2.1.getLast? =some l->l.t.length<=x.2.1/\l.f.length<=x.2.1) (λx=>t.length+1-x.1) (0,0,[],0,0) ?_ ?_ ?_
  ·exact⟨Nat.le_refl _,Nat.zero_le _,λ_=>Nat.zero_le _,Nat.le_refl _,rfl,λj h1 h2=>absurd h2 (Uf _),λl h=>by cases h⟩
  ·dsimp only
   refine ak (ep 3) (ak (iq (i:=0) (p:=0) (x:=.cells b2 (some 39) [.raw (.slice none 0 0)]) (a':=.own 2 (.slice none 0 0)) rfl (λR=>.cells rfl λ_=>iy)) (bi ⟨rfl,rfl,rfl,rfl,rfl,trivial⟩ ?_));rw[show aN []=[] by unfold aN;rfl];exact At _
  rintro⟨i,a,L,b,cap⟩ ⟨g1,g2,g3,g4,g5,g6,g7⟩;dsimp only at g1 g2 g3 g4 g5 g6 g7 ⊢;have hE:cA t=(cz t a L).1:=by unfold cA;rw[if_neg a_,g5]
  have hL:bD t=(cz t a L).2:=by unfold bD;rw[if_neg a_,g5]
  have hT:=λe p=>pV (G:=G) e p;by_cases ha:a<t.length
  ·have g3:=g3 ha;by_cases hi:i=t.length
   ·have hc:fk (t.drop a)= -1:=GF (o0 (Nat.le_refl _) λj hj=>by rw[ct];rw[k_] at hj;exact g6 (a+j) a_ a_);have h1:=ri (L:=L) ha hc;refine an ?_;intros;refine cd (hT 7 i) ?_
    (conv=>whnf)
    rw[hD];exact gO rfl rfl b_ (.inl ⟨by rw[hE,h1,hi];rfl,by rw[hL,h1],rfl⟩)
   ·by_cases hn:aa t i=10\/aa t i=13
    ·have hii:a+(i-a)=i:=by omega
     have hc:fk (t.drop a)=((i-a:Nat):Int):=Uu (by rw[k_];omega) (by rw[ct,hii];exact hn) (λj hj=>by rw[ct];exact g6 (a+j) a_ a_);have h1:=tY (L:=L) ha hc;have h2:=pc (L:=L) ha hc;rw[hii] at h1 h2;rw[show(t.drop a).take (i-a)=(t.take i).drop a by rw[List.drop_take]] at h2;have hpl:((t.take i).drop a).length=i-a:=by rw[k_,i_];omega
     cases hk:iO t i with
     |false=>
      have h1:=h1 hk;have hk':aa t i≠13\/¬(i+1<t.length)\/aa t (i+1)≠10:=by
       unfold iO at hk;rw[Vr,Vr,beq_eq_false_iff_ne,beq_eq_false_iff_ne,aaf] at hk;omega
      rw[show(a:Int)+((i-a:Nat):Int)=i by omega] at h1;refine xn ?_;repeat' first|exact .n|apply Lc.mk
      all_goals intros
      all_goals
       refine cd (hT 3 i) ?_
       (conv=>whnf)
       rw[hD];exact gO rfl rfl b_ (.inl ⟨by rw[hE,h1];rfl,by rw[hL,h1],rfl⟩)
     |true=>
      have hk':aa t i=13/\i+1<t.length/\aa t (i+1)=10:=by
       unfold iO at hk;rw[l_,l_,aad,aad,n_] at hk;omega
      have h2:=h2 hk;clear h1;rcases List.eq_nil_or_concat L with rfl|⟨I,l,rfl⟩
      ·rw[rj];refine xn ?_;repeat' first|exact .n|apply Lc.mk
       all_goals intros
       iterate 2
        ·have hF:cU ((t.take i).drop a)=true:=by first|exact qd (by assumption) (by assumption)|exact qc (by assumption) (by assumption)
         refine cd (hT 10 0) ?_
         (conv=>whnf)
         rw[hD];exact gO rfl rfl b_ (.inl ⟨by rw[hE,h2,ip hF];rfl,by rw[hL,h2,ip hF],rfl⟩)
       ·rename_i va vk vc hva _ _ _ _ _ _ _ _ _ _ _ _ _ _;have hF:cU ((t.take i).drop a)=false:=by first|exact iY (by assumption)|exact kD (by assumption) (by assumption)
        obtain⟨bv,rfl,rfl⟩:=hva (by simp);refine an ?_;intros;refine oP ⟨⟨_,rfl⟩,show(((([]:List LineS).length+1:Nat):Int)-1).toNat*3+3<=(([]:List LineS).length+1)*3 by omega,a_⟩ ?_;refine yF (c:=[.str ((t.take i).drop a),.int .i64 a,.raw (.slice none 0 0)]) rfl ?_;refine xn ?_;repeat' first|exact .n|apply Lc.mk
        all_goals intros
        ·refine cd (hT 4 a) ?_
         (conv=>whnf)
         rw[hD];exact gO rfl rfl b_ (.inl ⟨by rw[hE,h2,gS hF a_];rfl,by rw[hL,h2,gS hF a_],rfl⟩)
        ·refine DT (i+2,i+2,(([]:List LineS)++[(⟨((t.take i).drop a),a,[]⟩:LineS)]),bv,vc) ⟨Nat.le_refl _,by dsimp only;omega,λ_=>by dsimp only;omega,by simp only[d_,j_,E_];omega,?_,λj h1 h2=>by dsimp only at h1 h2;omega,λl h=>by have e:(⟨((t.take i).drop a),a,[]⟩:LineS)=l:=(by simpa using h);subst e;exact⟨by show(((t.take i).drop a)).length<=i+2;omega,Nat.zero_le _⟩⟩ (by dsimp only;omega) ?_
         ·dsimp only
          rw[g5,h2,jD hF a_]
         ·dsimp only
          have hm:([]:List LineS).length+1=(([]:List LineS)++[(⟨((t.take i).drop a),a,[]⟩:LineS)]).length:=by simp
          refine ak (bi (e':=[(0,.str t),(2,.own 0 (gN b2)),(3,.own 1 (gN b3)),(4,.int .i64 ((i+2:Nat):Int)),(5,.int .i64 ((i+2:Nat):Int))]) (h':=[.cells b2 (some 39) [.own 2 (.slice (some ⟨bv,0,none⟩) (([]:List LineS).length+1) vc)],.cells b3 (some 25) [.int .i64 0,.int .i64 (-1)],.row (.slice (some ⟨bv,0,none⟩) (([]:List LineS).length+1) vc) none 3 (([]:List LineS).length+1) (aN ([]:List LineS)++([.str ((t.take i).drop a),.int .i64 a,.raw (.slice none 0 0)]:List AVal))]) ⟨rfl,rfl,rfl,congrArg (λz=>some (AVal.int .i64 z)) a_,congrArg (λz=>some (AVal.int .i64 z)) a_,trivial⟩ (by rw[rj];exact V_ _ (V_ _ (V_ _ (Ug _))))) (ak (pL hm) (by rw[<-hm];exact nB))
       ·rename_i va vk vc hva _ _ _ _ _ _ _ _ _ _;have hF:cU ((t.take i).drop a)=false:=by first|exact iY (by assumption)|exact kD (by assumption) (by assumption)
        obtain⟨bv,rfl,rfl⟩:=hva (by simp);refine an ?_;intros;refine oP ⟨⟨_,rfl⟩,show(((([]:List LineS).length+1:Nat):Int)-1).toNat*3+3<=(([]:List LineS).length+1)*3 by omega,a_⟩ ?_;refine yF (c:=[.str ((t.take i).drop a),.int .i64 a,.raw (.slice none 0 0)]) rfl ?_;refine xn ?_;repeat' first|exact .n|apply Lc.mk
        all_goals intros
        ·refine DT (i+2,i+2,(([]:List LineS)++[(⟨((t.take i).drop a),a,[]⟩:LineS)]),bv,vc) ⟨Nat.le_refl _,by dsimp only;omega,λ_=>by dsimp only;omega,by simp only[d_,j_,E_];omega,?_,λj h1 h2=>by dsimp only at h1 h2;omega,λl h=>by have e:(⟨((t.take i).drop a),a,[]⟩:LineS)=l:=(by simpa using h);subst e;exact⟨by show(((t.take i).drop a)).length<=i+2;omega,Nat.zero_le _⟩⟩ (by dsimp only;omega) ?_
         ·dsimp only
          rw[g5,h2,jD hF a_]
         ·dsimp only
          have hm:([]:List LineS).length+1=(([]:List LineS)++[(⟨((t.take i).drop a),a,[]⟩:LineS)]).length:=by simp
          refine ak (bi (e':=[(0,.str t),(2,.own 0 (gN b2)),(3,.own 1 (gN b3)),(4,.int .i64 ((i+2:Nat):Int)),(5,.int .i64 ((i+2:Nat):Int))]) (h':=[.cells b2 (some 39) [.own 2 (.slice (some ⟨bv,0,none⟩) (([]:List LineS).length+1) vc)],.cells b3 (some 25) [.int .i64 0,.int .i64 (-1)],.row (.slice (some ⟨bv,0,none⟩) (([]:List LineS).length+1) vc) none 3 (([]:List LineS).length+1) (aN ([]:List LineS)++([.str ((t.take i).drop a),.int .i64 a,.raw (.slice none 0 0)]:List AVal))]) ⟨rfl,rfl,rfl,congrArg (λz=>some (AVal.int .i64 z)) a_,congrArg (λz=>some (AVal.int .i64 z)) a_,trivial⟩ (by rw[rj];exact V_ _ (V_ _ (V_ _ (Ug _))))) (ak (pL hm) (by rw[<-hm];exact nB))
      ·rw[List.concat_eq_append] at*
       have hll:(I++[l]).length=I.length+1:=by simp
       have hI3:=gA I;rw[mw,hll];rw[hll] at g4;obtain⟨g8,g9⟩:=g7 l (by simp);have ra:bZ (cM b cap (I.length+1)) b (I.length+1):=⟨cap,rfl⟩;refine xn ?_;repeat' first|exact .n|apply Lc.mk
       all_goals intros
       iterate 2
        ·have hF:cU ((t.take i).drop a)=true:=by first|exact qd (by assumption) (by assumption)|exact qc (by assumption) (by assumption)
         refine oP ⟨ra,show(((I.length+1:Nat):Int)-1).toNat*3+3<=(I.length+1)*3 by omega,a_⟩ ?_;refine yF (c:=[.str l.t,.int .i64 l.a,.list 1 l.f.length (d8 l.f)]) (wS hI3 (show(((I.length+1:Nat):Int)-1).toNat*3=I.length*3 by omega)) ?_;refine an ?_;intro bl;intros;have rb:bZ (cM b cap (I.length+1)) b (I.length+1)/\(((I.length+1:Nat):Int)-1).toNat*3+3<=(I.length+1)*3/\0<I.length+1:=⟨ra,a_,a_⟩;have hsrc:=Qp l.f;have ke:(((t.take i).drop a).drop 1).length=i-a-1:=by rw[k_,hpl]
         refine dC (e':=[(0,.str t),(2,.own 0 (gN b2)),(3,.own 1 (gN b3)),(4,.int .i64 a),(5,.int .i64 i),(6,.str ((t.take i).drop a)),(7,.own 3 (gN bl))]) (bi ⟨rfl,rfl,rfl,rfl,rfl,rfl,rfl,trivial⟩ (At _)) ?_;refine a7 mixed hC hGL false (λ(_:Option Addr×Nat×Nat)=>[(0,.str t),(2,.own 0 (gN b2)),(3,.own 1 (gN b3)),(4,.int .i64 a),(5,.int .i64 i),(6,.str ((t.take i).drop a)),(7,.own 3 (gN bl))]) (λy=>[.cells b2 (some 39) [.own 2 (cM b cap (I.length+1))],.cells b3 (some 25) [.int .i64 0,.int .i64 (-1)],.row (cM b cap (I.length+1)) none 3 (I.length+1) (EZ I l),.cells bl (some 45) [.str l.t,.int .i64 l.a,.own 4 (.slice y.1 y.2.1 y.2.2)],.row (.slice y.1 y.2.1 y.2.2) none 1 (l.f.length+1) (fa l.f.length (d8 l.f)++[.int .i64 l.t.length])]) (.t 0 (.t 3 (.br 1 (.br 2 (.b 4 (.b 5 (.b 6 (.b 7 (.t 8 (.b 9 .done)))))) (.b 4 (.br 2 (.b 5 (.b 6 (.b 7 (.t 8 (.b 9 .done))))) (.b 5 (.br 2 (.b 6 (.b 7 (.t 8 (.b 9 .done)))) (.b 6 (.b 2 (.b 7 (.t 8 (.b 9 .done)))))))))) (.b 4 (.br 1 (.br 2 (.b 5 (.b 6 (.b 7 (.t 8 (.b 9 .done))))) (.b 5 (.br 2 (.b 6 (.b 7 (.t 8 (.b 9 .done)))) (.b 6 (.b 2 (.b 7 (.t 8 (.b 9 .done)))))))) (.b 5 (.br 1 (.br 2 (.b 6 (.b 7 (.t 8 (.b 9 .done)))) (.b 6 (.b 2 (.b 7 (.t 8 (.b 9 .done)))))) (.b 6 (.b 1 (.b 2 (.b 7 (.t 8 (.b 9 .done))))))))))))) be xu ?_
         ·rintro⟨va,vk,vc⟩;dsimp only
          refine an ?_;intros;refine a7 mixed hC hGL false (λ(_:Unit)=>[(0,.str t),(2,.own 0 (gN b2)),(3,.own 1 (gN b3)),(4,.int .i64 a),(5,.int .i64 i),(6,.str ((t.take i).drop a)),(7,.own 3 (gN bl))]) (λ_=>[.cells b2 (some 39) [.own 2 (cM b cap (I.length+1))],.cells b3 (some 25) [.int .i64 0,.int .i64 (-1)],.row (cM b cap (I.length+1)) none 3 (I.length+1) (EZ I l),.cells bl (some 45) [.str (l.t++((t.take i).drop a).drop 1),.int .i64 l.a,.own 4 (.slice va vk vc)],.row (.slice va vk vc) none 1 (l.f.length+1) (fa l.f.length (d8 l.f)++[.int .i64 l.t.length])]) (.t 0 (.t 2 (.t 3 (.b 1 (.t 4 (.t 5 (.b 6 .done))))))) be xu ?_
          ·intro _;refine an ?_;intros;have hkk:((((I.length+1:Nat):Int)-1).toNat*3)=I.length*3:=by omega
           have hset:=ZJ (x:=.str l.t) (y:=.int .i64 l.a) (z:=.list 1 l.f.length (d8 l.f)) (x':=.str (l.t++((t.take i).drop a).drop 1)) (y':=.int .i64 l.a) (z':=.own 4 (.slice va vk vc)) hI3 hkk;refine yF (c:=[.str (l.t++((t.take i).drop a).drop 1),.int .i64 l.a,.own 4 (.slice va vk vc)]) (by show(((EZ I l).take ((((I.length+1:Nat):Int)-1).toNat*3)++([.str (l.t++((t.take i).drop a).drop 1),.int .i64 l.a,.own 4 (.slice va vk vc)]:List AVal)++(EZ I l).drop (((((I.length+1:Nat):Int)-1).toNat*3)+3)).drop ((((I.length+1:Nat):Int)-1).toNat*3)).take 3=_;rw[hset];exact wS hI3 hkk) ?_;have hal:(l.t++((t.take i).drop a).drop 1).length=l.t.length+(i-a-1):=by rw[d_,ke]
           refine xn ?_;repeat' first|exact .n|apply Lc.mk
           all_goals intros
           ·refine cd (hT 4 l.a) ?_
            (conv=>whnf)
            rw[hD];exact gO rfl rfl b_ (.inl ⟨by rw[hE,h2,gF hF a_];rfl,by rw[hL,h2,gF hF a_],rfl⟩)
           ·refine DT (i+2,i+2,I++[(⟨(l.t++((t.take i).drop a).drop 1),l.a,l.f++[(l.t.length:Int)]⟩:LineS)],b,cap) ⟨Nat.le_refl _,by dsimp only;omega,λ_=>by dsimp only;omega,by simp only[d_,j_,E_];omega,?_,λj h1 h2=>by dsimp only at h1 h2;omega,λl' h=>by have e:(⟨(l.t++((t.take i).drop a).drop 1),l.a,l.f++[(l.t.length:Int)]⟩:LineS)=l':=(by simpa using h);subst e;exact⟨by show(l.t++((t.take i).drop a).drop 1).length<=i+2;omega,by show(l.f++[(l.t.length:Int)]).length<=i+2;rw[d_,j_,E_];omega⟩⟩ (by dsimp only;omega) ?_
            ·dsimp only
             rw[g5,h2,uB hF a_]
            ·dsimp only
             have hm:I.length+1=(I++[(⟨(l.t++((t.take i).drop a).drop 1),l.a,l.f++[(l.t.length:Int)]⟩:LineS)]).length:=by simp
             refine ak (bi (e':=[(0,.str t),(2,.own 0 (gN b2)),(3,.own 1 (gN b3)),(4,.int .i64 ((i+2:Nat):Int)),(5,.int .i64 ((i+2:Nat):Int))]) (h':=[.cells b2 (some 39) [.own 2 (cM b cap (I.length+1))],.cells b3 (some 25) [.int .i64 0,.int .i64 (-1)],.row (cM b cap (I.length+1)) none 3 (I.length+1) ((EZ I l).take ((((I.length+1:Nat):Int)-1).toNat*3)++[.str (l.t++((t.take i).drop a).drop 1),.int .i64 l.a,.own 4 (.slice va vk vc)]++(EZ I l).drop (((((I.length+1:Nat):Int)-1).toNat*3)+3)),.row (.slice va vk vc) none 1 (l.f.length+1) (fa l.f.length (d8 l.f)++[.int .i64 l.t.length])]) ⟨rfl,rfl,rfl,congrArg (λz=>some (AVal.int .i64 z)) a_,congrArg (λz=>some (AVal.int .i64 z)) a_,trivial⟩ (by exact V_ _ (V_ _ (V_ _ (List.Sublist.cons _ (V_ _ (Ug _))))))) ?_;rw[hset,zD,yv,<-hm];exact ak (Hy (by simp) hm) (by rw[<-hm];exact nB)
       ·rename_i va vk vc hva _ _ _ _ _ _ _ _ _ _ _ _ _ _;have hF:cU ((t.take i).drop a)=false:=by first|exact iY (by assumption)|exact kD (by assumption) (by assumption)
        obtain⟨bv,rfl,rfl⟩:=hva (by simp);refine an ?_;intros;refine oP ⟨⟨_,rfl⟩,show((((I.length+1)+1:Nat):Int)-1).toNat*3+3<=((I.length+1)+1)*3 by omega,a_⟩ ?_;refine yF (c:=[.str ((t.take i).drop a),.int .i64 a,.raw (.slice none 0 0)]) (wS (A:=EZ I l) (N:=(I.length+1)*3) (by simp only[d_,hI3,j_,E_];omega) (show(((I.length+1+1:Nat):Int)-1).toNat*3=(I.length+1)*3 by omega)) ?_;refine xn ?_;repeat' first|exact .n|apply Lc.mk
        all_goals intros
        ·refine cd (hT 4 a) ?_
         (conv=>whnf)
         rw[hD];exact gO rfl rfl b_ (.inl ⟨by rw[hE,h2,gS hF a_];rfl,by rw[hL,h2,gS hF a_],rfl⟩)
        ·refine DT (i+2,i+2,((I++[l])++[(⟨((t.take i).drop a),a,[]⟩:LineS)]),bv,vc) ⟨Nat.le_refl _,by dsimp only;omega,λ_=>by dsimp only;omega,by simp only[d_,j_,E_];omega,?_,λj h1 h2=>by dsimp only at h1 h2;omega,λl h=>by have e:(⟨((t.take i).drop a),a,[]⟩:LineS)=l:=(by simpa using h);subst e;exact⟨by show(((t.take i).drop a)).length<=i+2;omega,Nat.zero_le _⟩⟩ (by dsimp only;omega) ?_
         ·dsimp only
          rw[g5,h2,jD hF a_]
         ·dsimp only
          have hm:(I.length+1)+1=((I++[l])++[(⟨((t.take i).drop a),a,[]⟩:LineS)]).length:=by simp
          refine ak (bi (e':=[(0,.str t),(2,.own 0 (gN b2)),(3,.own 1 (gN b3)),(4,.int .i64 ((i+2:Nat):Int)),(5,.int .i64 ((i+2:Nat):Int))]) (h':=[.cells b2 (some 39) [.own 2 (.slice (some ⟨bv,0,none⟩) ((I.length+1)+1) vc)],.cells b3 (some 25) [.int .i64 0,.int .i64 (-1)],.row (.slice (some ⟨bv,0,none⟩) ((I.length+1)+1) vc) none 3 ((I.length+1)+1) (aN (I++[l])++([.str ((t.take i).drop a),.int .i64 a,.raw (.slice none 0 0)]:List AVal))]) ⟨rfl,rfl,rfl,congrArg (λz=>some (AVal.int .i64 z)) a_,congrArg (λz=>some (AVal.int .i64 z)) a_,trivial⟩ (by rw[mw];exact V_ _ (V_ _ (V_ _ (Ug _))))) (ak (pL hm) (by rw[<-hm];exact nB))
       ·rename_i va vk vc hva _ _ _ _ _ _ _ _ _ _;have hF:cU ((t.take i).drop a)=false:=by first|exact iY (by assumption)|exact kD (by assumption) (by assumption)
        obtain⟨bv,rfl,rfl⟩:=hva (by simp);refine an ?_;intros;refine oP ⟨⟨_,rfl⟩,show((((I.length+1)+1:Nat):Int)-1).toNat*3+3<=((I.length+1)+1)*3 by omega,a_⟩ ?_;refine yF (c:=[.str ((t.take i).drop a),.int .i64 a,.raw (.slice none 0 0)]) (wS (A:=EZ I l) (N:=(I.length+1)*3) (by simp only[d_,hI3,j_,E_];omega) (show(((I.length+1+1:Nat):Int)-1).toNat*3=(I.length+1)*3 by omega)) ?_;refine xn ?_;repeat' first|exact .n|apply Lc.mk
        all_goals intros
        ·refine DT (i+2,i+2,((I++[l])++[(⟨((t.take i).drop a),a,[]⟩:LineS)]),bv,vc) ⟨Nat.le_refl _,by dsimp only;omega,λ_=>by dsimp only;omega,by simp only[d_,j_,E_];omega,?_,λj h1 h2=>by dsimp only at h1 h2;omega,λl h=>by have e:(⟨((t.take i).drop a),a,[]⟩:LineS)=l:=(by simpa using h);subst e;exact⟨by show(((t.take i).drop a)).length<=i+2;omega,Nat.zero_le _⟩⟩ (by dsimp only;omega) ?_
         ·dsimp only
          rw[g5,h2,jD hF a_]
         ·dsimp only
          have hm:(I.length+1)+1=((I++[l])++[(⟨((t.take i).drop a),a,[]⟩:LineS)]).length:=by simp
          refine ak (bi (e':=[(0,.str t),(2,.own 0 (gN b2)),(3,.own 1 (gN b3)),(4,.int .i64 ((i+2:Nat):Int)),(5,.int .i64 ((i+2:Nat):Int))]) (h':=[.cells b2 (some 39) [.own 2 (.slice (some ⟨bv,0,none⟩) ((I.length+1)+1) vc)],.cells b3 (some 25) [.int .i64 0,.int .i64 (-1)],.row (.slice (some ⟨bv,0,none⟩) ((I.length+1)+1) vc) none 3 ((I.length+1)+1) (aN (I++[l])++([.str ((t.take i).drop a),.int .i64 a,.raw (.slice none 0 0)]:List AVal))]) ⟨rfl,rfl,rfl,congrArg (λz=>some (AVal.int .i64 z)) a_,congrArg (λz=>some (AVal.int .i64 z)) a_,trivial⟩ (by rw[mw];exact V_ _ (V_ _ (V_ _ (Ug _))))) (ak (pL hm) (by rw[<-hm];exact nB))
    ·refine an ?_;intros;refine DT (i+1,a,L,b,cap) ⟨by dsimp only;omega,by dsimp only;omega,λ_=>by dsimp only;omega,g4,g5,λj h1 h2=> ?_,g7⟩ (by dsimp only;omega) (bi ⟨rfl,rfl,rfl,rfl,rfl,trivial⟩ (At _));by_cases e:j=i
     ·subst e;omega
     ·exact g6 j h1 a_
  ·have h1:=tX (L:=L) ha;refine an ?_;intros;refine a7 mixed hC hGL false (λ(_:Unit)=>[(0,.str t),(2,.own 0 (gN b2)),(3,.own 1 (gN b3))]) (λ_=>[.cells b2 (some 39) [.own 2 (cM b cap L.length)],.cells b3 (some 25) [.int .i64 0,.int .i64 (-1)],.row (cM b cap L.length) none 3 L.length (aN L)]) .p8 be xu ?_
   ·intro _;refine an ?_;intros;rw[hD];refine IC rfl rfl rfl (At _) (.inr ⟨_,by rw[hE,h1];rfl,by rw[hL,h1]⟩)
end
section
def me (t:ω)(l:LineS):Prop:=l.a<=t.length/\l.t.length<=1500/\l.f.length<=t.length
theorem KO (t:ω):∀(k a:Nat) (L:List LineS),t.length-a<=k->a<=t.length->(∀l∈L,l.a<=a/\l.t.length<=1500/\l.f.length<=a)->L.length<=a->(∀l∈(cz t a L).2,me t l)/\(cz t a L).2.length<=t.length
 |k,a,L,hk,ha,hb,hn=>by
  by_cases h:a<t.length
  ·have stop:∀e:Err,cz t a L=(e,[])->(∀l∈(cz t a L).2,me t l)/\(cz t a L).2.length<=t.length:=by
    intro e he;rw[he];exact⟨λl hl=>(by cases hl),Nat.zero_le _⟩
   rcases yY (t.drop a) with⟨hc,_⟩|⟨n,hn2,hc,_,_⟩
   ·exact stop _ (ri h hc)
   ·rw[k_] at hn2;cases hx:iO t (a+n) with
    |false=>exact stop _ (tY h hc hx)
    |true=>
     have h2:=pc (L:=L) h hc hx;have hlt:a+n+1<t.length:=by
      unfold iO at hx;rw[l_,l_,n_] at hx;exact hx.1.2
     have hpl:((t.drop a).take n).length=n:=by rw[i_,k_];omega
     have go:∀L',cz t a L=cz t (a+n+2) L'->(∀l∈L',l.a<=a+n+2/\l.t.length<=1500/\l.f.length<=a+n+2)->L'.length<=a+n+2->(∀l∈(cz t a L).2,me t l)/\(cz t a L).2.length<=t.length:=by
      intro L' he h3 h4;rw[he];cases k with
      |zero=>omega
      |succ k=>exact KO t k (a+n+2) L' a_ a_ h3 h4
     cases hf:cU ((t.drop a).take n) with
     |true=>
      rcases List.eq_nil_or_concat L with rfl|⟨I,l,rfl⟩
      ·rw[ip hf] at h2;exact stop _ h2
      ·rw[List.concat_eq_append] at*
       by_cases hl:1500<l.t.length+(((t.drop a).take n).length-1)
       ·rw[gF hf hl] at h2;exact stop _ h2
       ·rw[uB hf hl] at h2;refine go _ h2 ?_ (by simp only[d_,j_,E_] at*;omega);intro x hx;rcases List.mem_append.1 hx with hx|hx
        ·have:=hb x (List.mem_append_left _ hx);omega
        ·have h5:=hb l (by simp);simp only[p_,t_,or_false] at hx;subst hx;simp only[d_,k_,j_,E_] at*
         omega
     |false=>
      by_cases hl:1500<((t.drop a).take n).length
      ·rw[gS hf hl] at h2;exact stop _ h2
      ·rw[jD hf hl] at h2;refine go _ h2 ?_ (by simp only[d_,j_,E_];omega);intro x hx;rcases List.mem_append.1 hx with hx|hx
       ·have:=hb x hx;omega
       ·simp only[p_,t_,or_false] at hx;subst hx;simp only[E_] at*
        omega
  ·rw[tX h];exact⟨λl hl=>by have:=hb l hl;exact⟨a_,this.2.1,a_⟩,by show L.length<=_;omega⟩
theorem so (t:ω):(∀l∈bD t,me t l)/\(bD t).length<=t.length:=by
 unfold bD;split
 ·exact⟨λl hl=>(by cases hl),Nat.zero_le _⟩
 ·exact KO t _ 0 [] (Nat.le_refl _) (Nat.zero_le _) (λl hl=>(by cases hl)) (Nat.zero_le _)
def cO (l:LineS)(i:Int)(k:Nat):Int:=(l.a:Int)+i+3*((l.f.take k).filter λf=>decide (f<=i)).length
theorem E7 (l:LineS)(i:Int):cO l i 0=l.a+i:=by simp[cO]
theorem E5 {l:LineS}{i:Int}{k:Nat}(h:k<l.f.length)(hf:l.f.getD k 0<=i):cO l i (k+1)=cO l i k+3:=by
 unfold cO;rw[x_ h,List.filter_append,d_];rw[f_,y_ h] at hf;simp only[aam] at hf;simp[hf];omega
theorem E6 {l:LineS}{i:Int}{k:Nat}(h:k<l.f.length)(hf:¬l.f.getD k 0<=i):cO l i (k+1)=cO l i k:=by
 unfold cO;rw[x_ h,List.filter_append,d_];rw[f_,y_ h] at hf;simp only[aam] at hf;simp[hf]
theorem AL (l:LineS)(i:Int)(k:Nat):l.a+i<=cO l i k/\cO l i k<=l.a+i+3*l.f.length:=by
 unfold cO;have h1:=List.length_filter_le (λf=>decide (f<=i)) (l.f.take k);have h2:(l.f.take k).length<=l.f.length:=by rw[i_];omega
 omega
attribute [local irreducible] bJ au aa ax aR ab ad aN oq kZ cU oi fk iO cO bD cA
theorem I3 {G:Glo}(t:ω)(l:LineS)(i:Int)(h0:0<=i)(h1:i<=3000)(hl:t.length<=20100)(hb:me t l):ai prog G 50 [uR l,.int .i64 i] (.int .i64 (cO l i l.f.length)):=by
 obtain⟨b1,b2,b3⟩:=hb;refine aw func50 call50 λC hC hGL=> ?_;refine aH ?_;intros;rw[<-E7 l i];refine lp hC hGL (λ(k:Nat)=>[(1,.int .i64 i),(5,.int .i64 (cO l i k)),(13,.list 1 l.f.length (d8 l.f)),(14,.int .i64 l.f.length),(15,.int .i64 k)]) (λ_=>[]) (λk=>k<=l.f.length) (λk=>l.f.length-k) 0 ?_ ae rfl ?_
 ·exact Nat.zero_le _
 intro k hk;have hk:k<=l.f.length:=hk;have hp:=AL l i k;by_cases hk2:k<l.f.length
 ·have e1:=E5 (l:=l) (i:=i) hk2;have e2:=E6 (l:=l) (i:=i) hk2;refine xw ?_;repeat' first|exact .n|apply Lc.mk
  all_goals intros
  ·refine cQ (k+1) (show k+1<=_ by omega) a_ ⟨rfl,congrArg (λz=>some (AVal.int .i64 z)) (e1 (by assumption)).symm,rfl,rfl,rfl,trivial⟩ rfl
  ·refine cQ (k+1) (show k+1<=_ by omega) a_ ⟨rfl,congrArg (λz=>some (AVal.int .i64 z)) (e2 a_).symm,rfl,rfl,rfl,trivial⟩ rfl
 ·refine aH ?_;intros;apply aj;rw[show k=l.f.length by omega]
theorem Mt {G:Glo}(t:ω)(l:LineS)(i:Int)(h0:0<=i)(h1:i<=3000)(hl:t.length<=20100)(hb:me t l):ai prog G 35 [uR l,.int .i64 i] (.int .i64 (cO l i l.f.length)):=by
 obtain⟨b1,b2,b3⟩:=hb;refine aw func35 call35 λC hC hGL=> ?_;refine aH ?_;intros;rw[<-E7 l i];refine lp hC hGL (λ(k:Nat)=>[(1,.int .i64 i),(2,.rop [.str l.t,.int .i64 l.a,.list 1 l.f.length (d8 l.f)] 0),(5,.int .i64 (cO l i k)),(13,.int .i64 l.f.length),(14,.int .i64 k)]) (λ_=>[]) (λk=>k<=l.f.length) (λk=>l.f.length-k) 0 ?_ ae rfl ?_
 ·exact Nat.zero_le _
 intro k hk;have hk:k<=l.f.length:=hk;have hp:=AL l i k;by_cases hk2:k<l.f.length
 ·have e1:=E5 (l:=l) (i:=i) hk2;have e2:=E6 (l:=l) (i:=i) hk2;refine xw ?_;repeat' first|exact .n|apply Lc.mk
  all_goals intros
  ·refine cQ (k+1) (show k+1<=_ by omega) a_ ⟨rfl,rfl,congrArg (λz=>some (AVal.int .i64 z)) (e1 (by assumption)).symm,rfl,rfl,trivial⟩ rfl
  ·refine cQ (k+1) (show k+1<=_ by omega) a_ ⟨rfl,rfl,congrArg (λz=>some (AVal.int .i64 z)) (e2 a_).symm,rfl,rfl,trivial⟩ rfl
 ·refine aH ?_;intros;apply aj;rw[show k=l.f.length by omega]
theorem CD {G:Glo}(t:ω)(hl:t.length<=9223372036854775000):ai prog G 9 [.str t] (.tuple [.list 3 (bD t).length (a6 (bD t)),.agg [.int .i64 (cA t).e,.int .i64 (cA t).p]]):=by
 refine dB (Mv t hl) ?_;rintro r H (⟨rfl,h2,rfl⟩|⟨v,rfl,rfl⟩)
 ·rintro C R w e hm ⟨x,rfl,hx⟩;rw[h2];exact⟨R,hm,x,rfl,ly (Seal.le_refl R) hx λv=>AV⟩
 ·rintro C R w e hm ⟨x,rfl,hx⟩;obtain⟨R',hle,m2,hr⟩:=MS.seal_row (f:=a6 (bD t)) hm (qa _);exact⟨R',m2,x,rfl,ly hle hx λv2 h=>by rw[(aE.1 h).1];exact hr⟩
end
section
def Err.in (n:Nat):Err->Prop
 |.atp _ p=>0<=p/\p<=(n:Int)
 |_=>True
theorem LH:∀(k:Nat) {s:ω} {i:Nat},uw k s=some i->i<s.length
 |0,s,i,h=>by cases h
 |k+1,s,i,h=>by
  unfold uw at h;split at h
  ·cases h
  ·split at h
   ·cases h;omega
   ·cases hq:uw k (s.drop (aC s).2) with
    |none=>rw[hq] at h;cases h
    |some j=>
     have ih:=LH k hq
     rw[hq] at h
     cases h
     rw[k_] at ih
     show j+(aC s).2<_
     omega
section
variable {c:Bool} {s:ω} {e:Int} {p:Nat}
theorem wB {a:Nat}(ha:a<=s.length)(h:bF s a= .bad e p):p<=s.length:=by
 unfold bF at h;split at h
 ·cases h
 ·cases h;exact ha
theorem Sv {a:Nat}(ha:a<=s.length):mj s a<=s.length:=B8 ((rG s a).2.2 ha)
theorem Su {a:Nat}(ha:a<=s.length)(h:cw c s a= .bad e p):p<=s.length:=by
 have h1:=Sv ha;unfold cw at h
 (repeat' split at h)<;>(cases h;try exact h1)
theorem VV {v:ω}{a b:Nat}(h:cw c s a= .ok (v,b)):v.length<=s.length:=by
 have h1:∀i j:Nat,(NW c ((s.take i).drop j)).length<=s.length:=λi j=>by
  have e1:((s.take i).drop j).length<=s.length:=by rw[k_,i_];omega
  unfold NW;split
  ·exact aai (sR _) e1
  ·exact e1
 unfold cw at h
 (repeat' split at h)<;>(cases h;try exact h1 _ _)
theorem D5:∀(n:Nat) {a:Nat} {acc:List ω},s.length-a<=n->a<=s.length->ei c s a acc= .bad e p->p<=s.length
 |n,a,acc,hn,ha,h=>by
  cases hv:cw c s a with
  |bad e' p'=>rw[gH hv] at h;cases h;exact Su ha hv
  |ok x=>
   obtain⟨v,d⟩:=x;have h1:=jg hv;cases hb:eJ s d 44 with
   |true=>
    have h2:=cK.1 hb;rw[mX hv hb] at h;cases n with
    |zero=>omega
    |succ n=>exact D5 n a_ a_ h
   |false=>rw[lv hv hb] at h;cases h
theorem JT:∀(n:Nat) {a b:Nat} {acc vs:List ω},s.length-a<=n->(∀v∈acc,v.length<=s.length)->ei c s a acc= .ok (vs,b)->∀v∈vs,v.length<=s.length
 |n,a,b,acc,vs,hn,h0,h=>by
  cases hv:cw c s a with
  |bad e' p'=>rw[gH hv] at h;cases h
  |ok x=>
   obtain⟨v,d⟩:=x;have h1:=jg hv;have h3:∀u∈acc++[v],u.length<=s.length:=λu hu=>by
    rcases List.mem_append.1 hu with hu|hu
    ·exact h0 u hu
    ·rw[List.mem_singleton.1 hu];exact VV hv
   cases hb:eJ s d 44 with
   |true=>
    have h2:=cK.1 hb;rw[mX hv hb] at h;cases n with
    |zero=>omega
    |succ n=>exact JT n a_ h3 h
   |false=>rw[lv hv hb] at h;cases h;exact h3
theorem Fe:∀(n:Nat) {a:Nat} {acc:List Pr},s.length-a<=n->a<=s.length->cG c s a acc= .bad e p->p<=s.length
 |n,a,acc,hn,ha,h=>by
  cases hq:eJ s a 59 with
  |false=>rw[iW hq] at h;cases h
  |true=>
   have h1:=(cK.1 hq).1;cases hw:bF s (a+1) with
   |bad e' p'=>rw[gx hq hw] at h;cases h;exact wB h1 hw
   |ok x=>
    obtain⟨w,j⟩:=x;have h2:=de hw;have h4:=h2.2.1 h1;cases hj:eJ s j 61 with
    |false=>rw[kA hq hw hj] at h;cases h;exact h4
    |true=>
     have h5:=(cK.1 hj).1;cases hv:ei c s (j+1) [] with
     |bad e' p'=>rw[fe hq hw hj hv] at h;cases h;exact D5 _ (Nat.le_refl _) h5 hv
     |ok x=>
      obtain⟨vs,d⟩:=x;have h3:=ki _ (Nat.le_refl _) hv;by_cases h20:acc.length=20
      ·rw[iV hq hw hj hv h20] at h;cases h;exact h1
      ·rw[ky hq hw hj hv h20] at h;cases n with
       |zero=>omega
       |succ n=>exact Fe n a_ (h3.2.1 h5) h
def Pr.in (n:Nat)(q:Pr):Prop:=q.n.length<=n/\q.vs.length<=n+1/\∀v∈q.vs,v.length<=n
theorem Kx:∀(n:Nat) {a b:Nat} {acc ps:List Pr},s.length-a<=n->(∀q∈acc,q.in s.length)->cG c s a acc= .ok (ps,b)->∀q∈ps,q.in s.length
 |n,a,b,acc,ps,hn,h0,h=>by
  cases hq:eJ s a 59 with
  |false=>rw[iW hq] at h;cases h;exact h0
  |true=>
   have h1:=(cK.1 hq).1;cases hw:bF s (a+1) with
   |bad e' p'=>rw[gx hq hw] at h;cases h
   |ok x=>
    obtain⟨w,j⟩:=x;have h2:=de hw;have h4:=h2.2.1 h1;cases hj:eJ s j 61 with
    |false=>rw[kA hq hw hj] at h;cases h
    |true=>
     have h5:=(cK.1 hj).1;cases hv:ei c s (j+1) [] with
     |bad e' p'=>rw[fe hq hw hj hv] at h;cases h
     |ok x=>
      obtain⟨vs,d⟩:=x;have h3:=ki _ (Nat.le_refl _) hv;by_cases h20:acc.length=20
      ·rw[iV hq hw hj hv h20] at h;cases h
      ·rw[ky hq hw hj hv h20] at h;cases n with
       |zero=>omega
       |succ n=>
        refine Kx n a_ (λq hq=> ?_) h
        rcases List.mem_append.1 hq with hq|hq
        ·exact h0 q hq
        ·rw[List.mem_singleton.1 hq]
         have:=h3.2.1 h5
         have:=h3.2.2.2
         rw[E_] at this
         refine⟨?_,by show vs.length<=_;omega,JT _ (Nat.le_refl _) (λv hv=>by cases hv) hv⟩
         show w.length<=_
         rw[h2.2.2.1,k_,i_]
         omega
theorem Qb (c:Bool)(s:ω):(rE c s).in s.length:=by
 unfold rE;cases hl:dI c s with
 |ok l=>trivial
 |bad e p=>
  suffices h:p<=s.length from⟨Int.natCast_nonneg p,a_⟩
  unfold dI at hl;split at hl
  ·cases hh:fI s with
   |bad e' p'=>
    rw[hh] at hl;cases hl;unfold fI at hh;cases hw:bF s 0 with
    |bad e'' p''=>rw[hw] at hh;cases hh;exact wB (Nat.zero_le _) hw
    |ok x=>
     obtain⟨w,j⟩:=x;rw[hw] at hh;dsimp only at hh;split at hh
     ·rename_i hj;cases hv:bF s (j+1) with
      |bad e'' p''=>rw[hv] at hh;cases hh;exact wB (cK.1 hj).1 hv
      |ok x=>rw[hv] at hh;cases hh
     ·cases hh
   |ok x=>
    obtain⟨⟨g,n⟩,a⟩:=x;have ha:a<=s.length:=by
     unfold fI at hh;cases hw:bF s 0 with
     |bad e'' p''=>rw[hw] at hh;cases hh
     |ok x=>
      obtain⟨w,j⟩:=x;have g1:=(de hw).2.1 (Nat.zero_le _);rw[hw] at hh;dsimp only at hh;split at hh
      ·rename_i hj;cases hv:bF s (j+1) with
       |bad e'' p''=>rw[hv] at hh;cases hh
       |ok x=>
        obtain⟨w2,j2⟩:=x;rw[hv] at hh;cases hh;exact(de hv).2.1 (cK.1 hj).1
      ·cases hh;exact g1
    rw[hh] at hl;dsimp only at hl;cases hp:cG c s a [] with
    |bad e' p'=>rw[hp] at hl;cases hl;exact Fe _ (Nat.le_refl _) ha hp
    |ok x=>
     obtain⟨ps,b⟩:=x;have hb:=(xQ _ (Nat.le_refl _) hp).2 ha;rw[hp] at hl;dsimp only at hl;unfold jk at hl;split at hl
     ·rename_i hq;have hq:=(cK.1 hq).1;split at hl
      ·cases hl
      ·cases hl;rcases gB (iJ false) (s.drop (b+1)) with⟨g1,_⟩|⟨m,g1,g2,_⟩
       ·omega
       ·rw[k_] at g1;omega
     ·cases hl;exact hb
  ·rename_i hb;cases hl;unfold dm at hb ⊢;cases hq:kY s with
   |none=>rw[hq] at hb;exact absurd b_ hb
   |some i=>
    have:=LH _ hq;show(i:Int).toNat<=_;omega
theorem Iy (c:Bool)(s:ω):(jb c s).n.length<=s.length/\(jb c s).v.length<=s.length/\∀q∈(jb c s).ps,q.in s.length:=by
 unfold jb;cases hl:dI c s with
 |bad e p=>exact⟨Nat.zero_le _,Nat.zero_le _,λq hq=>by cases hq⟩
 |ok l=>
  unfold dI at hl;split at hl
  ·cases hh:fI s with
   |bad e p=>rw[hh] at hl;cases hl
   |ok x=>
    obtain⟨⟨g,n⟩,a⟩:=x;have hn:n.length<=s.length:=by
     unfold fI at hh;cases hw:bF s 0 with
     |bad e'' p''=>rw[hw] at hh;cases hh
     |ok x=>
      obtain⟨w,j⟩:=x;have g1:=(de hw).2.2.1;rw[hw] at hh;dsimp only at hh;split at hh
      ·cases hv:bF s (j+1) with
       |bad e'' p''=>rw[hv] at hh;cases hh
       |ok x=>
        obtain⟨w2,j2⟩:=x;have g2:=(de hv).2.2.1;rw[hv] at hh;cases hh;rw[g2,k_,i_];omega
      ·cases hh;rw[g1,k_,i_];omega
    rw[hh] at hl;dsimp only at hl;cases hp:cG c s a [] with
    |bad e p=>rw[hp] at hl;cases hl
    |ok x=>
     obtain⟨ps,b⟩:=x;rw[hp] at hl;dsimp only at hl;have hb:=Kx _ (Nat.le_refl _) (λq hq=>by cases hq) hp;unfold jk at hl
     (repeat' split at hl)<;>first|(cases hl;exact⟨hn,by show(s.drop _).length<=_;rw[k_];omega,hb⟩)|cases hl
  ·cases hl
end
theorem Di:∀(s:ω) (i:Nat),(a8 s i).in (i+s.length)
 |[],_=>trivial
 |[c],i=>by
  unfold a8;split
  ·exact⟨Int.natCast_nonneg _,Int.le_refl _⟩
  ·trivial
 |c::d::r,i=>by
  have h1:=Di r (i+2);have h2:=Di (d::r) (i+1);rw[show i+(c::d::r).length=i+2+r.length by simp only[j_];omega];rw[show i+1+(d::r).length=i+2+r.length by simp only[j_];omega] at h2;unfold a8;split
  ·split
   ·exact h1
   ·exact⟨Int.natCast_nonneg _,a_⟩
  ·exact h2
theorem Sy (s:ω):(gJ s).in s.length:=by
 unfold gJ;split
 ·trivial
 ·split
  ·rename_i h;rcases gB fB s with⟨g1,_⟩|⟨m,g1,g2,_⟩
   ·omega
   ·exact⟨h,a_⟩
  ·split
   ·exact⟨Int.natCast_nonneg _,Int.le_refl _⟩
   ·trivial
def HC:List ω->Nat
 |[]=>0
 |x::l=>x.length+1+HC l
theorem Ei (c:UInt8):∀s:ω,HC (bW c s)=s.length+1
 |[]=>rfl
 |x::t=>by
  have ih:=Ei c t;unfold bW;split
  ·simp only[HC,ih,E_,j_];omega
  ·cases hq:bW c t with
   |nil=>exact absurd hq (pO c t)
   |cons p ps=>
    rw[hq] at ih;simp only[HC,j_] at ih ⊢
    omega
theorem MC (f:Bool)(a:Nat)(x:ω):(eP f a x).in (a+x.length):=by
 unfold eP;split
 ·rename_i h;rcases gB (λc=> !vR f c) x with⟨g1,_⟩|⟨m,g1,g2,_⟩
  ·omega
  ·exact⟨a_,a_⟩
 ·split
  ·exact⟨Int.natCast_nonneg _,a_⟩
  ·split
   ·exact⟨Int.natCast_nonneg _,a_⟩
   ·trivial
theorem Err.in_le {n m:Nat}(hn:n<=m):∀{x:Err},x.in n->x.in m
 |.none,_=>trivial
 |.errno _,_=>trivial
 |.atp _ _,h=>⟨h.1,by have:=h.2;omega⟩
theorem FN:∀(l:List ω) (f:Bool) (a:Nat),(fj f a l).in (a+HC l)
 |[],_,_=>trivial
 |x::l,f,a=>by
  unfold fj;split
  ·exact Err.in_le (by simp only[HC];omega) (FN l false (a+x.length+1))
  ·exact Err.in_le (by simp only[HC];omega) (MC f a x)
theorem N9 (s:ω)(k:Int):(nx s k).2.in (s.length+1):=by
 have h0:(om s k).2.in (s.length+1):=by
  have h1:(a8 s 0).in (s.length+1):=Err.in_le a_ (Di s 0);have h2:(gJ s).in (s.length+1):=Err.in_le a_ (Sy s);have h3:(dJ s).in (s.length+1):=by
   have:=FN (bW 45 s) true 0;rw[Ei] at this;exact Err.in_le a_ this
  have h4:(ig s).in (s.length+1):=by
   unfold ig;split<;>trivial
  have h5:(Ha s).2.in (s.length+1):=by
   unfold Ha mJ pn
   (repeat' split)<;>trivial
  unfold om
  (repeat' split)<;>first|assumption|trivial
 unfold nx;split
 ·trivial
 ·split
  ·trivial
  ·split
   ·exact h0
   ·exact h0
def NX (v:Int)(s:ω):Int:=jH v (jb (bV v 4) s).n (jb (bV v 4) s).ps
def y6 (v:Int)(s:ω):Vl×Err:=nx (jb (bV v 4) s).v (NX v s)
def jd (v:Int)(l:LineS):Err:=
 if v=3\/v=4 then
  match rE (bV v 4) l.t with
  |.none=>match (y6 v l.t).2 with
   |.none=>.none
   |x=>.atp x.e (cO l ((l.t.length:Int)-(jb (bV v 4) l.t).v.length+max 0 x.p) l.f.length)
  |x=>.atp x.e (cO l x.p l.f.length)
 else .errno 1
def px (v:Int)(l:LineS):Ln×Vl:=match jd v l with
 |.none=>(jb (bV v 4) l.t,(y6 v l.t).1)
 |_=>(Ln.no,Vl.no)
end
section
def Vd (s:ω):Prop:=kY s=none
theorem Oc:Vd []:=rfl
theorem JS {s:ω}(h0:s.length≠0)(h:(aC s).2≠0):Vd s↔Vd (s.drop (aC s).2):=by
 unfold Vd kY;obtain⟨k,hk⟩:=Nat.exists_eq_succ_of_ne_zero h0;conv=>lhs;rw[hk]
 simp only[uw];rw[if_neg h0,if_neg h,BJ k (s.drop (aC s).2) (by rw[k_];omega)];cases uw (s.drop (aC s).2).length (s.drop (aC s).2)<;>simp
theorem Yt {s:ω}(h0:s.length≠0)(h:Vd s):(aC s).2≠0:=by
 intro hn;unfold Vd kY at h;obtain⟨k,hk⟩:=Nat.exists_eq_succ_of_ne_zero h0;rw[hk] at h;simp only[uw] at h;rw[if_neg h0,if_pos hn] at h;cases h
theorem fZ {a b:ω}{k:Nat}(h:k<a.length):aa (a++b) k=aa a k:=by
 unfold aa;rw[f_,f_,H_ h]
theorem nq {a b:ω}{k:Nat}(h:ca a k=true):ca (a++b) k=true:=by
 unfold ca at h ⊢;rw[l_,n_] at h;rw[fZ h.1,h.2,Bool.and_true,n_,d_];omega
theorem iG {a:ω}{k:Nat}(h:ca a k=true):k<a.length/\128<=aa a k:=by
 unfold ca at h;rw[l_,n_] at h;have:=eq_of_beq h.2;exact⟨h.1,a_⟩
inductive NM (s:ω):Nat->Prop
 |one:s.length≠0->aa s 0<128->NM s 1
 |two:s.length≠0->¬aa s 0<128->aa s 0/32=6->ca s 1=true->128<=BC s->ll (BC s)=true->NM s 2
 |three:s.length≠0->¬aa s 0<128->aa s 0/16=14->ca s 1=true->ca s 2=true->2048<=BB s->ll (BB s)=true->NM s 3
 |four:s.length≠0->¬aa s 0<128->aa s 0/8=30->ca s 1=true->ca s 2=true->ca s 3=true->65536<=BA s->ll (BA s)=true->NM s 4
theorem YP {s:ω}(h:(aC s).2≠0):NM s (aC s).2:=by
 by_cases h0:s.length=0
 ·exact absurd (by unfold aC;rw[if_pos h0]) h
 by_cases h1:aa s 0<128
 ·have e:aC s=(aa s 0,1):=by unfold aC;rw[if_neg h0,if_pos h1]
  rw[e];exact .one h0 h1
 by_cases h2:aa s 0/32=6
 ·have e:aC s=if ca s 1&&decide (128<=BC s)&&ll (BC s) then(BC s,2) else(0,0):=by unfold aC;rw[if_neg h0,if_neg h1,if_pos h2]
  rw[e] at h ⊢
  split at h
  ·rename_i hc
   rw[if_pos hc]
   simp only[l_,n_] at hc
   exact .two h0 h1 h2 hc.1.1 hc.1.2 hc.2
  ·exact absurd rfl h
 by_cases h3:aa s 0/16=14
 ·have e:aC s=if ca s 1&&ca s 2&&decide (2048<=BB s)&&ll (BB s) then(BB s,3) else(0,0):=by unfold aC;rw[if_neg h0,if_neg h1,if_neg h2,if_pos h3]
  rw[e] at h ⊢
  split at h
  ·rename_i hc
   rw[if_pos hc]
   simp only[l_,n_] at hc
   exact .three h0 h1 h3 hc.1.1.1 hc.1.1.2 hc.1.2 hc.2
  ·exact absurd rfl h
 by_cases h4:aa s 0/8=30
 ·have e:aC s=if ca s 1&&ca s 2&&ca s 3&&decide (65536<=BA s)&&ll (BA s) then(BA s,4) else(0,0):=by unfold aC;rw[if_neg h0,if_neg h1,if_neg h2,if_neg h3,if_pos h4]
  rw[e] at h ⊢
  split at h
  ·rename_i hc
   rw[if_pos hc]
   simp only[l_,n_] at hc
   exact .four h0 h1 h4 hc.1.1.1.1 hc.1.1.1.2 hc.1.1.2 hc.1.2 hc.2
  ·exact absurd rfl h
 ·exact absurd (by unfold aC;rw[if_neg h0,if_neg h1,if_neg h2,if_neg h3,if_neg h4]) h
theorem YO {s:ω}{n:Nat}(h:NM s n):(aC s).2=n:=by
 cases h with
 |one h0 h1=>unfold aC;rw[if_neg h0,if_pos h1]
 |two h0 h1 h2 c1 p m=>unfold aC;rw[if_neg h0,if_neg h1,if_pos h2,if_pos (by simp[c1,p,m])]
 |three h0 h1 h3 c1 c2 p m=>
  unfold aC;rw[if_neg h0,if_neg h1,if_neg a_,if_pos h3,if_pos (by simp[c1,c2,p,m])]
 |four h0 h1 h4 c1 c2 c3 p m=>
  unfold aC;rw[if_neg h0,if_neg h1,if_neg a_,if_neg a_,if_pos h4,if_pos (by simp[c1,c2,c3,p,m])]
theorem WJ {a b:ω}{n:Nat}(h:NM a n):NM (a++b) n:=by
 have hl:a.length≠0->(a++b).length≠0:=λh=>by rw[d_];omega
 cases h with
 |one h0 h1=>exact .one (hl h0) (by rwa [fZ a_])
 |two h0 h1 h2 c1 p m=>
  have e0:=fZ (b:=b) (show 0<a.length by omega)
  have e1:=fZ (b:=b) (iG c1).1
  have e:BC (a++b)=BC a:=by unfold BC;rw[e0,e1]
  exact .two (hl h0) (by rwa [e0]) (by rwa [e0]) (nq c1) (by rwa [e]) (by rwa [e])
 |three h0 h1 h2 c1 c2 p m=>
  have e0:=fZ (b:=b) (show 0<a.length by omega)
  have e:BB (a++b)=BB a:=by unfold BB;rw[e0,fZ (iG c1).1,fZ (iG c2).1]
  exact .three (hl h0) (by rwa [e0]) (by rwa [e0]) (nq c1) (nq c2) (by rwa [e]) (by rwa [e])
 |four h0 h1 h2 c1 c2 c3 p m=>
  have e0:=fZ (b:=b) (show 0<a.length by omega)
  have e:BA (a++b)=BA a:=by unfold BA;rw[e0,fZ (iG c1).1,fZ (iG c2).1,fZ (iG c3).1]
  exact .four (hl h0) (by rwa [e0]) (by rwa [e0]) (nq c1) (nq c2) (nq c3) (by rwa [e]) (by rwa [e])
theorem KC {a:ω}{n:Nat}(h:NM a n):0<n/\n<=a.length/\(n=1->aa a 0<128)/\(n≠1->∀k,k<n->128<=aa a k):=by
 cases h with
 |one h0 h1=>exact⟨a_,a_,λ_=>h1,λh=>absurd rfl h⟩
 |two h0 h1 h2 c1 p m=>
  have:=iG c1;exact⟨a_,a_,λh=>by omega,λ_ k hk=>by match k,hk with|0,_=>omega|1,_=>exact this.2⟩
 |three h0 h1 h2 c1 c2 p m=>
  have:=iG c1;have:=iG c2;exact⟨a_,a_,λh=>by omega,λ_ k hk=>by match k,hk with|0,_=>omega|1,_=>omega|2,_=>omega⟩
 |four h0 h1 h2 c1 c2 c3 p m=>
  have:=iG c1;have:=iG c2;have:=iG c3;exact⟨a_,a_,λh=>by omega,λ_ k hk=>by match k,hk with|0,_=>omega|1,_=>omega|2,_=>omega|3,_=>omega⟩
theorem Tv {a:ω}{n:Nat}(h:NM a n):NM (a.take n) n:=by
 have hle:=KC h;have hl:(a.take n).length=n:=by rw[i_];omega
 have hb:∀k,k<n->aa (a.take n) k=aa a k:=λk hk=>by
  conv=>rhs;rw[<-List.take_append_drop n a]
  rw[fZ a_]
 have hc:∀k,k<n->ca a k=true->ca (a.take n) k=true:=λk hk h=>by
  unfold ca at h ⊢;rw[l_] at h;rw[hb k hk,h.2,hl,Bool.and_true,n_];exact hk
 cases h with
 |one h0 h1=>exact .one a_ (by rwa [hb 0 a_])
 |two h0 h1 h2 c1 p m=>
  have e:BC (a.take 2)=BC a:=by unfold BC;rw[hb 0 a_,hb 1 a_]
  exact .two a_ (by rwa [hb 0 a_]) (by rwa [hb 0 a_]) (hc 1 a_ c1) (by rwa [e]) (by rwa [e])
 |three h0 h1 h2 c1 c2 p m=>
  have e:BB (a.take 3)=BB a:=by unfold BB;rw[hb 0 a_,hb 1 a_,hb 2 a_]
  exact .three a_ (by rwa [hb 0 a_]) (by rwa [hb 0 a_]) (hc 1 a_ c1) (hc 2 a_ c2) (by rwa [e]) (by rwa [e])
 |four h0 h1 h2 c1 c2 c3 p m=>
  have e:BA (a.take 4)=BA a:=by unfold BA;rw[hb 0 a_,hb 1 a_,hb 2 a_,hb 3 a_]
  exact .four a_ (by rwa [hb 0 a_]) (by rwa [hb 0 a_]) (hc 1 a_ c1) (hc 2 a_ c2) (hc 3 a_ c3) (by rwa [e]) (by rwa [e])
theorem Od {p:ω->Prop}(h0:p [])(h1:∀a b:ω,NM a a.length->Vd b->p b->p (a++b)):∀s,Vd s->p s:=by
 intro s;induction hn:s.length using Nat.strongRecOn generalizing s with
 |_ n ih=>
  intro hv;by_cases hz:s.length=0
  ·rw[List.length_eq_zero_iff.1 hz];exact h0
  have hne:=Yt hz hv;have hx:=YP hne;have hle:=KC hx;have hd:=(JS hz hne).1 hv;have:=h1 (s.take (aC s).2) (s.drop (aC s).2) (by rw[i_,Nat.min_eq_left hle.2.1];exact Tv hx) hd (ih _ (by rw[k_];omega) _ rfl hd);rwa [List.take_append_drop] at this
theorem BU {a b:ω}(h:NM a a.length)(hb:Vd b):Vd (a++b):=by
 have hx:=YO (WJ (b:=b) h);have hle:=KC h;refine(JS (by rw[d_];omega) a_).2 ?_;rw[hx,List.drop_left];exact hb
theorem Oe {a b:ω}(ha:Vd a)(hb:Vd b):Vd (a++b):=by
 refine Od (p:=λa=>Vd (a++b)) hb (λx y hx _ ih=> ?_) a ha;rw[An];exact BU hx ih
theorem wG:∀{s:ω},(∀c∈s,c.toNat<128)->Vd s
 |[],_=>Oc
 |c::t,h=>BU (a:=[c]) (.one (by simp) (h c (z_ ..))) (wG λx hx=>h x (List.mem_cons_of_mem _ hx))
theorem Je {c:UInt8}(h:c.toNat<128):∀x∈escF c,x.toNat<128:=by
 unfold escF;intro x hx;split at hx
 ·simp only[p_,t_,or_false] at hx;rcases hx with rfl|rfl<;>decide
 split at hx
 ·simp only[p_,t_,or_false] at hx;rcases hx with rfl|rfl<;>decide
 split at hx
 ·simp only[p_,t_,or_false] at hx;rcases hx with rfl|rfl<;>decide
 split at hx
 ·simp only[p_,t_,or_false] at hx;rcases hx with rfl|rfl<;>decide
 ·simp only[p_,t_,or_false] at hx;rw[hx];exact h
theorem Uh {c:UInt8}(h:128<=c.toNat):escF c=[c]:=by
 unfold escF;rw[if_neg (λe=>by rw[e] at h;exact absurd h b_),if_neg (λe=>by rw[e] at h;exact absurd h b_),if_neg (λe=>by rw[e] at h;exact absurd h b_),if_neg (λe=>by rw[e] at h;exact absurd h b_)]
theorem Lh:∀{s:ω},(∀c∈s,128<=c.toNat)->escS s=s
 |[],_=>rfl
 |c::t,h=>by
  have ih:=Lh (s:=t) λx hx=>h x (List.mem_cons_of_mem _ hx);unfold escS at ih ⊢;rw[O_,ih,Uh (h c (z_ ..))];rfl
theorem VT {s:ω}(h:Vd s):Vd (escS s):=by
 refine Od (p:=λs=>Vd (escS s)) Oc (λa b ha _ ih=> ?_) s h;have e:escS (a++b)=escS a++escS b:=by unfold escS;exact List.flatMap_append
 rw[e];have hle:=KC ha;have hmem:∀c∈a,∃k,k<a.length/\c.toNat=aa a k:=λc hc=>by
  obtain⟨i,hi,rfl⟩:=D_ hc;exact⟨i,hi,by unfold aa;rw[f_,y_ hi];rfl⟩
 by_cases h1:a.length=1
 ·refine Oe (wG λx hx=> ?_) ih;unfold escS at hx;obtain⟨c,hc,hx⟩:=List.mem_flatMap.1 hx;obtain⟨k,hk,e⟩:=hmem c hc;have:=hle.2.2.1 h1;rw[show k=0 by omega] at e;exact Je a_ x hx
 ·rw[Lh λc hc=>by
   obtain⟨k,hk,e⟩:=hmem c hc;rw[e];exact hle.2.2.2 h1 k hk]
  exact BU ha ih
theorem qg {b:Bool}{s:ω}:fo b s=true↔Vd s/\∀c∈s,iJ b (c.toNat:Int)=false:=by
 unfold fo;rw[n_];refine and_congr ?_ ?_
 ·unfold dm Vd;cases kY s with
  |none=>simp
  |some i=>simp
 ·rcases gB (iJ b) s with⟨h1,h2⟩|⟨m,h1,h2,h3,_⟩
  ·refine⟨λ_ c hc=> ?_,λ_=>by omega⟩;obtain⟨i,hi,rfl⟩:=D_ hc;have:=h2 i hi;unfold aa at this;rwa [f_,y_ hi] at this
  ·refine⟨λh=>by omega,λh=> ?_⟩;have:=h s[m] (K_ h1);unfold aa at h3;rw[f_,y_ h1] at h3;rw[aam,this] at h3;cases h3
theorem Y0 {b:Bool}{c:Nat}(h1:32<=c)(h2:c≠127):iJ b (c:Int)=false:=by
 unfold iJ;rw[aaf];omega
def Gd (s:ω):Prop:=∀c∈s,32<=c.toNat/\c.toNat<127
theorem kP:Gd []:=λc h=>by cases h
theorem dU {a b:ω}(ha:Gd a)(hb:Gd b):Gd (a++b):=λc h=>(List.mem_append.1 h).elim (ha c) (hb c)
theorem sC {s:ω}(h:Gd s):fo false s=true:=qg.2 ⟨wG λc hc=>by have:=h c hc;omega,λc hc=>by have:=h c hc;exact Y0 a_ a_⟩
theorem F9 {vs:List Int}(h:∀v∈vs,32<=v/\v<127):Gd (cf vs):=λc hc=>by
 unfold cf at hc;obtain⟨v,hv,rfl⟩:=List.mem_map.1 hc;have:=h v hv;rw[UInt8.toNat_ofNat'];omega
theorem ff {n:Int}(h0:0<=n)(h1:n<=99):Gd (eO n):=by
 refine F9 λv hv=> ?_;simp only[p_,t_,or_false] at hv;rcases hv with rfl|rfl<;>omega
theorem Da {n:Int}(h0:0<=n)(h1:n<=9999):Gd (k6 n):=by
 refine F9 λv hv=> ?_;simp only[p_,t_,or_false] at hv;rcases hv with rfl|rfl|rfl|rfl<;>omega
theorem iL {s:ω}(h:s.all (λc=>decide (32<=c.toNat/\c.toNat<127))=true):Gd s:=λc hc=>of_decide_eq_true (List.all_eq_true.1 h c hc)
theorem I0 (n:Int):Gd (kJ n)/\(kJ n).length<=10:=by
 unfold kJ;cases hz:wo n with
 |false=>exact⟨kP,Nat.zero_le _⟩
 |true=>
  have hb:=wn.1 hz
  rw[if_pos rfl]
  split
  ·exact⟨iL rfl,b_⟩
  split
  ·exact⟨dU (dU (iL rfl) (ff a_ a_)) (ff a_ a_),by simp[eO,cf]⟩
  ·exact⟨dU (dU (iL rfl) (ff a_ a_)) (ff a_ a_),by simp[eO,cf]⟩
theorem T8 {a b c:Bool}{y m d:Int}(hy:a=true->0<=y/\y<=9999)(hm:b=true->0<=m/\m<=99)(hd:c=true->0<=d/\d<=99):Gd (qR a b c y m d)/\(qR a b c y m d).length<=20:=by
 cases a<;>cases b<;>cases c<;>simp only[qR]<;>refine⟨?_,by simp[k6,eO,cf]⟩
 ·exact kP
 ·exact dU (iL rfl) (ff (hd rfl).1 (hd rfl).2)
 ·exact dU (iL rfl) (ff (hm rfl).1 (hm rfl).2)
 ·exact dU (dU (iL rfl) (ff (hm rfl).1 (hm rfl).2)) (ff (hd rfl).1 (hd rfl).2)
 ·exact Da (hy rfl).1 (hy rfl).2
 ·exact kP
 ·exact dU (dU (Da (hy rfl).1 (hy rfl).2) (iL rfl)) (ff (hm rfl).1 (hm rfl).2)
 ·exact dU (dU (Da (hy rfl).1 (hy rfl).2) (ff (hm rfl).1 (hm rfl).2)) (ff (hd rfl).1 (hd rfl).2)
theorem T6 {a b c:Bool}{y m d:Int}(hy:a=true->0<=y/\y<=99)(hm:b=true->0<=m/\m<=99)(hd:c=true->0<=d/\d<=99):Gd (oH a b c y m d)/\(oH a b c y m d).length<=20:=by
 cases a<;>cases b<;>cases c<;>simp only[oH]<;>refine⟨?_,by simp[eO,cf]⟩
 ·exact kP
 ·exact dU (iL rfl) (ff (hd rfl).1 (hd rfl).2)
 ·exact dU (iL rfl) (ff (hm rfl).1 (hm rfl).2)
 ·exact dU (dU (iL rfl) (ff (hm rfl).1 (hm rfl).2)) (ff (hd rfl).1 (hd rfl).2)
 ·exact dU (iL rfl) (ff (hy rfl).1 (hy rfl).2)
 ·exact kP
 ·exact dU (dU (iL rfl) (ff (hy rfl).1 (hy rfl).2)) (ff (hm rfl).1 (hm rfl).2)
 ·exact dU (dU (dU (iL rfl) (ff (hy rfl).1 (hy rfl).2)) (ff (hm rfl).1 (hm rfl).2)) (ff (hd rfl).1 (hd rfl).2)
theorem QJ (t:Stm):Gd t.T/\t.T.length<=60:=by
 unfold Stm.T;split
 ·split
  ·rename_i _ h;unfold Stm.rng at h;simp only[l_,wD,oG] at h;obtain⟨h1,h2,h3,h4,h5,h6,_⟩:=h;have hday:t.day<=31:=by
    unfold Stm.day vB
    (repeat' split)<;>omega
   have d1:=T8 (a:=aZ t.y) (b:=aZ t.m) (c:=aZ t.d) (y:=t.y) (m:=t.m) (d:=t.d) (λh=>by rw[oG] at h;omega) (λh=>by rw[oG] at h;omega) (λh=>by rw[oG] at h;omega);have d2:=T6 (a:=aZ t.h) (b:=aZ t.i) (c:=aZ t.s) (y:=t.h) (m:=t.i) (d:=t.s) (λh=>by rw[oG] at h;omega) (λh=>by rw[oG] at h;omega) (λh=>by rw[oG] at h;omega);have d3:Gd (if t.z then kJ t.o else[])/\(if t.z then kJ t.o else[]).length<=10:=by
    split
    ·exact I0 _
    ·exact⟨kP,Nat.zero_le _⟩
   unfold Stm.txt;refine⟨dU (dU d1.1 d2.1) d3.1,?_⟩;rw[d_,d_];omega
  ·exact⟨kP,Nat.zero_le _⟩
 ·exact⟨kP,Nat.zero_le _⟩
theorem W6 {s:ω}(h:gJ s= .none):Gd s:=by
 unfold gJ at h;split at h
 ·cases h
 split at h
 ·cases h
 rename_i h2;rcases gB fB s with⟨_,g⟩|⟨m,g1,g2,_⟩
 ·intro c hc;obtain⟨i,hi,rfl⟩:=D_ hc;have:=xX.1 (g i hi);unfold aa at this;rw[f_,y_ hi,aam] at this;omega
 ·omega
theorem b_none {x:Err}(h:x.b= .none):x= .none:=by
 cases x with
 |none=>rfl
 |errno e=>cases h
 | atp e p=>cases h
theorem QK {f:Bool}{a:Nat}{x:ω}(h:(eP f a x).isNone=true):Gd x:=by
 unfold eP at h;split at h
 ·cases h
 rename_i h2;rcases gB (λc=> !vR f c) x with⟨_,g⟩|⟨m,g1,g2,_⟩
 ·intro c hc;obtain⟨i,hi,rfl⟩:=D_ hc;have:=g i hi;simp only[Bool.not_eq_false',vR,l_] at this;have:=(tZ).1 this.1;unfold aa at this;rw[f_,y_ hi,aam] at this;omega
 ·omega
theorem F8:∀{l:List ω} {f:Bool} {a:Nat},fj f a l= .none->∀x∈l,Gd x
 |[],_,_,_,x,h=>by cases h
 |y::l,f,a,h,x,hx=>by
  simp only[fj] at h;split at h
  ·rename_i hp;rcases List.mem_cons.1 hx with rfl|hx
   ·exact QK hp
   ·exact F8 h x hx
  ·rename_i hp;rw[h] at hp;exact absurd rfl hp
theorem C9 {c:UInt8}(h0:32<=c.toNat/\c.toNat<127):∀{s:ω},(∀x∈bW c s,Gd x)->Gd s
 |[],_=>kP
 |y::t,h=>by
  have h2:Gd t/\(32<=y.toNat/\y.toNat<127):=by
   by_cases hy:y=c
   ·rw[bW,if_pos hy] at h;exact⟨C9 h0 λx hx=>h x (List.mem_cons_of_mem _ hx),by rw[hy];exact h0⟩
   ·rw[bW,if_neg hy] at h;cases h1:bW c t with
    |nil=>
     rw[h1] at h;exact⟨C9 h0 λx hx=>(by rw[h1] at hx;cases hx),h [y] (z_ ..) y (z_ ..)⟩
    |cons p r=>
     rw[h1] at h;have g:=h (y::p) (z_ ..);refine⟨C9 h0 λx hx=> ?_,g y (z_ ..)⟩;rw[h1] at hx;rcases List.mem_cons.1 hx with rfl|hx
     ·exact λc hc=>g c (List.mem_cons_of_mem _ hc)
     ·exact h x (List.mem_cons_of_mem _ hx)
  exact λx hx=>by
   rcases List.mem_cons.1 hx with rfl|hx
   ·exact h2.2
   ·exact h2.1 x hx
theorem T7 {s:ω}(h:dJ s= .none):Gd s:=C9 (c:=45) b_ (F8 h)
theorem Qz {s:ω}(h:fo true s=true):fo false (escS s)=true:=by
 obtain⟨h1,h2⟩:=qg.1 h
 refine qg.2 ⟨VT h1,λc hc=> ?_⟩;unfold escS at hc;obtain⟨x,hx,hc⟩:=List.mem_flatMap.1 hc;have hx:=h2 x hx;unfold iJ at hx ⊢;rw[aaf] at hx ⊢;by_cases e0:x=10
 ·rw[e0] at hc;simp only[escF] at hc;have hc:c∈([92,110]:ω):=hc;simp only[p_,t_,or_false] at hc;rcases hc with rfl|rfl<;>decide
 have e10:x.toNat≠10:=λh=>e0 (UInt8.toNat_inj.1 h);unfold escF at hc;split at hc
 ·simp only[p_,t_,or_false] at hc;rcases hc with rfl|rfl<;>decide
 split at hc
 ·simp only[p_,t_,or_false] at hc;rcases hc with rfl|rfl<;>decide
 split at hc
 ·simp only[p_,t_,or_false] at hc;rcases hc with rfl|rfl<;>decide
 ·simp only[p_,t_,or_false] at hc;rw[hc]
  omega
theorem IW {a b:ω}(ha:fo false a=true)(hb:fo false b=true):fo false (a++b)=true:=by
 obtain⟨h1,h2⟩:=qg.1 ha;obtain⟨h3,h4⟩:=qg.1 hb;exact qg.2 ⟨Oe h1 h3,λc hc=>(List.mem_append.1 hc).elim (h2 c) (h4 c)⟩
theorem K4 {sep:ω}(hs:fo false sep=true):∀{l:List ω},(∀x∈l,fo false x=true)->fo false (Lib.joinTail sep l)=true
 |[],_=>sC kP
 |x::l,h=>by
  rw[show Lib.joinTail sep (x::l)=(sep++x)++Lib.joinTail sep l by simp[Lib.joinTail]];exact IW (IW hs (h x (z_ ..))) (K4 hs λy hy=>h y (List.mem_cons_of_mem _ hy))
theorem K5 {sep:ω}(hs:fo false sep=true){l:List ω}(h:∀x∈l,fo false x=true):fo false (Lib.join l sep)=true:=by
 cases l with
 |nil=>rw[Lib.join_nil];exact sC kP
 |cons x l=>rw[Lib.join_cons];exact IW (h x (z_ ..)) (K4 hs λy hy=>h y (List.mem_cons_of_mem _ hy))
theorem Qy {t:Int}{L:List (List ω)}(h:vp t L= .none):fo false (iH L)=true:=by
 unfold vp at h
 split at h
 ·cases h
 split at h
 ·cases h
 split at h
 ·rename_i h1 h2 h3
  unfold iH
  rw[if_neg h2]
  refine K5 (sC (iL rfl)) λx hx=> ?_
  obtain⟨l,hl,rfl⟩:=List.mem_map.1 hx
  unfold joinT
  refine K5 (sC (iL rfl)) λy hy=> ?_
  obtain⟨z,hz,rfl⟩:=List.mem_map.1 hy
  unfold QA at h3
  exact Qz (List.all_eq_true.1 (List.all_eq_true.1 h3 l hl) z hz)
 ·cases h
theorem Vl.T_hd (v:Vl):fo false v.T=true:=by
 unfold Vl.T;split
 ·rename_i h;unfold Vl.E at h;split at h
  ·cases h
  split
  ·rename_i h1;rw[if_neg a_,if_neg a_,if_neg a_,if_neg a_,if_neg a_] at h;split at h
   ·rename_i g;rw[decide_eq_true h1] at g;exact Qz g
   ·cases h
  split
  ·rename_i h1 h2;rw[if_pos h2] at h;exact Qy h
  split
  ·exact sC (QJ _).1
  split
  ·exact sC (I0 _).1
  ·rename_i h1 h2 h5 h6;rw[if_neg h2] at h;by_cases h4:v.t=4
   ·rw[if_pos h4] at h;exact sC (W6 (b_none h))
   rw[if_neg h4,if_neg h5,if_neg h6] at h;by_cases h7:v.t=7
   ·rw[if_pos h7] at h;exact sC (T7 (b_none h))
   rw[if_neg h7] at h;split at h
   ·rename_i g;rw[decide_eq_false h1] at g;exact g
   ·cases h
 ·exact sC kP
theorem Vl.T_len {v:Vl}(hs:v.s.length<=2000000)(hL:Small v.L):v.T.length<=140737488355328:=by
 unfold Vl.T;split
 ·split
  ·have:=(sK v.s).2;omega
  split
  ·unfold iH;split
   ·exact Nat.zero_le _
   ·refine yn (M:=6000000) (λx hx=> ?_) (by rw[C_];exact hL.n) (Nat.le_refl _);obtain⟨l,hl,rfl⟩:=List.mem_map.1 hx;obtain⟨i,hi,rfl⟩:=D_ hl;have h1:=hL.k i;rw[f_,y_ hi,aam] at h1;have:=qb v.L[i];omega
  split
  ·have:=(QJ v.st).2;omega
  split
  ·have:=(I0 v.n).2;omega
  ·omega
 ·exact Nat.zero_le _
end
section
abbrev Itm:=Ln×Vl
def Itm.z:Itm:=(⟨[],[],[],[]⟩,⟨0,[],[],⟨0,0,0,0,0,0,false,0⟩,0⟩)
instance:Inhabited Itm:=⟨Itm.z⟩
abbrev df (x:Itm):List AVal:=[.str x.1.g,.str x.1.n,.list 2 x.1.ps.length (gg x.1.ps),.int .i64 x.2.t,.str x.2.s,.list 1 x.2.L.length (gX x.2.L),.int .i64 x.2.st.y,.int .i64 x.2.st.m,.int .i64 x.2.st.d,.int .i64 x.2.st.h,.int .i64 x.2.st.i,.int .i64 x.2.st.s,.bool x.2.st.z,.int .i64 x.2.st.o,.int .i64 x.2.n]
def KV (x:Itm):AVal:=.agg (df x)
def dK (l:List Itm)(i:Nat):AVal:=KV (l.getD i Itm.z)
structure Crd where
 v:Int
 l:List Itm
def Crd.A (c:Crd):AVal:=.agg [.int .i64 c.v,.list 15 c.l.length (dK c.l)]
def Itm.p (x:Itm):Ln:=⟨x.1.g,x.1.n,x.1.ps,[]⟩
structure Itm.OK (N:Nat) (x:Itm):Prop where
 p:x.p.OK N
 s:x.2.s.length<=N
 L:Small x.2.L
theorem Itm.OK.mono {N M:Nat}(hN:N<=M){x:Itm}(h:x.OK N):x.OK M:=⟨h.p.mono hN,aai h.s hN,h.L⟩
def Crd.fine (c:Crd):Prop:=c.l.length<=70/\∀x∈c.l,Itm.OK 2500 x
theorem ud {p:Itm->Prop}{l:List Itm}(h:∀x∈l,p x){k:Nat}(hk:k<l.length):p (l.getD k Itm.z):=by
 rw[f_,y_ hk];exact h _ (K_ hk)
end
section
attribute [local irreducible] bJ au aa ax aR ab ad
theorem Ej {G:Glo}{m:Int}(hU:ab G (bQ m))(s:ω)(c:UInt8)(hl:s.length<100000):ai prog G 110 [.str s,.str [c]] (.tuple [.str (Lib.cut s [c]).1,.str (Lib.cut s [c]).2.1,.bool (Lib.cut s [c]).2.2]):=by
 refine iC (.tuple #[.string ⟨(Lib.cut s [c]).1.toArray⟩,.string ⟨(Lib.cut s [c]).2.1.toArray⟩,.bool (Lib.cut s [c]).2.2]) (λR=>Pd (aD.2 rfl) (aD.2 rfl) (aO.2 rfl)) call110 ?_;rintro R args ⟨x,t,e,hx,y,t',e',hy,rfl⟩ w hG hs;obtain rfl:=aD.1 hx;obtain rfl:=aD.1 hy;subst e';obtain rfl:=fR e;refine(strings_Cut ⟨s.toArray⟩ ⟨#[c]⟩ m w (by rw[bM];omega) (o7 hU hG hs)).mono ?_;rintro e w' ⟨rfl,k,rfl⟩;exact⟨by simp,⟨rfl,rfl,rfl,Nat.le_refl _,λ_ _=>rfl⟩⟩
theorem strconv_Itoa {G:Glo}(hP:fF G)(n:Nat)(hn:n≤9223372036854775807):ai prog G 188 [.int .i64 (n:Int)] (.str (Lib.decDigits n)):=by
 refine bO rfl call188 ?_
 rintro R args ⟨x,t,e,hx,rfl⟩ w hG hs
 obtain rfl:=ap.1 hx
 obtain rfl:=fR e
 have ht:Lib.TabIs prog w "internal/strconv.uint64pow10" .u64 Lib.pow10Tab:=by
  obtain⟨e,fz,hR⟩:=hP R hG
  have hg:prog.globalNamed "internal/strconv.uint64pow10" =some 10:=by kernel_rfl
  show w.var? prog "internal/strconv.uint64pow10" =_
  simp only[World.var?,hg,Option.bind_some,hs _ _ hR]
 refine(Tryz.strconv_Itoa n a_ a_ w ht).mono ?_
 rintro e w' ⟨rfl,k,os,rfl⟩
 refine⟨?_,⟨rfl,rfl,rfl,?_,fun b hb=> ?_⟩⟩
 ·have:Lib.itoa (n:Int)=Lib.decDigits n:=by unfold Lib.itoa;rw[if_neg a_];rfl
  rw[this]
  rfl
 ·show w.heap.size≤(w.heap++os).size
  rw[Array.size_append];omega
 ·show(w.heap++os)[b]? =w.heap[b]?
  rw[Array.getElem?_append_left hb]
end
section
def im (m:Nat)(s:ω):Bool:=(List.range m).any λi=>decide (Lib.decDigits (i+1)=s)
theorem Jr {m:Nat}{s:ω}:im m s=true↔∃n,1<=n/\n<=m/\Lib.decDigits n=s:=by
 unfold im;rw[List.any_eq_true];constructor
 ·rintro⟨i,hi,h⟩;exact⟨i+1,a_,by have:=List.mem_range.1 hi;omega,of_decide_eq_true h⟩
 ·rintro⟨n,h1,h2,h3⟩;exact⟨n-1,List.mem_range.2 a_,decide_eq_true (by rw[show n-1+1=n by omega];exact h3)⟩
theorem y5 {m:Nat}{s:ω}:im m s=false↔∀n,1<=n->n<=m->Lib.decDigits n≠s:=by
 rw[<-W_,Jr];exact⟨λh n h1 h2 h3=>h ⟨n,h1,h2,h3⟩,λh ⟨n,h1,h2,h3⟩=>h n h1 h2 h3⟩
def oX (v:ω):Bool:=im 999 (Lib.cut v [46]).1&&(!(Lib.cut v [46]).2.2||im 999 (Lib.cut v [46]).2.1)
def vA (n:ω)(vs:List ω):Bool:=
 if n=[86,65,76,85,69]\/n=[65,76,84,73,68]\/n=[77,69,68,73,65,84,89,80,69]\/n=[69,78,67,79,68,73,78,71] then decide (vs.length=1)
 else if n=[76,65,78,71,85,65,71,69] then decide (vs.length=1)&&(dJ (vs.getD 0 [])).isNone
 else if n=[80,82,69,70] then decide (vs.length=1)&&im 100 (vs.getD 0 [])
 else if n=[84,89,80,69] then vs.all isS&&decide (0<vs.length)
 else if n=[80,73,68] then vs.all oX&&decide (0<vs.length)
 else decide (0<vs.length)
def Pr.fit (q:Pr):Bool:=vA (am 97 122 (-32) q.n) q.vs
def Zt (s:ω)(a:AVal):Prop:=(∃n,a= .tuple [.int .i64 n,.raw .nilIface]/\Lib.atoiAll s= .ok n)\/(∃n t v,a= .tuple [.int .i64 n,.iface t (.raw v)]/\∀k,Lib.atoiAll s≠ .ok k)
def BP (g:Nat)(R:Seal):Prop:=∃t v e fz,R g=some (.cells #[.iface t v] e fz)
def pH (G:Glo):Prop:=∀R,G.p R->BP 8 R/\BP 9 R
theorem De {P:Program}{G:Glo}{f:FuncId}{avs:List AVal}{Qf:AVal->Prop}(hc:∀args w,(callFunc f args).run P w= .ok (.enter f args) w)
  (h:∀R args,dy R avs args.toList->∀w,G.p R->fh R w->Calls P f args w λe w'=>(∃u a,e= .returned u/\Qf a/\∀R,bn R a u)/\Below w.heap.size w w'):ad P G f avs [] (λr H=>(∃v,r= .ret v/\Qf v)/\H=[]):=by
 intro R w args hG hm ha;refine .inl ⟨hc args w,(h R args ha w hG hm.sealed).mono ?_⟩;rintro e w' ⟨⟨u,a,rfl,hq,hr⟩,hb⟩;refine⟨.ret a,[],R,⟨⟨a,rfl,hq⟩,rfl⟩,⟨_,rfl,hr R⟩,?_⟩;refine⟨?_,Seal.le_refl R,λ_ hb=>.inl hb,⟨λ_ h=>absurd h t_,List.nodup_nil,λ_ h=>absurd h t_⟩,λ_ h=>absurd h t_,
  ⟨hb.os,hb.tape,hb.output,hb.size,λb hlt _=>hb.block b hlt⟩⟩
 intro b o ho;have h1:=hm.sealed b o ho;have hlt:b<w.heap.size:=(Array.getElem?_eq_some_iff.1 h1).1;rw[hb.block b hlt,h1]
theorem Gp {g:Nat}{R:Seal}{w:World}(h:BP g R)(hs:fh R w):∃t v,w.cell? ⟨g,0,none⟩=some (.iface t v):=by
 obtain⟨t,v,e,fz,h⟩:=h;refine⟨t,v,?_⟩;unfold World.cell?;simp[hs _ _ h]
theorem B1 {G:Glo}(hE:pH G)(s:ω)(hl:s.length<=1000000):ad prog G 118 [.str s] [] (λr H=>(∃v,r= .ret v/\Zt s v)/\H=[]):=by
 refine De call118 ?_;intro R args hr w hG hs;obtain⟨x,t,e',hx,rfl⟩:=hr;obtain rfl:=aD.1 hx;obtain rfl:=fR e';have hsz:(⟨s.toArray⟩:ByteArray).size<=1000000:=by rw[bM];exact hl
 obtain⟨⟨t1,v1,c1⟩,t2,v2,c2⟩:(∃t v,w.cell? ⟨8,0,none⟩=some (.iface t v))/\∃t v,w.cell? ⟨9,0,none⟩=some (.iface t v):=⟨Gp (hE R hG).1 hs,Gp (hE R hG).2 hs⟩;cases ha:Lib.atoiAll s
 ·rename_i n;refine(strconv_Atoi_ok ⟨s.toArray⟩ a_ n (by simpa using ha) w).mono ?_;rintro e w' ⟨rfl,hw⟩;refine⟨⟨_,_,rfl,.inl ⟨n,rfl,ha⟩,λR=>nc (ap.2 rfl) (aq.2 rfl)⟩,?_⟩;rcases hw with rfl|⟨t,rfl⟩
  ·exact Below.refl _ _
  ·exact⟨rfl,rfl,rfl,by rw[Lib.bytesWorld_size];omega,λk hk=>Lib.bytesWorld_at_old _ _ _ _ hk⟩
 ·refine(strconv_Atoi_syntax ⟨s.toArray⟩ a_ (by simpa using ha) _ w c1 (.inr ⟨_,_,rfl⟩)).mono ?_;rintro e w' ⟨N,rfl,_,_,hb⟩;exact⟨⟨_,_,rfl,.inr ⟨0,_,_,rfl,λk h=>by rw[ha] at h;cases h⟩,λR=>nc (ap.2 rfl) ⟨⟨_,rfl,rfl,rfl⟩,rfl⟩⟩,hb⟩
 ·refine(strconv_Atoi_range ⟨s.toArray⟩ a_ (by simpa using ha) _ w c2 (.inr ⟨_,_,rfl⟩)).mono ?_;rintro e w' ⟨N,rfl,_,_,hb⟩;exact⟨⟨_,_,rfl,.inr ⟨_,_,_,rfl,λk h=>by rw[ha] at h;cases h⟩,λR=>nc (ap.2 rfl) ⟨⟨_,rfl,rfl,rfl⟩,rfl⟩⟩,hb⟩
theorem ze:∀k:Fin 1000,Lib.atoiAll (Lib.decDigits k.val)= .ok (k.val:Int):=by decide+kernel
attribute [local irreducible] bJ au aa ax aR ab ad
theorem nM {G:Glo}(hE:pH G)(hP:fF G)(s:ω)(m:Nat)(hl:s.length<=1000000)(hm:m<=999):ai prog G 164 [.str s,.int .i64 (m:Int)] (.bool (im m s)):=by
 have hA:=B1 hE s hl;have hI:=λn h=>strconv_Itoa (G:=G) hP n h;refine aw func164 call164 λC hC hGL=> ?_;refine aH ?_;intros;refine Xx hA ?_;rintro a (⟨n,rfl,h⟩|⟨n,t,v,rfl,h⟩)
 ·by_cases hn:1<=n/\n<=m
  ·obtain⟨k,rfl⟩:∃k:Nat,n=k:=⟨n.toNat,a_⟩;have hI:=hI k a_;have e:aW (Lib.decDigits k) s=im m s:=by
    cases hc:im m s with
    |true=>
     obtain⟨j,h1,h2,h3⟩:=Jr.1 hc;have:=ze ⟨j,a_⟩;rw[h3,h] at this;have e:(k:Int)=j:=by simpa using this
     rw[Int.ofNat.inj e,h3];exact ce.2 rfl
    |false=>exact kM.2 (y5.1 hc k a_ a_)
   rw[<-e]
   exact bq
  ·have e:im m s=false:=by
    refine y5.2 λj h1 h2 h3=>hn ?_
    have:=ze ⟨j,a_⟩
    rw[h3,h] at this
    have e:n=j:=by simpa using this
    omega
   rw[e]
   exact bq
 ·have e:im m s=false:=by
   refine y5.2 λj h1 h2 h3=>h (j:Int) ?_
   have:=ze ⟨j,a_⟩
   rwa [h3] at this
  rw[e]
  exact bq
end
section
abbrev prA (q:Pr):AVal:=.agg [.str q.n,.list 1 q.vs.length (aB q.vs)]
abbrev PP:ω:=[86,65,76,85,69]
abbrev PT:ω:=[65,76,84,73,68]
abbrev PQ:ω:=[77,69,68,73,65,84,89,80,69]
abbrev PS:ω:=[69,78,67,79,68,73,78,71]
abbrev zR:ω:=[76,65,78,71,85,65,71,69]
abbrev nPRE:ω:=[80,82,69,70]
abbrev nTYP:ω:=[84,89,80,69]
abbrev zQ:ω:=[80,73,68]
inductive NmC (n:ω):Prop
 |one (h:n=PP\/n=PT\/n=PQ\/n=PS)
 |lan (h:n=zR)
 |pre (h:n=nPRE)
 |typ (h:n=nTYP)
 |pid (h:n=zQ)
 |els (h1:n≠PP) (h2:n≠PT) (h3:n≠PQ) (h4:n≠PS) (h5:n≠zR) (h6:n≠nPRE) (h7:n≠nTYP) (h8:n≠zQ)
theorem ZM (n:ω):NmC n:=by
 by_cases h:n=PP\/n=PT\/n=PQ\/n=PS
 ·exact .one h
 simp only[not_or] at h;obtain⟨h1,h2,h3,h4⟩:=h;by_cases h5:n=zR
 ·exact .lan h5
 by_cases h6:n=nPRE
 ·exact .pre h6
 by_cases h7:n=nTYP
 ·exact .typ h7
 by_cases h8:n=zQ
 ·exact .pid h8
 exact .els h1 h2 h3 h4 h5 h6 h7 h8
theorem zi {p:ω->Bool}{l:List ω}(h:∀k,k<l.length->p (l.getD k [])=true):l.all p=true:=by
 rw[Bw];intro x hx;obtain⟨i,hi,rfl⟩:=D_ hx;have:=h i hi;rwa [f_,y_ hi] at this
theorem wi {p:ω->Bool}{l:List ω}{k:Nat}(hk:k<l.length)(h:p (l.getD k [])=false):l.all p=false:=by
 rw[List.all_eq_false];refine⟨l[k],K_ hk,?_⟩;rw[f_,y_ hk] at h;simpa using h
theorem Rj (s:ω)(c:UInt8):(Lib.cut s [c]).1.length<=s.length/\(Lib.cut s [c]).2.1.length<=s.length:=by
 unfold Lib.cut;split
 ·exact⟨List.length_take_le' ..,by dsimp only;rw[k_];omega⟩
 ·exact⟨Nat.le_refl _,Nat.zero_le _⟩
attribute [local irreducible] bJ au aa ax aR ab ad im dJ isS oX Lib.cut
theorem HW {G:Glo}{m:Int}(hE:pH G)(hP:fF G)(hM:ab G (bQ m))(q:Pr)(h0:q.n.length<=2000000)(h1:q.vs.length<=1000000)(h2:∀k,(q.vs.getD k []).length<=90000):ai prog G 113 [prA q] (.bool q.fit):=by
 have hU:=jV (G:=G) q.n a_;unfold Pr.fit;obtain⟨nm,vs⟩:=q;dsimp only at h0 h1 h2 hU ⊢;generalize am 97 122 (-32) nm=n at*
 cases ZM n with
 |one h=>
  have e:vA n vs=bV (vs.length:Int) 1:=by
   unfold vA;rw[if_pos h];unfold bV;exact decide_eq_decide.2 a_
  rw[e];rcases h with rfl|rfl|rfl|rfl
  all_goals
   refine aw func113 call113 λC hC hGL=> ?_;exact bq
 |lan h=>
  subst h;have hR:=rm (G:=G) (vs.getD 0 []) (by have:=h2 0;omega);have e:vA zR vs=(decide (vs.length=1)&&(dJ (vs.getD 0 [])).isNone):=rfl;rw[e];by_cases hv:vs.length=1
  ·rw[decide_eq_true hv];rcases hx:dJ (vs.getD 0 []) with _|e|⟨e,p⟩
   all_goals
    rw[hx] at hR;refine aw func113 call113 λC hC hGL=> ?_;exact bq
  ·rw[decide_eq_false hv];refine aw func113 call113 λC hC hGL=> ?_;exact bq
 |pre h=>
  subst h;have hR:=nM hE hP (vs.getD 0 []) 100 (by have:=h2 0;omega) b_;have e:vA nPRE vs=(decide (vs.length=1)&&im 100 (vs.getD 0 [])):=rfl;rw[e];by_cases hv:vs.length=1
  ·rw[decide_eq_true hv];refine aw func113 call113 λC hC hGL=> ?_;exact bq
  ·rw[decide_eq_false hv];refine aw func113 call113 λC hC hGL=> ?_;exact bq
 |typ h=>
  subst h;have e:vA nTYP vs=(vs.all isS&&nT 0 (vs.length:Int)):=by
   unfold nT;rw[show decide ((0:Int)<(vs.length:Int))=decide (0<vs.length) from decide_eq_decide.2 a_];rfl
  rw[e];refine aw func113 call113 λC hC hGL=> ?_;refine aH ?_;intros;refine lp hC hGL (λk:Nat=>[(1,.rop [.str nm,.list 1 vs.length (aB vs)] 0),(48,.list 1 vs.length (aB vs)),(49,.int .i64 (vs.length:Int)),(50,.int .i64 (k:Int))]) (λ_=>[]) (λk=>k<=vs.length/\∀j,j<k->isS (vs.getD j [])=true) (λk=>vs.length-k) 0 ⟨Nat.zero_le _,λj h=>absurd h (Uf _)⟩ ae rfl ?_;rintro k ⟨hk1,hk2⟩;by_cases hk:k<vs.length
  ·have hI:=p8 (G:=G) (vs.getD k []) (by have:=h2 k;omega);cases hs:isS (vs.getD k []) with
   |true=>
    rw[hs] at hI;refine aH ?_;intros;refine cQ (k+1) ⟨a_,λj hj=> ?_⟩ a_ ae rfl;rcases Nat.lt_or_eq_of_le (Nat.le_of_lt_succ hj) with h|rfl
    ·exact hk2 j h
    ·exact hs
   |false=>
    rw[hs] at hI;rw[wi hk hs];exact bq
  ·rw[zi λj hj=>hk2 j a_];exact bq
 |pid h=>
  subst h;have e:vA zQ vs=(vs.all oX&&nT 0 (vs.length:Int)):=by
   unfold nT;rw[show decide ((0:Int)<(vs.length:Int))=decide (0<vs.length) from decide_eq_decide.2 a_];rfl
  rw[e];refine aw func113 call113 λC hC hGL=> ?_;refine aH ?_;intros;refine lp hC hGL (λk:Nat=>[(1,.rop [.str nm,.list 1 vs.length (aB vs)] 0),(61,.list 1 vs.length (aB vs)),(62,.int .i64 (vs.length:Int)),(63,.int .i64 (k:Int))]) (λ_=>[]) (λk=>k<=vs.length/\∀j,j<k->oX (vs.getD j [])=true) (λk=>vs.length-k) 0 ⟨Nat.zero_le _,λj h=>absurd h (Uf _)⟩ ae rfl ?_;rintro k ⟨hk1,hk2⟩;by_cases hk:k<vs.length
  ·have hl:=h2 k;have hcut:=Ej (G:=G) hM (vs.getD k []) 46 a_;have hcl:=Rj (vs.getD k []) 46;have hp:oX (vs.getD k [])=(im 999 (Lib.cut (vs.getD k []) [46]).1&&(!(Lib.cut (vs.getD k []) [46]).2.2||im 999 (Lib.cut (vs.getD k []) [46]).2.1)):=by unfold oX;rfl
   generalize Lib.cut (vs.getD k []) [46]=cu at*
   obtain⟨a,b,tw⟩:=cu;dsimp only at hcut hcl hp;have hA:=nM hE hP a 999 a_ b_;have hB:=nM hE hP b 999 a_ b_;have go:oX (vs.getD k [])=true->k+1<=vs.length/\∀j,j<k+1->oX (vs.getD j [])=true:=λhs=>⟨a_,λj hj=>by
    rcases Nat.lt_or_eq_of_le (Nat.le_of_lt_succ hj) with h|rfl
    ·exact hk2 j h
    ·exact hs⟩
   cases ha:im 999 a with
   |false=>
    rw[ha] at hA hp;rw[wi hk hp];exact bq
   |true=>
    rw[ha] at hA hp;cases tw with
    |false=>
     refine aH ?_;intros;exact cQ (k+1) (go hp) a_ ae rfl
    |true=>
     cases hb:im 999 b with
     |true=>
      rw[hb] at hB hp;refine aH ?_;intros;exact cQ (k+1) (go hp) a_ ae rfl
     |false=>
      rw[hb] at hB hp;rw[wi hk hp];exact bq
  ·rw[zi λj hj=>hk2 j a_];exact bq
 |els h3 h4 h5 h6 h7 h8 h9 h10=>
  have e:vA n vs=nT 0 (vs.length:Int):=by
   unfold vA;rw[if_neg (by simp[*]),if_neg h7,if_neg h8,if_neg h9,if_neg h10];unfold nT;exact decide_eq_decide.2 a_
  rw[e];refine aw func113 call113 λC hC hGL=> ?_;exact bq
end
section
theorem Qo {c:Nat}(h:c<256):isS (cf [(c:Int)])=aU c:=by
 have hb:aa (cf [(c:Int)]) 0=c:=by
  unfold cf aa;simp;omega
 rw[w_,isS];have hl:(cf [(c:Int)]).length=1:=rfl;rw[hl];simp only[l_,uA,hl,n_];constructor
 ·intro h;have:=h.1 0 a_;rwa [hb] at this
 ·intro h;exact⟨λj hj=>by rw[show j=0 by omega,hb];exact h,a_,a_⟩
theorem IF {c:Int}(h:aU c=true)(hc:c≠45):(48<=c/\c<=57)↔c<=57:=by
 rw[tZ] at h;omega
theorem rn {b:Bool}{a:Nat}{x:ω}{xs:List ω}:fj b a (x::xs)=if(eP b a x).isNone then fj false (a+x.length+1) xs else eP b a x:=by rw[fj]
theorem CN {x:ω}(h:(45:UInt8)∉x){j:Nat}(hj:j<x.length):aa x j≠45:=by
 intro e;rw[bx hj] at e;exact h (by rw[<-show x[j]=45 from UInt8.toNat_inj.1 (by rw[e];rfl)];exact K_ hj)
theorem xN {first:Bool}{a:Nat}{x:ω}{i:Nat}(hi:i<x.length)(hb:vR first (aa x i:Int)=false)(h0:∀j,j<i->vR first (aa x j:Int)=true):eP first a x= .atp 3 ((a:Int)+i):=by
 have hf:gh (λc=> !vR first c) x=i:=mB hi (by rw[hb];rfl) (λj hj=>by rw[h0 j hj];rfl);unfold eP;rw[hf,if_pos a_]
theorem oW {first:Bool}{a:Nat}{x:ω}(h0:∀j,j<x.length->vR first (aa x j:Int)=true):eP first a x=if x.length=0 then .atp 7 a else if 8<x.length then .atp 4 a else .none:=by
 have hf:gh (λc=> !vR first c) x= -1:=iZ (λj hj=>by rw[h0 j hj];rfl);unfold eP;rw[hf,if_neg a_]
theorem pP (c:UInt8):∀s:ω,(bW c s).length<=s.length+1/\∀p,p∈bW c s->p.length<=s.length
 |[]=>⟨Nat.le_refl _,λp h=>by simp[bW] at h;subst h;exact Nat.le_refl _⟩
 |x::t=>by
  obtain⟨h1,h2⟩:=pP c t;by_cases hx:x=c
  ·rw[bW,if_pos hx];refine⟨by simp only[j_];omega,λp hp=> ?_⟩;rcases List.mem_cons.1 hp with rfl|hp
   ·simp
   ·have:=h2 p hp;simp only[j_];omega
  ·rw[bW,if_neg hx];cases h3:bW c t with
   |nil=>exact absurd h3 (pO c t)
   |cons q qs=>
    rw[h3] at h1 h2;refine⟨by simp only[j_] at*;omega,λp hp=> ?_⟩;rcases List.mem_cons.1 hp with rfl|hp
    ·have:=h2 q (by simp);simp only[j_];omega
    ·have:=h2 p (by simp[hp]);simp only[j_];omega
attribute [local irreducible] bJ au aa ax aR ab ad bW fj vR isS aU eP
theorem mM {G:Glo}{m:Int}(hM:ab G (bQ m))(s:ω)(hl:s.length<=10000):ai prog G 82 [.str s] (.agg [.int .i64 (dJ s).e,.int .i64 (dJ s).p]):=by
 have h1:=wV (G:=G) hM s 45 a_;have hgd:=fb (G:=G);have hmem:∀k,k<(bW 45 s).length->(45:UInt8)∉(bW 45 s).getD k []:=λk hk=>by
  rw[f_,y_ hk];exact rN (K_ hk)
 have hX:dJ s=fj true 0 (bW 45 s):=rfl;have hlen:∀p,p∈bW 45 s->p.length<=10000:=λp hp=>aai ((pP 45 s).2 p hp) hl;have hPl:(bW 45 s).length<=10001:=by have:=(pP 45 s).1;omega
 generalize bW 45 s=P at*
 refine aw func82 call82 λC hC hGL=> ?_;refine aH ?_;intros;rename Nat=>bl0
 refine lp hC hGL (λ(x:Nat×Nat)=>[(2,.own 0 (.pointer (some ⟨bl0,0,none⟩))),(3,.int .i64 x.2),(9,.list 1 P.length (aB P)),(10,.int .i64 P.length),(11,.int .i64 x.1)]) (λ_=>[.cells bl0 (some 25) [.int .i64 0,.int .i64 0]]) (λx=>x.1<=P.length/\x.2<=4000*x.1/\dJ s=fj (decide (x.1=0)) x.2 (P.drop x.1)) (λx=>P.length-x.1) (0,0) ?_ ae rfl ?_
 ·exact⟨Nat.zero_le _,Nat.zero_le _,hX⟩
 rintro⟨k,a⟩ ⟨g1,g2,g3⟩;dsimp only at g1 g2 g3 ⊢;by_cases hk:k<P.length
 ·have hx:∃x,P.getD k []=x/\P.drop k=x::P.drop (k+1)/\(45:UInt8)∉x/\x.length<=10000:=by
   refine⟨P.getD k [],rfl,?_,hmem k hk,?_⟩
   ·rw[A_ hk,f_,y_ hk];rfl
   ·rw[f_,y_ hk];exact hlen _ (K_ hk)
  obtain⟨x,hx,hd,hm,hxl⟩:=hx;have hxe:aB P k= .str x:=by unfold aB;rw[hx]
  rw[hd,rn] at g3;have hkl:k<=4000*k:=by omega
  repeat' (first|(conv=>whnf);first|refine .w ?_|refine .v ?_|refine ez ?_ ?_<;>(intro hb;try exact dd hb)|apply aT|apply bP|(apply cR<;>intro hb)|(apply cX;intro hbd)|(apply bG;exact hgd)|(apply aV (i:=0) rfl;exact hgd)|(apply cY;intro bl)|(apply dv;intro va vk vc hva)|(apply du;intro v)|(apply dw;intro bl cap hcap)|apply dP|(apply dq<;>intro hnx)|apply ef mixed hC hGL be|(apply cq;assumption;exact hgd;exact rfl)|(show Rt _ _ _;exact cP)|fail)
  all_goals try conv=>whnf
  rw[hx] at*
  rw[hxe] at*
  refine lp hC hGL (λ(i:Nat)=>[(2,.own 0 (.pointer (some ⟨bl0,0,none⟩))),(3,.int .i64 a),(4,.int .i64 k),(5,.str x),(9,.list 1 P.length (aB P)),(10,.int .i64 P.length),(11,.int .i64 k),(17,.own 1 (.slice (some ⟨bl,0,none⟩) x.length cap)),(18,.int .i64 x.length),(19,.int .i64 i)]) (λ_=>[.cells bl0 (some 25) [.int .i64 0,.int .i64 0],.buf bl x cap]) (λi=>i<=x.length/\∀j,j<i->vR (decide (k=0)) (aa x j:Int)=true) (λi=>x.length-i) 0 ?_ ae rfl ?_
  ·exact⟨Nat.zero_le _,by intro j hj;omega⟩
  rintro i ⟨hi,hb0⟩;have hI:i<x.length->ai prog G 68 [.str (cf [(aa x i:Int)])] (.bool (aU (aa x i))):=λh=>by
   have:=tM (G:=G) (cf [(aa x i:Int)]) (by show 1<=_;omega);rwa [Qo (bB _ _)] at this
  have hW:=fN (G:=G) (aa x i:Int) 48 57;refine xw ?_;repeat' first|exact .n|apply Lc.mk
  all_goals intros
  ·refine aY hC hGL (gv [_] rfl (by intro v hv;simp only[p_,t_,or_false] at hv;omega) rfl rfl rfl rfl rfl rfl) rfl rfl ?_;repeat' (first|(conv=>whnf);first|refine .w ?_|refine .v ?_|refine ez ?_ ?_<;>(intro hb;try exact dd hb)|apply aT|apply bP|(apply cR<;>intro hb)|(apply cX;intro hbd)|(apply bG;first|exact hI a_|exact hW)|(apply aV (i:=0) rfl;first|exact hI a_|exact hW)|(apply cY;intro bl)|(apply dv;intro va vk vc hva)|(apply du;intro v)|(apply dw;intro bl cap hcap)|apply dP|(apply dq<;>intro hnx)|apply ef mixed hC hGL be|(apply cq;assumption;(first|exact hI a_|exact hW);exact rfl)|(show Rt _ _ _;exact cP)|fail)
   all_goals try conv=>whnf
   ·apply aj;rw[l_,n_,n_] at hb;rw[g3,xN a_ (KQ.2 (.inr ⟨by simp;omega,a_⟩)) hb0];rfl
   ·rw[Vr,aaf,aaf] at hb;refine cQ (i+1) ?_ ?_ ae rfl
    ·refine⟨a_,dj hb0 (KP.2 ⟨by assumption,λ_=> ?_⟩)⟩;have:=(IF (c:=(aa x i:Int)) (by assumption) (by have:=CN hm (j:=i) a_;omega));omega
    ·omega
   ·refine cQ (i+1) ?_ ?_ ae rfl
    ·exact⟨a_,dj hb0 (KP.2 ⟨by assumption,λh=>by simp at h;omega⟩)⟩
    ·omega
   ·apply aj;rw[g3,xN a_ (KQ.2 (.inl hb)) hb0];rfl
  ·apply aj;have hp:=oW (first:=decide (k=0)) (a:=a) (x:=x) (λj hj=>hb0 j a_);rw[if_pos a_] at hp;rw[g3,hp];rfl
  ·apply aj;have hp:=oW (first:=decide (k=0)) (a:=a) (x:=x) (λj hj=>hb0 j a_);rw[if_neg a_,if_pos a_] at hp;rw[g3,hp];rfl
  ·have hp:=oW (first:=decide (k=0)) (a:=a) (x:=x) (λj hj=>hb0 j a_);rw[if_neg a_,if_neg a_] at hp;rw[hp,if_pos (show Err.none.isNone=true from rfl)] at g3;refine fG (k+1,a+x.length+1) ⟨a_,by dsimp only;omega,?_⟩ (by dsimp only;omega) ⟨rfl,?_,rfl,rfl,rfl,trivial⟩ aA
   ·dsimp only
    rw[g3];simp
   ·exact congrArg (λz=>some (AVal.int .i64 z)) (by dsimp only;omega)
 ·refine aH ?_;intros;apply aj;rw[g3,List.drop_eq_nil_of_le a_,fj];rfl
end
end Go.Proofs.YtgpjhbhdbjdlgaaGreatDoor
