/- Parts of the proof of cardParses_card. -/
import Derived.Deep.DeepHandedRow
import Derived.Test.YtnbaflecdkgihaaGreatDoorBaq
set_option linter.unusedVariables false
set_option linter.unusedSimpArgs false
set_option linter.unusedSectionVars false
namespace Go.Proofs.YtnbaflecdkgihaaGreatDoor
open Go Go.RowKit
open Go.Proofs.Tryz Go.Proofs.YtnbaflecdkgihaaGreatDoor.Tryz
set_option maxRecDepth 20000
set_option maxHeartbeats 4000000
section
attribute [local irreducible] bG au aa az aR ab ad
attribute [local irreducible] am cz jM aE Itm.w ly JY
theorem z7 {G:Glo}(v:Int)(l:List Itm)(h70:l.length<=1000000)(ho:∀x∈l,Itm.OK 10000 x)(s:List UInt8)(hs:s.length<=1000000)(n:Nat)(hn:n<=l.length):ak prog G 38 [.str s,.int .i64 (n:Int),.rop [.int .i64 v,.list 15 l.length (eS l)] 0] (.int .i64 (jM l (am 97 122 (-32) s) n:Nat)):=by
 have hGL:ab G []:=al;refine uZ func38 call38 rfl rfl rfl rfl hGL ?_;intro C hC;refine aK ?_;intros;refine lp hC hGL (λk:Nat=>[(0,.str s),(6,.int .i64 (jM l (am 97 122 (-32) s) k:Nat)),(12,.list 15 n (eS l)),(13,.int .i64 (n:Nat)),(14,.int .i64 (k:Nat))]) (λ_=>[]) (λk=>k<=n) (λk=>n-k) 0 (Nat.zero_le _) (by rw[A2];exact ah) rfl ?_;intro k k1;have k1:k<=n:=k1;have hcl:=sv l (am 97 122 (-32) s) k;by_cases hk:k<n
 ·have hkl:k<l.length:=by omega
  have hnl:(l.getD k Itm.z).1.n.length<=10000:=(tE ho hkl).p.n;have hS:=gT (G:=G) (l.getD k Itm.z).1.n s a_ a_;have hsu:=tR (s:=am 97 122 (-32) s) hkl;rw[gU] at hS;generalize am 97 122 (-32) s=U at*
  cases hb:aY (am 97 122 (-32) (l.getD k Itm.z).1.n) U with
  |true=>
   rw[hb] at hS hsu;rw[if_pos rfl] at hsu;have e:((jM l U k:Nat):Int)+1=((jM l U (k+1):Nat):Int):=by omega
   refine aK ?_;intros;exact ga (k+1) hk a_ (by refine⟨rfl,?_,rfl,rfl,rfl,trivial⟩;exact congrArg (λz=>some (AVal.int .i64 z)) e) aF
  |false=>
   rw[hb] at hS hsu;rw[if_neg b_,Nat.add_zero] at hsu;refine aK ?_;intros;exact ga (k+1) hk a_ (by rw[hsu];exact ah) aF
 ·obtain rfl:k=n:=by omega
  exact bB
theorem zh {G:Glo}{m:Int}(hU:ab G utfTy)(hM:ab G (bP m))(hH:ab G shapesTy)(hP:fC G)(c:Crd)(hf:c.ok):ak prog G 23 [c.A] (.agg [.int .i64 c.E.e,.int .i64 c.E.p]):=by
 obtain⟨v,l⟩:=c;obtain⟨h70,ho⟩:=hf;dsimp only at h70 ho;have q1:=call38;have hN:=zc (G:=G) v;have hB:=λe=>jc (G:=G) e;have hG:=fp (G:=G);by_cases hv:v=3\/v=4
 ·have hve:eM v= .none:=by unfold eM;rw[if_pos hv]
  rw[hve] at hN;simp only[Err.e] at hN;by_cases h60:60<l.length
  ·rw[Up hv h60];have hB:=hB 4;simp only[Err.e,Err.p];refine ax func23 call23 λC hC hGL=> ?_;exact bB
  ·have hone:∀k,k<l.length->ak prog G 37 [J2 (l.getD k Itm.z),.int .i64 v] (.int .i64 ((l.getD k Itm.z).w v)):=λk hk=>Lx hU hM hH hP v hv _ (tE ho hk);refine ax func23 call23 λC hC hGL=> ?_;refine aK ?_;intro bl;intros;refine lp hC hGL (λk:Nat=>[(1,.rop [.int .i64 v,.list 15 l.length (eS l)] 0),(2,.own 0 (.pointer (some ⟨bl,0,none⟩))),(3,.list 1 (aE v).length (aB (aE v))),(33,.list 15 l.length (eS l)),(34,.int .i64 (l.length:Nat)),(35,.int .i64 (k:Nat))]) (λ_=>[.cells bl (some 27) [.int .i64 0,.int .i64 0]]) (λk=>k<=l.length/\∀j,j<k->(l.getD j Itm.z).w v=0) (λk=>l.length-k) 0 ⟨Nat.zero_le _,λj h=>absurd h (Uf _)⟩ ah rfl ?_;rintro k ⟨k1,k2⟩;by_cases hk:k<l.length
   ·have h1:=hone k hk;unfold J2 at h1;by_cases hw:(l.getD k Itm.z).w v=0
    ·rw[hw] at h1;refine aK ?_;intros;exact ga (k+1) ⟨hk,bO k2 hw⟩ a_ ah aF
    ·rw[Um hv h60 hk k2 hw];simp only[Err.e,Err.p];exact bB
   ·obtain rfl:k=l.length:=by omega
    refine aK ?_;intros;refine lp hC hGL (λk:Nat=>[(1,.rop [.int .i64 v,.list 15 l.length (eS l)] 0),(2,.own 0 (.pointer (some ⟨bl,0,none⟩))),(3,.list 1 (aE v).length (aB (aE v))),(8,.func (.func 38) [] [.rop [.int .i64 v,.list 15 l.length (eS l)] 0]),(52,.list 15 l.length (eS l)),(53,.int .i64 (l.length:Nat)),(54,.int .i64 (k:Nat))]) (λ_=>[.cells bl (some 27) [.int .i64 0,.int .i64 0]]) (λk=>k<=l.length/\∀j,j<k->ly v l j=0) (λk=>l.length-k) 0 ⟨Nat.zero_le _,λj h=>absurd h (Uf _)⟩ ah rfl ?_;rintro k ⟨k1,km⟩;by_cases hk:k<l.length
    ·have hnl:(l.getD k Itm.z).1.n.length<=10000:=(tE ho hk).p.n;have hR:=rS (G:=G) v (l.getD k Itm.z).1.n a_;have hA:=z7 (G:=G) v l h70 ho (l.getD k Itm.z).1.n a_ k k1;have hcl:=sv l (am 97 122 (-32) (l.getD k Itm.z).1.n) k;have h9:=OY (v:=v) (l:=l) (i:=k);have h0:=OZ (v:=v) (l:=l) (i:=k);have hcm:=λh=>Un (v:=v) hv h60 k2 hk km h;rw[hve] at hR;unfold Rl.A at hR;simp only[Err.e] at hR;generalize cz v (l.getD k Itm.z).1.n=r at*
     obtain⟨r0,r1,r2,r3⟩:=r;dsimp only at*
     generalize jM l (am 97 122 (-32) (l.getD k Itm.z).1.n) k=N at*
     by_cases hb:0<r2
     ·by_cases hc:r2<=(N:Int)
      ·have h9:=h9 hb hc;rw[h9] at hcm;rw[hcm b_];simp only[Err.e,Err.p];refine ao ?_;intros;refine eq (an (aA (i:=2) (k:=11) rfl rfl) (aA (i:=1) (k:=10) rfl rfl)) ?_;refine bh mixed hC hGL false (λ_:Unit=>[(1,.rop [.int .i64 v,.list 15 l.length (eS l)] 0),(2,.own 0 (.pointer (some ⟨bl,0,none⟩))),(3,.list 1 (aE v).length (aB (aE v))),(8,.func (.func 38) [] [.rop [.int .i64 v,.list 15 l.length (eS l)] 0]),(9,.int .i64 (k:Nat)),(52,.list 15 l.length (eS l)),(53,.int .i64 (l.length:Nat)),(54,.int .i64 (k:Nat)),(79,.bool (!nY (N:Int) r2))]) (λ_=>[.cells bl (some 27) [.int .i64 0,.int .i64 0],eD,eD]) .p15 be xu ?_;intro _;exact bB
      ·have h0:=h0 (λh=>hc h.2);refine ao ?_;intros;refine eq (an (aA (i:=2) (k:=11) rfl rfl) (aA (i:=1) (k:=10) rfl rfl)) ?_;refine bh mixed hC hGL false (λ_:Unit=>[(1,.rop [.int .i64 v,.list 15 l.length (eS l)] 0),(2,.own 0 (.pointer (some ⟨bl,0,none⟩))),(3,.list 1 (aE v).length (aB (aE v))),(8,.func (.func 38) [] [.rop [.int .i64 v,.list 15 l.length (eS l)] 0]),(9,.int .i64 (k:Nat)),(52,.list 15 l.length (eS l)),(53,.int .i64 (l.length:Nat)),(54,.int .i64 (k:Nat)),(79,.bool (!nY (N:Int) r2))]) (λ_=>[.cells bl (some 27) [.int .i64 0,.int .i64 0],eD,eD]) .p15 be xu ?_;intro _;refine aK ?_;intros;exact ga (k+1) ⟨hk,bO km h0⟩ a_ ah aF
     ·have h0:=h0 (λh=>hb h.1);refine ao ?_;intros;refine eq (an (aA (i:=2) (k:=11) rfl rfl) (aA (i:=1) (k:=10) rfl rfl)) ?_;refine bh mixed hC hGL false (λ_:Unit=>[(1,.rop [.int .i64 v,.list 15 l.length (eS l)] 0),(2,.own 0 (.pointer (some ⟨bl,0,none⟩))),(3,.list 1 (aE v).length (aB (aE v))),(8,.func (.func 38) [] [.rop [.int .i64 v,.list 15 l.length (eS l)] 0]),(9,.int .i64 (k:Nat)),(52,.list 15 l.length (eS l)),(53,.int .i64 (l.length:Nat)),(54,.int .i64 (k:Nat)),(79,.bool false)]) (λ_=>[.cells bl (some 27) [.int .i64 0,.int .i64 0],eD,eD]) .p15 be xu ?_;intro _;refine aK ?_;intros;exact ga (k+1) ⟨hk,bO km h0⟩ a_ ah aF
    ·obtain rfl:k=l.length:=by omega
     rw[Uo hv h60 k2 km];refine aK ?_;intros;refine lp hC hGL (λk:Nat=>[(1,.rop [.int .i64 v,.list 15 l.length (eS l)] 0),(2,.own 0 (.pointer (some ⟨bl,0,none⟩))),(8,.func (.func 38) [] [.rop [.int .i64 v,.list 15 l.length (eS l)] 0]),(83,.list 1 (aE v).length (aB (aE v))),(84,.int .i64 ((aE v).length:Nat)),(85,.int .i64 (k:Nat))]) (λ_=>[.cells bl (some 27) [.int .i64 0,.int .i64 0]]) (λk=>k<=(aE v).length/\∀j,j<k->JY v l j=0) (λk=>(aE v).length-k) 0 ⟨Nat.zero_le _,λj h=>absurd h (Uf _)⟩ ah rfl ?_;rintro k ⟨k1,kl⟩;by_cases hk:k<(aE v).length
     ·have hnn:=EJ hk;have hnl:=Ao v;have hR:=rS (G:=G) v ((aE v).getD k []) a_;have hA:=z7 (G:=G) v l h70 ho ((aE v).getD k []) a_ l.length (Nat.le_refl _);have hcl:=sv l ((aE v).getD k []) l.length;have hB:=hB 7;rw[hnn.1] at hA;rw[hve] at hR;unfold Rl.A at hR;simp only[Err.e] at hR;have h7:=XJ (v:=v) (l:=l) (i:=k);have h0:=XK (v:=v) (l:=l) (i:=k);have hf7:=λh=>vu (f:=JY v l) hk kl h;generalize cz v ((aE v).getD k [])=r at*
      obtain⟨r0,r1,r2,r3⟩:=r;dsimp only at*
      generalize jM l ((aE v).getD k []) l.length=N at*
      by_cases hb:(N:Int)<r1
      ·have h7:=h7 hb;rw[h7] at hf7;rw[hf7 b_,if_neg b_];simp only[Err.e,Err.p];refine ao ?_;intros;refine eq (aA (i:=1) (k:=15) rfl rfl) ?_;refine bh mixed hC hGL false (λ_:Unit=>[(1,.rop [.int .i64 v,.list 15 l.length (eS l)] 0),(2,.own 0 (.pointer (some ⟨bl,0,none⟩))),(8,.func (.func 38) [] [.rop [.int .i64 v,.list 15 l.length (eS l)] 0]),(83,.list 1 (aE v).length (aB (aE v))),(84,.int .i64 ((aE v).length:Nat)),(85,.int .i64 (k:Nat)),(104,.bool (nY (N:Int) r1))]) (λ_=>[.cells bl (some 27) [.int .i64 0,.int .i64 0],eD]) .p24 be xu ?_;intro _;exact bB
      ·have h0:=h0 hb;refine ao ?_;intros;refine eq (aA (i:=1) (k:=15) rfl rfl) ?_;refine bh mixed hC hGL false (λ_:Unit=>[(1,.rop [.int .i64 v,.list 15 l.length (eS l)] 0),(2,.own 0 (.pointer (some ⟨bl,0,none⟩))),(8,.func (.func 38) [] [.rop [.int .i64 v,.list 15 l.length (eS l)] 0]),(83,.list 1 (aE v).length (aB (aE v))),(84,.int .i64 ((aE v).length:Nat)),(85,.int .i64 (k:Nat)),(104,.bool (nY (N:Int) r1))]) (λ_=>[.cells bl (some 27) [.int .i64 0,.int .i64 0],eD]) .p24 be xu ?_;intro _;refine aK ?_;intros;exact ga (k+1) ⟨hk,bO kl h0⟩ a_ ah aF
     ·obtain rfl:k=(aE v).length:=by omega
      rw[mW (f:=JY v l) kl,if_pos rfl];simp only[Err.e,Err.p];exact bB
 ·rw[Uq hv];have hve:eM v= .errno 1:=by unfold eM;rw[if_neg hv]
  rw[hve] at hN;have hB:=hB 1;simp only[Err.e,Err.p] at hN ⊢;refine ax func23 call23 λC hC hGL=> ?_;exact bB
end
section
abbrev Vk:List UInt8:=[118,101,114,115,105,111,110,58,51,46,48]
abbrev WX:List UInt8:=[118,101,114,115,105,111,110,58,52,46,48]
abbrev JN (b:Nat):HEnt:=.mp b [(.str Vk,.int .i64 3),(.str WX,.int .i64 4)]
abbrev Xp:List UInt8:=[98,101,103,105,110,58,118,99,97,114,100]
abbrev Xo:List UInt8:=[101,110,100,58,118,99,97,114,100]
theorem Vj (t:List UInt8):aY (am 65 90 32 t) Vk=aY (rn t) cpV3:=by
 rw[show Vk=am 65 90 32 Vk by decide,gU];rfl
theorem Vi (t:List UInt8):aY (am 65 90 32 t) WX=aY (rn t) cpV4:=by
 rw[show WX=am 65 90 32 WX by decide,gU];rfl
theorem Ww {v:Int}{l:LineS}(h:(iR v l).e=0):iR v l= .none:=by
 by_cases hv:v=3\/v=4
 ·have h2:=Nf (iQ (bU v 4) l.t).v (M3 v l.t);change (yA v l.t).2.e=0->(yA v l.t).2= .none at h2;unfold iR at h ⊢;rw[if_pos hv] at h ⊢;rcases hq:rk (bU v 4) l.t with _|e|⟨e,p⟩
  ·rw[hq] at h;dsimp only at h ⊢;generalize (yA v l.t).2=x at*
   rcases x with _|e|⟨e,p⟩
   ·rfl
   ·have:=h2 h;cases this
   ·have:=h2 h;cases this
  ·exact absurd hq (HF _ _ _)
  ·rw[hq] at h;exact absurd h (T6 hq)
 ·unfold iR at h;rw[if_neg hv] at h;cases h
attribute [local irreducible] bG au aa az aR ab ad
attribute [local irreducible] iR pg am Crd.E qX fU
theorem Eg {G:Glo}{m:Int}(hU:ab G utfTy)(hM:ab G (bP m))(hH:ab G shapesTy)(hP:fC G)(t:List UInt8)(L:List LineS)(e:Nat)(ht:t.length<=20100)(hL:L.length<=20100)(hb:∀l∈L,nP t l)(he:e<=20100):
  ad prog G 10 [.list 3 L.length (cM L),.int .i64 (e:Int)] [] (Qt (pf L e) (.agg [.int .i64 (jl L e).e,.int .i64 (jl L e).p])):=by
 by_cases h3:L.length<3
 ·rw[vB (by rw[KB h3];exact λh=>by cases h),KB h3];simp only[Err.e,Err.p];refine ax func10 call10 λC hC hGL=> ?_;refine aK ?_;intros;exact⟨[],Ug _,iN,rfl,rfl,.inl ⟨rfl,rfl⟩⟩
 have hbl:∀i,i<L.length->nP t (cO L i):=λi hi=>by
  show nP t (L.getD i ⟨[],0,[]⟩);rw[f_,y_ hi];exact hb _ (K_ hi)
 have s0:=gT (G:=G) (cO L 0).t Xp (by have:=(hbl 0 a_).2.1;omega) b_;have s1:=pJ (G:=G) (cO L 1).t (by have:=(hbl 1 a_).2.1;omega);have s9:=gT (G:=G) (cO L (L.length-1)).t Xo (by have:=(hbl (L.length-1) a_).2.1;omega) b_;have r3:=Vj (cO L 1).t;have r4:=Vi (cO L 1).t;rw[gU] at s0 s9;rw[show am 97 122 (-32) Xp=ml by decide+kernel] at s0;rw[show am 97 122 (-32) Xo=pb by decide+kernel] at s9;change ak _ _ _ _ (.bool (aY (rn (cO L 0).t) ml)) at s0;change ak _ _ _ _ (.bool (aY (rn (cO L (L.length-1)).t) pb)) at s9;generalize am 65 90 32 (cO L 1).t=lw at*
 have hit:=λi (hi:i<L.length) v=>BU hU hM hH v t (cO L i) (hbl i hi).2.1 ht (hbl i hi);have hFI:=λe p=>mZ (G:=G) e p;have hGd:=fp (G:=G);have c7:=Uv (L:=L) (e:=e) h3;have c8:=Ur (L:=L) (e:=e) h3;have c9:=λk=>Ut (L:=L) (e:=e) (k:=k) h3;have c10:=Uu (L:=L) (e:=e) h3;have c11:=Us (L:=L) (e:=e) h3;have cno:=vB (L:=L) (e:=e);have cok:=KC (L:=L) (e:=e);have hok:=HT (v:=n9 (cO L 1).t) (n:=L.length-3) hb;have jV:(FU L).l.length=L.length-3:=jg _ _ _;generalize jl L e=E at*
 generalize pf L e=Cc at*
 refine mh func10 call10 λC hC hGL=> ?_;refine gu hC hGL (λx:Nat×Nat=>[(0,.list 3 L.length (cM L)),(1,.int .i64 (e:Int)),(4,.own 0 (eW x.1)),(5,.own 1 (eW x.2))]) (λx=>[jt x.1 0 iN,kM x.2 0 0]) (λ_=>True) ?_ ?_
 ·refine ao ?_;intro b b';intros;exact cy (b,b') trivial
 rintro⟨b4,b5⟩ _;dsimp only
 refine cut hC hGL [(0,.list 3 L.length (cM L)),(1,.int .i64 (e:Int)),(4,.own 0 (eW b4)),(5,.own 1 (eW b5))] [jt b4 0 iN,kM b5 0 0] True ?_ λ_=> ?_
 ·exact eK
 cases hB:aY (rn (cO L 0).t) ml with
 |false=>
  rw[hB] at s0;have c7:=c7 hB;subst c7;rw[cno (λh=>by cases h)];simp only[Err.e,Err.p];refine ay hC hGL (ao ?_);intros;refine bh mixed hC hGL false (λ_:Unit=>[(4,.own 0 (eW b4)),(5,.own 1 (eW b5))]) (λ_=>[jt b4 0 iN,kM b5 3 (cO L 0).a]) .p25 be xu ?_;intro _;refine ao ?_;intros;exact⟨[],Ug _,iN,rfl,rfl,.inl ⟨rfl,rfl⟩⟩
 |true=>
  rw[hB] at s0;refine cut hC hGL [(0,.list 3 L.length (cM L)),(1,.int .i64 (e:Int)),(4,.own 0 (eW b4)),(5,.own 1 (eW b5))] [jt b4 0 iN,kM b5 0 0] True ?_ λ_=> ?_
  ·exact eK
  have v3:lw=Vk->n9 (cO L 1).t=3:=λh=>by unfold n9;rw[<-r3,if_pos (bZ.2 h)]
  have v4:lw≠Vk->lw=WX->n9 (cO L 1).t=4:=λh h'=>by unfold n9;rw[<-r3,if_neg (by rw[ku.2 h];decide),<-r4,if_pos (bZ.2 h')]
  have v0:lw≠Vk->lw≠WX->n9 (cO L 1).t=0:=λh h'=>by unfold n9;rw[<-r3,if_neg (by rw[ku.2 h];decide),<-r4,if_neg (by rw[ku.2 h'];decide)]
  clear r3 r4;refine gu hC hGL (λx:Nat×Nat=>[(0,.list 3 L.length (cM L)),(1,.int .i64 (e:Int)),(4,.own 0 (eW b4)),(5,.own 1 (eW b5)),(6,.own 3 (eW x.2))]) (λx=>[jt b4 0 iN,kM b5 0 0,JN x.1,jt x.2 (n9 (cO L 1).t) iN]) (λ_=>True) ?_ ?_
  ·refine xn ?_;repeat' first|exact .n|apply Lc.mk
   all_goals intros
   ·intros;rename_i bm b6 _ h1;rw[v3 h1];exact cy (bm,b6) trivial
   ·intros;rename_i bm b6 _ h1 h2;rw[v4 h1 h2];exact cy (bm,b6) trivial
   ·intros;rename_i bm b6 _ h1 h2;rw[v0 h1 h2];exact cy (bm,b6) trivial
  rintro⟨bm,b6⟩ _;dsimp only
  by_cases hv0:n9 (cO L 1).t=0
  ·have c8:=c8 hB hv0;subst c8;rw[cno (λh=>by cases h),hv0];simp only[Err.e,Err.p];refine ay hC hGL (ao ?_);intros;refine bh mixed hC hGL false (λ_:Unit=>[(4,.own 0 (eW b4)),(5,.own 1 (eW b5))]) (λ_=>[jt b4 0 iN,kM b5 3 (cO L 1).a,JN bm,jt b6 0 iN]) .p25 be xu ?_;intro _;refine ao ?_;intros;exact⟨[],Ug _,iN,rfl,rfl,.inl ⟨rfl,rfl⟩⟩
  ·have hv34:=Nl hv0;have c9:=λk=>c9 k hB hv0;have c10:=c10 hB hv0;have c11:=c11 hB hv0;have hD:FU L=⟨n9 (cO L 1).t,kZ (n9 (cO L 1).t) L (L.length-3)⟩:=rfl;clear v3 v4 v0 c7 c8 s0;generalize n9 (cO L 1).t=v at*
   refine cut hC hGL [(0,.list 3 L.length (cM L)),(4,.own 0 (eW b4)),(5,.own 1 (eW b5)),(6,.own 3 (eW b6))] [jt b4 0 iN,kM b5 0 0,JN bm,jt b6 v iN] True ?_ λ_=> ?_
   ·rcases hv34 with rfl|rfl<;>exact eK
   refine cut hC hGL [(0,.list 3 L.length (cM L)),(4,.own 0 (eW b4)),(5,.own 1 (eW b5)),(6,.own 3 (eW b6)),(7,.int .i64 ((L.length:Int)-1))] [jt b4 0 iN,kM b5 0 0,JN bm,jt b6 v iN] True ?_ λ_=> ?_
   ·exact eK
   refine gu hC hGL (λx:Value=>[(0,.list 3 L.length (cM L)),(4,.own 0 (eW b4)),(5,.own 1 (eW b5)),(6,.own 3 (eW b6)),(7,.int .i64 ((L.length:Int)-1))]) (λx=>[jt b4 0 iN,kM b5 0 0,JN bm,jt b6 v (.own 4 x),G4 x (kZ v L (L.length-3))]) (λ_=>∀j,j<L.length-3->iR v (cO L (j+2))= .none) ?_ ?_
   ·refine ao ?_;intros;refine EU (an (fg 15) (an (jO (i:=3) (p:=1) (x:=jt b6 v iN) (a':=.own 4 (.slice none 0 0)) rfl (λR=>.cells rfl λ_=>jU)) (ng))) ?_;have hi0:kZ v L 0=[]:=rfl;refine lp hC hGL (λz:Nat×Value=>[(0,.list 3 L.length (cM L)),(4,.own 0 (eW b4)),(5,.own 1 (eW b5)),(6,.own 3 (eW b6)),(7,.int .i64 ((L.length:Int)-1)),(8,.int .i64 ((z.1+2:Nat):Int))]) (λz=>[jt b4 0 iN,kM b5 0 0,JN bm,jt b6 v (.own 4 z.2),G4 z.2 (kZ v L z.1)]) (λz=>z.1<=L.length-3/\∀j,j<z.1->iR v (cO L (j+2))= .none) (λz=>L.length-3-z.1) (0,.slice none 0 0) ⟨Nat.zero_le _,λj h=>absurd h (Uf _)⟩ ?_ ?_ ?_
    ·exact⟨rfl,rfl,rfl,rfl,rfl,rfl,trivial⟩
    ·show _=[jt b4 0 iN,kM b5 0 0,JN bm,jt b6 v (.own 4 (.slice none 0 0)),G4 (.slice none 0 0) (kZ v L 0)];rw[hi0];unfold G4;rw[E9];rfl
    rintro⟨k,x⟩ ⟨k1,k2⟩;dsimp only at k1 k2 ⊢;by_cases hk:k<L.length-3
    ·have h1:=hit (k+2) a_ v;have hs:=Fa v L k;have hlk:=jg v L k;have c9:=c9 k hk k2;have hF:=hFI (iR v (cO L (k+2))).e (iR v (cO L (k+2))).p;rw[J3] at h1;refine ao ?_;intros;refine bh mixed hC hGL false (λy:Bool×Nat×Nat=>[(0,.list 3 L.length (cM L)),(4,.own 0 (eW b4)),(5,.own 1 (eW b5)),(6,.own 3 (eW b6)),(7,.int .i64 ((L.length:Int)-1)),(8,.int .i64 ((k+2:Nat):Int)),(9,.own (if y.1 then 5 else 6) (eW y.2.1)),(10,.own (if y.1 then 6 else 5) (eW y.2.2))]) (λy=>[jt b4 0 iN,kM b5 0 0,JN bm,jt b6 v (.own 4 x),G4 x (kZ v L k)]++if y.1 then[.cells y.2.1 (some 54) (df (pg v (cO L (k+2)))),kM y.2.2 (iR v (cO L (k+2))).e (iR v (cO L (k+2))).p] else[kM y.2.2 (iR v (cO L (k+2))).e (iR v (cO L (k+2))).p,.cells y.2.1 (some 54) (df (pg v (cO L (k+2))))]) (.t 0 (.t 1 (.t 2 (.t 3 (.t 4 (.br 5 (.br 6 (.t 7 (.t 8 (.t 9 (.br 10 (.b 11 (.b 12 (.b 13 .done))) (.b 11 (.b 10 (.b 12 (.b 13 .done)))))))) (.br 10 (.br 6 (.t 7 (.t 8 (.t 9 (.b 11 (.b 12 (.b 13 .done)))))) (.b 11 (.b 6 (.t 7 (.t 8 (.t 9 (.b 12 (.b 13 .done)))))))) (.b 11 (.br 6 (.t 7 (.t 8 (.t 9 (.b 10 (.b 12 (.b 13 .done)))))) (.b 10 (.b 6 (.t 7 (.t 8 (.t 9 (.b 12 (.b 13 .done))))))))))) (.br 10 (.br 5 (.br 6 (.t 7 (.t 8 (.t 9 (.b 11 (.b 12 (.b 13 .done)))))) (.b 11 (.b 6 (.t 7 (.t 8 (.t 9 (.b 12 (.b 13 .done)))))))) (.b 11 (.b 5 (.b 6 (.t 7 (.t 8 (.t 9 (.b 12 (.b 13 .done))))))))) (.b 11 (.br 5 (.br 6 (.t 7 (.t 8 (.t 9 (.b 10 (.b 12 (.b 13 .done)))))) (.b 10 (.b 6 (.t 7 (.t 8 (.t 9 (.b 12 (.b 13 .done)))))))) (.b 10 (.b 5 (.b 6 (.t 7 (.t 8 (.t 9 (.b 12 (.b 13 .done))))))))))))))))) be ?_ ?_
     ·refine xn ?_;repeat' first|exact .n|apply Lc.mk
      all_goals intros
      all_goals first
       |exact⟨(true,_,_),⟨rfl,rfl,rfl,rfl,rfl,rfl,rfl,rfl,trivial⟩,rfl⟩
       |exact⟨(false,_,_),⟨rfl,rfl,rfl,rfl,rfl,rfl,rfl,rfl,trivial⟩,rfl⟩
     ·rintro⟨o,b9,b10⟩;dsimp only
      by_cases h0:iR v (cO L (k+2))= .none
      ·rw[h0] at hF;rw[h0];simp only[Err.e,Err.p] at hF ⊢;rw[show bU 0 0=true from fA.2 rfl] at hF;generalize pg v (cO L (k+2))=X at*
       have e2:(kZ v L k).length+1=(kZ v L (k+1)).length:=by rw[jg,jg]
       cases o<;>
       ·refine ao ?_;intro va vk vc hva;intros;refine ga (k+1,.slice va vk vc) ⟨hk,λj hj=> ?_⟩ (by dsimp only;omega) ah ?_
        ·rcases YY j k with h|h
         ·exact k2 j h
         ·dsimp only at hj;obtain rfl:j=k:=by omega
          exact h0
        ·dsimp only
         rw[e2];refine V_ _ (V_ _ (V_ _ (V_ _ ?_)));show[G4 (.slice va vk vc) (kZ v L (k+1))].Sublist (HEnt.row (.slice va vk vc) none 15 (kZ v L (k+1)).length (qX (kZ v L k)++df X)::_);rw[AJ,<-hs];exact V_ _ (Ug _)
      ·have hne:(iR v (cO L (k+2))).e≠0:=λh=>h0 (Ww h);rw[show bU (iR v (cO L (k+2))).e 0=false from lK.2 hne] at hF;have c9:=c9 h0;subst c9;rw[cno h0];cases o
       ·refine ao ?_;intros;refine bh mixed hC hGL false (λ_:Unit=>[(4,.own 0 (eW b4)),(5,.own 1 (eW b5))]) (λ_=>[jt b4 0 iN,kM b5 (iR v (cO L (k+2))).e (iR v (cO L (k+2))).p,JN bm,jt b6 v (.own 4 x),G4 x (kZ v L k),kM b10 (iR v (cO L (k+2))).e (iR v (cO L (k+2))).p,.cells b9 (some 54) (df (pg v (cO L (k+2))))]) .p3 be xu ?_;intro _;refine ao ?_;intros;exact⟨[],Ug _,iN,rfl,rfl,.inl ⟨rfl,rfl⟩⟩
       ·refine ao ?_;intros;refine bh mixed hC hGL false (λ_:Unit=>[(4,.own 0 (eW b4)),(5,.own 1 (eW b5))]) (λ_=>[jt b4 0 iN,kM b5 (iR v (cO L (k+2))).e (iR v (cO L (k+2))).p,JN bm,jt b6 v (.own 4 x),G4 x (kZ v L k),.cells b9 (some 54) (df (pg v (cO L (k+2)))),kM b10 (iR v (cO L (k+2))).e (iR v (cO L (k+2))).p]) .p3 be xu ?_;intro _;refine ao ?_;intros;exact⟨[],Ug _,iN,rfl,rfl,.inl ⟨rfl,rfl⟩⟩
    ·obtain rfl:k=L.length-3:=by omega
     refine ao ?_;intros;exact cy x k2
   ·intro x hci;have hci2:=c10 hci;have hci3:=c11 hci;have hlen:=jg v L (L.length-3);have e9:((L.length:Int)-1).toNat=L.length-1:=by omega
    rw[<-e9] at s9 hci2 hci3;cases hB9:aY (rn (cO L ((L.length:Int)-1).toNat).t) pb with
    |false=>
     rw[hB9] at s9;have c10:=hci2 hB9;subst c10;rw[cno (λh=>by cases h)];simp only[Err.e,Err.p];refine ay hC hGL (ao ?_);intros;refine bh mixed hC hGL false (λ_:Unit=>[(4,.own 0 (eW b4)),(5,.own 1 (eW b5))]) (λ_=>[jt b4 0 iN,kM b5 3 (cO L ((L.length:Int)-1).toNat).a,JN bm,jt b6 v (.own 4 x),G4 x (kZ v L (L.length-3))]) (.t 0 (.t 1 (.t 2 (.t 3 (.t 4 (.br 5 (.t 6 (.b 7 (.b 8 .done))) (.b 7 (.b 5 (.t 6 (.b 8 .done)))))))))) be xu ?_;intro _;refine ao ?_;intros;exact⟨[],Ug _,iN,rfl,rfl,.inl ⟨rfl,rfl⟩⟩
    |true=>
     rw[hB9] at s9;have c11:=hci3 hB9;refine QR (kS (i:=4) (k:=3) (p:=1) (eS (kZ v L (L.length-3))) rfl rfl (J0 _) (λR hr=>.cells (a:=.own 4 x) rfl λ_=>cE hr)) ?_;rw[hD] at c11 cok;have hR:=zh hU hM hH hP ⟨v,kZ v L (L.length-3)⟩ ⟨by show(kZ v L (L.length-3)).length<=_;omega,λx hx=>(hok x hx).mono b_⟩;have hp:=λe p=>KA (c:=⟨v,kZ v L (L.length-3)⟩) (e:=e) (p:=p);have he0:=Wl ⟨v,kZ v L (L.length-3)⟩;dsimp only at hp;change ak _ _ _ [.agg [.int .i64 v,.list 15 (kZ v L (L.length-3)).length (eS (kZ v L (L.length-3)))]] _ at hR;clear hD jV hok hit c10 c9 hci hci2 hci3;generalize kZ v L (L.length-3)=I at*
     have hF:=hFI (Crd.E ⟨v,I⟩).e (Crd.E ⟨v,I⟩).p;cases hce:Crd.E ⟨v,I⟩ with
     |none=>
      rw[hce] at hR c11 hF;subst c11;rw[cok rfl];simp only[Err.e,Err.p] at hR hF ⊢;rw[show bU 0 0=true from fA.2 rfl] at hF;refine ay hC hGL (ao ?_);intro b11;intros;refine bh mixed hC hGL false (λ_:Unit=>[(4,.own 0 (eW b4)),(5,.own 1 (eW b5))]) (λ_=>[jt b4 v (.list 15 I.length (eS I)),kM b5 0 (-1),JN bm,jt b6 v (.list 15 I.length (eS I)),kM b11 0 (-1)]) .p14 be xu ?_;intro _;refine ao ?_;intros;exact⟨[],Ug _,_,rfl,rfl,.inr rfl⟩
     |errno e1=>
      have hne:e1≠0:=by
       rw[hce] at he0;rcases he0 with h|h
       ·cases h
       ·exact h.1
      rw[hce] at hR c11 hF;subst c11;rw[cno (λh=>by cases h)];simp only[Err.e,Err.p,Mv] at hR hF ⊢;rw[show bU e1 0=false from lK.2 hne] at hF;refine ay hC hGL (ao ?_);intro b11;intros;refine bh mixed hC hGL false (λ_:Unit=>[(4,.own 0 (eW b4)),(5,.own 1 (eW b5))]) (λ_=>[jt b4 0 iN,kM b5 e1 (-1),JN bm,jt b6 v (.list 15 I.length (eS I)),kM b11 e1 (-1)]) .p3 be xu ?_;intro _;refine ao ?_;intros;exact⟨[],Ug _,iN,rfl,rfl,.inl ⟨rfl,rfl⟩⟩
     | «at» e1 p1=>
      have hne:e1≠0:=by
       rw[hce] at he0;rcases he0 with h|h
       ·cases h
       ·exact h.1
      obtain⟨p2,p3⟩:=hp _ _ hce;rw[hce] at hR c11 hF;subst c11;rw[cno (λh=>by cases h)];have e8:p1.toNat+2=(p1+2).toNat:=by omega
      simp only[Err.e,Err.p,Mv] at hR hF ⊢;rw[show bU e1 0=false from lK.2 hne] at hF;rw[e8];refine ay hC hGL (ao ?_);intro b11;intros;refine bh mixed hC hGL false (λ_:Unit=>[(4,.own 0 (eW b4)),(5,.own 1 (eW b5))]) (λ_=>[jt b4 0 iN,kM b5 e1 (cO L (p1+2).toNat).a,JN bm,jt b6 v (.list 15 I.length (eS I)),kM b11 e1 (cO L (p1+2).toNat).a]) .p3 be xu ?_;intro _;refine ao ?_;intros;exact⟨[],Ug _,iN,rfl,rfl,.inl ⟨rfl,rfl⟩⟩
theorem Ho {G:Glo}{m:Int}(hU:ab G utfTy)(hM:ab G (bP m))(hH:ab G shapesTy)(hP:fC G)(t:List UInt8)(L:List LineS)(e:Nat)(ht:t.length<=20100)(hL:L.length<=20100)(hb:∀l∈L,nP t l)(he:e<=20100):
  ak prog G 10 [.list 3 L.length (cM L),.int .i64 (e:Int)] (.tuple [(pf L e).A,.agg [.int .i64 (jl L e).e,.int .i64 (jl L e).p]]):=
 dA (Eg hU hM hH hP t L e ht hL hb he) λ_ _ h=>su h
end
section
theorem TJ {L:List LineS}{p:List UInt8}{a:Nat}:(nT L p a).1.e=0->(nT L p a).1= .none:=by
 unfold nT
 (repeat' split)<;>intro h<;>first
  |rfl
  |exact absurd h (show(10:Int)≠0 by decide)
  |exact absurd h (show(4:Int)≠0 by decide)
theorem Ay {t:List UInt8}:∀(k:Nat) {a:Nat} {L:List LineS},t.length-a<=k->(cw t a L).1.e=0->(cw t a L).1= .none
 |k,a,L,hk,h=>by
  rw[cw] at h ⊢;by_cases h1:a<t.length
  ·rw[dif_pos h1] at h ⊢;by_cases h2:fb (t.drop a)<0
   ·rw[if_pos h2] at h;exact absurd h (by decide:(7:Int)≠0)
   ·rw[if_neg h2] at h ⊢;by_cases h3:iB t (a+(fb (t.drop a)).toNat)=true
    ·rw[if_pos h3] at h ⊢;have h4:=TJ (L:=L) (p:=(t.drop a).take (fb (t.drop a)).toNat) (a:=a);generalize nT L ((t.drop a).take (fb (t.drop a)).toNat) a=q at*
     obtain⟨e,L'⟩:=q;rcases e with _|e|⟨e,p⟩
     ·cases k with
      |zero=>omega
      |succ k=>exact Ay k a_ h
     ·exact h4 h
     ·exact h4 h
    ·rw[if_neg h3] at h;exact absurd h (by decide:(3:Int)≠0)
  ·rw[dif_neg h1]
theorem LU {t:List UInt8}(h:(ca t).e=0):ca t= .none:=by
 unfold ca at h ⊢;by_cases h1:20000<t.length
 ·rw[if_pos h1] at h;exact absurd h (by decide:(4:Int)≠0)
 ·rw[if_neg h1] at h ⊢;exact Ay _ (Nat.le_refl _) h
def M1 (t:List UInt8):Err:=match ca t with
 |.none=>jl (ci t) t.length
 |x=>x
def M2 (t:List UInt8):Crd:=match ca t with
 |.none=>pf (ci t) t.length
 |_=>⟨0,[]⟩
attribute [local irreducible] bG au aa az aR ab ad
attribute [local irreducible] pf jl ci ca qX fU
theorem FX {G:Glo}{m:Int}(hE:ab G errTy)(hE2:pq G)(hU:ab G utfTy)(hP:fC G)(hM:ab G (bP m))(hS:qh G)(t:List UInt8)(ht:t.length<=20100):
  ad prog G 5 [.str t] [] (Qt (M2 t) (M1 t).A):=by
 have hB:=xA t;have h1:=zx (G:=G) t a_;have h2:=Tm hE hE2 hU hP hM hS t (ci t) t.length ht a_ hB.1 ht;have e1:M1 t=match ca t with|.none=>jl (ci t) t.length|x=>x:=rfl
 have e2:M2 t=match ca t with|.none=>pf (ci t) t.length|_=>⟨0,[]⟩:=rfl
 generalize ci t=L at*
 cases hl:ca t with
 |none=>
  rw[hl] at h1 e1 e2;dsimp only at e1 e2;rw[e1,e2];simp only[Err.A] at h1;unfold Crd.A at h2;generalize pf L t.length=c at*
  generalize jl L t.length=x at*
  rcases x with _|e|⟨e,p⟩
  all_goals
   simp only[Err.A] at h2 ⊢;refine ax func5 call5 λC hC hGL=> ?_;refine aK ?_;intros;exact⟨[],Ug _,_,rfl,rfl,.inr rfl⟩
 |errno e=>
  rw[hl] at h1 e1 e2;dsimp only at e1 e2;rw[e1,e2];simp only[Err.A] at h1 ⊢;refine ax func5 call5 λC hC hGL=> ?_;refine aK ?_;intros;exact⟨[],Ug _,iN,rfl,rfl,.inl ⟨rfl,rfl⟩⟩
 | «at» e p=>
  rw[hl] at h1 e1 e2;dsimp only at e1 e2;rw[e1,e2];simp only[Err.A] at h1 ⊢;refine ax func5 call5 λC hC hGL=> ?_;refine aK ?_;intros;exact⟨[],Ug _,iN,rfl,rfl,.inl ⟨rfl,rfl⟩⟩
theorem IE {G:Glo}{m:Int}(hE:ab G errTy)(hE2:pq G)(hU:ab G utfTy)(hP:fC G)(hM:ab G (bP m))(hS:qh G)(t:List UInt8)(ht:t.length<=20100):
  ak prog G 5 [.str t] (.tuple [(M2 t).A,(M1 t).A]):=
 dA (FX hE hE2 hU hP hM hS t ht) λ_ _ h=>su h
theorem wS {G:Glo}{m:Int}(hU:ab G utfTy)(hM:ab G (bP m))(hH:ab G shapesTy)(hP:fC G)(t:List UInt8)(ht:t.length<=20100):
  ad prog G 4 [.str t] [] (Qt (M2 t) (.agg [.int .i64 (M1 t).e,.int .i64 (M1 t).p])):=by
 have hB:=xA t;have h1:=BT (G:=G) t a_;have h2:=Ho hU hM hH hP t (ci t) t.length ht a_ hB.1 ht;have e1:M1 t=match ca t with|.none=>jl (ci t) t.length|x=>x:=rfl
 have e2:M2 t=match ca t with|.none=>pf (ci t) t.length|_=>⟨0,[]⟩:=rfl
 have hF:=mZ (G:=G) (ca t).e (ca t).p;generalize ci t=L at*
 by_cases hl:ca t= .none
 ·rw[hl] at h1 e1 e2 hF;dsimp only at e1 e2;rw[e1,e2];simp only[Err.e,Err.p] at h1 hF;rw[show bU 0 0=true from fA.2 rfl] at hF;unfold Crd.A at h2;generalize pf L t.length=c at*
  generalize (jl L t.length).e=e at*
  generalize (jl L t.length).p=p at*
  refine ax func4 call4 λC hC hGL=> ?_;refine aK ?_;intros;exact⟨[],Ug _,_,rfl,rfl,.inr rfl⟩
 ·have hne:(ca t).e≠0:=λh=>hl (LU h);have e3:M1 t=ca t:=by
   rw[e1];split
   ·rename_i h;exact absurd h hl
   ·rfl
  have e4:M2 t=⟨0,[]⟩:=by
   rw[e2];split
   ·rename_i h;exact absurd h hl
   ·rfl
  rw[e3,e4];rw[show bU (ca t).e 0=false from lK.2 hne] at hF;generalize (ca t).e=e at*
  generalize (ca t).p=p at*
  refine mh func4 call4 λC hC hGL=> ?_;refine ay hC hGL (ao ?_);intro b2 b3 b5;intros
  refine bh mixed hC hGL false (λ_:Unit=>[(2,.own 0 (eW b2)),(3,.own 1 (eW b3))]) (λ_=>[jt b2 0 iN,kM b3 e p,kM b5 e p]) .p3 be xu ?_
  intro _
  refine ao ?_
  intros
  exact⟨[],Ug _,iN,rfl,rfl,.inl ⟨rfl,rfl⟩⟩
theorem zi {G:Glo}{m:Int}(hU:ab G utfTy)(hM:ab G (bP m))(hH:ab G shapesTy)(hP:fC G)(t:List UInt8)(ht:t.length<=20100):
  ak prog G 4 [.str t] (.tuple [(M2 t).A,.agg [.int .i64 (M1 t).e,.int .i64 (M1 t).p]]):=
 dA (wS hU hM hH hP t ht) λ_ _ h=>su h
end
section
attribute [local irreducible] bG au aa az aR ab ad
theorem qr {G:Glo}(l:List (List UInt8))(hl:l.length<=2000000):ak prog G 14 [.list 1 l.length (aB l),.list 1 l.length (aB l)] (.bool true):=by
 refine ax func14 call14 λC hC hGL=> ?_;refine aK ?_;intros;refine lp hC hGL (λk:Nat=>[(0,.list 1 l.length (aB l)),(1,.list 1 l.length (aB l)),(12,.int .i64 (l.length:Int)),(13,.int .i64 (k:Int))]) (λ_=>[]) (λk=>k<=l.length) (λk=>l.length-k) 0 (Nat.zero_le _) ?_ ?_ ?_
 ·exact ah
 ·rfl
 intro k hk;by_cases h:k<l.length
 ·refine aK ?_;intros;exact ga (k+1) h a_ ah aF
 ·exact bB
abbrev Uj (b:Nat):Value:=.pointer (some ⟨b,0,none⟩)
abbrev yT (x:Itm):List AVal:=[.int .i64 x.2.t,.str x.2.s,.list 1 x.2.L.length (gM x.2.L),.int .i64 x.2.st.y,.int .i64 x.2.st.m,.int .i64 x.2.st.d,.int .i64 x.2.st.h,.int .i64 x.2.st.i,.int .i64 x.2.st.s,.bool x.2.st.z,.int .i64 x.2.st.o,.int .i64 x.2.n]
abbrev sO (v:Int)(l:List Itm):AVal:=.rop [.int .i64 v,.list 15 l.length (eS l)] 0
def Crd.okE (c:Crd):Prop:=c.l.length<=1000000/\∀x∈c.l,Small x.2.L/\x.1.ps.length<=10000/\∀j,(x.1.ps.getD j Pr.z).vs.length<=2000000
theorem Crd.ok.E {c:Crd}(h:c.ok):c.okE:=⟨h.1,λx hx=>⟨(h.2 x hx).L,(h.2 x hx).p.ps,λj=>by have:=((h.2 x hx).p.q j).2.1;have:(x.1.ps.getD j Pr.z).vs.length<=10000:=this;omega⟩⟩
theorem Hm {G:Glo}(c:Crd)(hf:c.okE):ak prog G 7 [c.A,c.A] (.bool true):=by
 obtain⟨v,l⟩:=c;obtain⟨h70,ho⟩:=hf;dsimp only at h70 ho;unfold Crd.A;dsimp only
 refine mh func7 call7 λC hC hGL=> ?_;refine cut hC hGL [(2,sO v l),(3,sO v l)] [] True ?_ λ_=> ?_
 ·exact eK
 refine cut hC hGL [(2,sO v l),(3,sO v l)] [] True ?_ λ_=> ?_
 ·exact eK
 have hcl:=call14;refine cut hC hGL [] [] True ?_ λ_=>ay hC hGL eK;refine ao ?_;intros;refine lpA hC hGL (λk:Nat=>[(2,sO v l),(3,sO v l),(28,.int .i64 (l.length:Int)),(29,.int .i64 (k:Int))]) (λ_=>[]) (λk=>k<=l.length) (λk=>l.length-k) 0 (Nat.zero_le _) ah rfl ?_;intro k hk;by_cases h:k<l.length;case neg=>exact ay hC hGL eK
 have hO:=tE ho h;have hL:=hO.1;have hz:=GW (l.getD k Itm.z).2.st;refine kI (ay hC hGL (ao ?_));refine kI (ay hC hGL (ao ?_));intros;refine kI (m7 ?_);refine cut hC hGL [(2,sO v l),(3,sO v l),(28,.int .i64 (l.length:Int)),(29,.int .i64 (k:Int)),(5,.int .i64 (k:Int))] [] True eK λ_=> ?_;refine Td (λ_:Unit=>[(2,sO v l),(3,sO v l),(28,.int .i64 (l.length:Int)),(29,.int .i64 (k:Int)),(6,.rop (df (l.getD k Itm.z)) 0),(7,.rop (df (l.getD k Itm.z)) 0)]) (λ_=>[]) (λ_=>True) (ay hC hGL ?_) ?_
 ·refine ao ?_;refine bh mixed hC hGL false (λy:Bool×Nat×Nat=>[(2,sO v l),(3,sO v l),(28,.int .i64 (l.length:Int)),(29,.int .i64 (k:Int)),(6,if y.1 then .own 0 (Uj y.2.1) else .own 1 (Uj y.2.2)),(7,if y.1 then .own 1 (Uj y.2.2) else .own 0 (Uj y.2.1))]) (λy=>[.cells y.2.1 (some 54) (df (l.getD k Itm.z)),.cells y.2.2 (some 54) (df (l.getD k Itm.z))]) (.t 0 (.t 1 (.t 2 (.t 3 (.t 4 (.t 5 (.t 6 (.t 7 (.t 8 (.t 9 (.br 10 (.b 11 (.b 12 (.b 13 .done))) (.b 11 (.b 10 (.b 12 (.b 13 .done))))))))))))))) be ?_ ?_
  ·refine xn ?_;repeat' first|exact .n|apply Lc.mk
   all_goals intros
   all_goals first
    |exact⟨(true,_,_),⟨rfl,rfl,rfl,rfl,rfl,rfl,trivial⟩,rfl⟩
    |exact⟨(false,_,_),⟨rfl,rfl,rfl,rfl,rfl,rfl,trivial⟩,rfl⟩
  rintro⟨o,b6,b7⟩;cases o
  ·exact Wg () trivial (an (aA (i:=1) (k:=6) rfl rfl) (an (aA (i:=0) (k:=7) rfl rfl) (bL ah aF)))
  ·exact Wg () trivial (an (aA (i:=0) (k:=6) rfl rfl) (an (aA (i:=1) (k:=7) rfl rfl) (bL ah aF)))
 intro _ _;generalize l.getD k Itm.z=x at*
 refine Td (λ_:Unit=>[(2,sO v l),(3,sO v l),(28,.int .i64 (l.length:Int)),(29,.int .i64 (k:Int)),(6,.rop (df x) 0),(7,.rop (df x) 0),(8,.rop (yT x) 0),(9,.rop (yT x) 0)]) (λ_=>[]) (λ_=>True) (ay hC hGL ?_) ?_
 ·refine ao ?_
  refine bh mixed hC hGL false (λy:Bool×Nat×Nat=>[(2,sO v l),(3,sO v l),(28,.int .i64 (l.length:Int)),(29,.int .i64 (k:Int)),(6,.rop (df x) 0),(7,.rop (df x) 0),(8,if y.1 then .own 0 (Uj y.2.1) else .own 1 (Uj y.2.2)),(9,if y.1 then .own 1 (Uj y.2.2) else .own 0 (Uj y.2.1))]) (λy=>[.cells y.2.1 (some 52) (yT x),.cells y.2.2 (some 52) (yT x)]) (.t 0 (.t 1 (.t 2 (.t 3 (.br 4 (.b 5 (.b 6 (.b 7 .done))) (.b 5 (.b 4 (.b 6 (.b 7 .done))))))))) be ?_ ?_
  ·refine xn ?_
   repeat' first|exact .n|apply Lc.mk
   all_goals intros
   all_goals first
    |exact⟨(true,_,_),⟨rfl,rfl,rfl,rfl,rfl,rfl,rfl,rfl,trivial⟩,rfl⟩
    |exact⟨(false,_,_),⟨rfl,rfl,rfl,rfl,rfl,rfl,rfl,rfl,trivial⟩,rfl⟩
  rintro⟨o,b6,b7⟩
  cases o
  ·exact Wg () trivial (an (aA (i:=1) (k:=8) rfl rfl) (an (aA (i:=0) (k:=9) rfl rfl) (bL ah aF)))
  ·exact Wg () trivial (an (aA (i:=0) (k:=8) rfl rfl) (an (aA (i:=1) (k:=9) rfl rfl) (bL ah aF)))
 intro _ _
 refine cut hC hGL [(2,sO v l),(3,sO v l),(28,.int .i64 (l.length:Int)),(29,.int .i64 (k:Int)),(6,.rop (df x) 0),(7,.rop (df x) 0),(8,.rop (yT x) 0),(9,.rop (yT x) 0)] [] True ?_ λ_=> ?_
 ·refine ao ?_
  intros
  refine aZ hC hGL (sW true rfl rfl rfl rfl be be be rfl hz) rfl rfl ?_
  exact eK
 have hst:=λj=>qr (G:=G) (x.2.L.getD j []) (hL.k j).1
 have hsp:=λj=>qr (G:=G) (x.1.ps.getD j Pr.z).vs (hO.2.2 j)
 have hLn:=hL.n
 have hpn:x.1.ps.length<=10000:=hO.2.1
 refine cut hC hGL [(2,sO v l),(3,sO v l),(28,.int .i64 (l.length:Int)),(29,.int .i64 (k:Int)),(6,.rop (df x) 0),(7,.rop (df x) 0)] [] True ?_ λ_=> ?_
 ·refine ao ?_
  intros
  refine lp hC hGL (λj:Nat=>[(2,sO v l),(3,sO v l),(28,.int .i64 (l.length:Int)),(29,.int .i64 (k:Int)),(6,.rop (df x) 0),(7,.rop (df x) 0),(8,.rop (yT x) 0),(9,.rop (yT x) 0),(106,.int .i64 (x.2.L.length:Nat)),(107,.int .i64 (j:Nat))]) (λ_=>[]) (λj=>j<=x.2.L.length) (λj=>x.2.L.length-j) 0 (Nat.zero_le _) ah rfl ?_
  intro j hj
  by_cases hjl:j<x.2.L.length
  ·have hst:=hst j
   refine ao ?_
   intros
   refine bh mixed hC hGL false (λ_:Unit=>[(2,sO v l),(3,sO v l),(28,.int .i64 (l.length:Int)),(29,.int .i64 (k:Int)),(6,.rop (df x) 0),(7,.rop (df x) 0),(8,.rop (yT x) 0),(9,.rop (yT x) 0),(106,.int .i64 (x.2.L.length:Nat)),(107,.int .i64 (j:Nat)),(121,.bool false)]) (λ_=>[]) (.t 0 (.t 1 (.t 2 (.t 3 (.t 4 (.t 5 (.t 6 (.t 7 (.t 8 (.t 9 (.b 10 (.t 11 .done)))))))))))) be xu ?_
   intro _
   refine ao ?_
   intros
   exact ga (j+1) hjl a_ ah aF
  ·exact eK
 refine ay hC hGL (ao ?_)
 intros
 refine lp hC hGL (λj:Nat=>[(2,sO v l),(3,sO v l),(28,.int .i64 (l.length:Int)),(29,.int .i64 (k:Int)),(6,.rop (df x) 0),(7,.rop (df x) 0),(125,.int .i64 (x.1.ps.length:Nat)),(126,.int .i64 (j:Nat))]) (λ_=>[]) (λj=>j<=x.1.ps.length) (λj=>x.1.ps.length-j) 0 (Nat.zero_le _) ah rfl ?_
 intro j hj
 by_cases hjl:j<x.1.ps.length
 ·have hsp:=hsp j
  refine ao ?_
  intros
  refine bh mixed hC hGL false (λ_:Unit=>[(2,sO v l),(3,sO v l),(28,.int .i64 (l.length:Int)),(29,.int .i64 (k:Int)),(6,.rop (df x) 0),(7,.rop (df x) 0),(125,.int .i64 (x.1.ps.length:Nat)),(126,.int .i64 (j:Nat)),(157,.bool false)]) (λ_=>[]) (.t 0 (.t 1 (.t 2 (.t 3 (.t 4 (.t 5 (.t 6 (.t 7 (.t 8 (.t 9 (.t 10 (.t 11 (.t 12 (.t 13 (.t 14 (.t 15 (.t 16 (.t 17 (.t 18 (.t 19 (.t 20 (.t 21 (.t 22 (.t 23 (.t 24 (.t 25 (.b 26 (.t 27 (.t 28 .done))))))))))))))))))))))))))))) be xu ?_
  intro _
  refine ao ?_
  intros
  exact ga (j+1) hjl a_ ah aF
 ·refine ao ?_
  intros
  refine ay hC hGL (ao ?_)
  intros
  exact ga (k+1) h a_ ah aF
theorem LF {G:Glo}(c:Crd)(hf:c.ok):ak prog G 7 [c.A,c.A] (.bool true):=Hm c hf.E
end
section
theorem Wu (t:List UInt8)(ht:t.length<=20100):(M2 t).ok:=by
 have hB:=xA t;have h0:(⟨0,[]⟩:Crd).ok:=⟨Nat.zero_le _,λx hx=>by cases hx⟩;unfold M2;split
 ·unfold pf;split
  ·refine⟨?_,λx hx=>(HT hB.1 x hx).mono b_⟩;show(kZ _ _ _).length<=1000000;rw[jg];omega
  ·exact h0
 ·exact h0
attribute [local irreducible] bG au aa az aR ab ad
attribute [local irreducible] M2 M1 eS
theorem xF {G:Glo}{m:Int}(hU:ab G utfTy)(hE:ab G errTy)(hE2:pq G)(hP:fC G)(hM:ab G (bP m))(hH:ab G shapesTy)(hS:qh G)(t:List UInt8)(hl:t.length<=9223372036854775807):ak prog G 3 [.str t] (.bool true):=by
 by_cases hb:(5000<t.length/\t.length<=20000)\/20009<t.length
 ·refine ax func3 call3 λC hC hGL=> ?_;rcases hb with⟨g1,g2⟩|g1<;>exact bB
 have ht:t.length<=20100:=by omega
 have h1:=zi (G:=G) hU hM hH hP t ht;have h2:=IE (G:=G) hE hE2 hU hP hM hS t ht;have h3:=LF (G:=G) (M2 t) (Wu t ht);have hpl:=LJ (G:=G) hE (M1 t);have hc1:=call6;have hc2:=call7;unfold Crd.A at*
 generalize M1 t=e at*
 generalize M2 t=c at*
 refine ax func3 call3 λC hC hGL=> ?_;cases e<;>simp only[Err.A,Err.e,Err.p,lJ,sP] at h1 h2 hpl
 all_goals exact bB
end
section
open Go Go.ChangeShapes Go.WideShapes
theorem yB {W:World}{a:Addr}{v:Value}(h:W.cell? a=some v):∃b o C e fz,a=⟨b,o,none⟩/\W.heap[b]? =some (.cells C e fz):=by
 obtain⟨b,o,sp⟩:=a;unfold World.cell? at h;dsimp only at h;cases hW:W.heap[b]? with
 |none=>rw[hW] at h;cases h
 |some ob=>
  cases ob with
  |cells C e fz=>
   rw[hW] at h;cases sp with
   |some s=>simp at h
   |none=>exact⟨b,o,C,e,fz,rfl,hW⟩
  |_=>rw[hW] at h;cases h
theorem Gf (b o i:Nat):(⟨b,o,none⟩:Addr).add i=⟨b,o+i,none⟩:=by
 unfold Addr.add;split
 ·rename_i h;rw[h];rfl
 ·rfl
theorem Tl {W:World}{b o:Nat}{C:Array Value}{e:TypeId}{fz:Nat×Nat}(hW:W.heap[b]? =some (.cells C e fz)):W.cell? ⟨b,o,none⟩=C.toList[o]? :=by
 unfold World.cell?;simp[hW]
theorem IB {W:World}{base b o n:Nat}{C:Array Value}{e:TypeId}{fz:Nat×Nat}(hW:W.heap[b]? =some (.cells C e fz)){cs:List Value}(h:W.cells? base ⟨b,o,none⟩ n=some cs):(C.toList.drop o).take n=cs:=by
 obtain⟨_,hl,hi⟩:=World.cells?_some h;have hx:∀i,i<n->C.toList[o+i]? =cs[i]? :=λi k=>by
  have:=hi i k;rwa [Gf,Tl hW] at this
 apply List.ext_getElem?;intro i;by_cases k:i<n
 ·rw[List.getElem?_take_of_lt k,List.getElem?_drop,hx i k]
 ·rw[P_ (by rw[i_];omega),P_ a_]
theorem Ea {R:Seal}{x y z:List UInt8}{cs:List Value}{s0 s1 s2:ByteArray}(h:cs=[.string s0,.string s1,.string s2])(h0:s0.data.toList=x)(h1:s1.data.toList=y)(h2:s2.data.toList=z):bJ R (.agg [.str x,.str y,.str z]) cs:=by
 subst h h0 h1 h2;exact⟨_,_,rfl,by rw[bJ,Bn],_,_,rfl,by rw[bJ,Bn],_,_,rfl,by rw[bJ,Bn],rfl⟩
theorem NE {α:Type}{l:List α}(h:l.length=3):∃a b c,l=[a,b,c]:=by
 match l,h with
 |[a,b,c],_=>exact⟨a,b,c,rfl⟩
def wx {H:Type}(i:Nat):DataW H:=.agg [.lit (.string (j3 i)),.lit (.string (bQ i)),.lit (.string (aX i))]
theorem DK {W:World}{laid:List (String×DataW Unit)}(hL:laidMetH prog laid W)(hm:("visitingcard/visitingcardref.shapes",Rows.laid_visitingcard_visitingcardref_shapes)∈laid):dK (cg W W.heap.size) 1 0 [.list 3 7 kT]:=by
 obtain⟨C0,e0,fz0,fuel,p,hW0,hd⟩:=nI hL hm be (g:=1) (t:=215) be be
 rcases Go.Deep.open_slice underlying215 hd with⟨_,hx⟩|⟨a,len,cap,m,n,D,Pl,hv,_,hl,_,hm2,hx,hi⟩
 ·cases hx
 have e1:(List.range 7).map (fun i=>(wx i:DataW Unit))=(List.range len).map D:=by
  have:=(DataW.slice.inj (Prod.mk.inj hx).1).1
  rw[←this]
  rfl
 have hlen:len=7:=by
  have:=congrArg List.length e1
  simpa using this.symm
 subst hlen
 have hD:∀i,i<7→D i=wx i:=fun i k=>by
  have h1:((List.range 7).map D)[i]? =some (D i):=by simp[k]
  have h2:((List.range 7).map (fun i=>(wx i:DataW Unit)))[i]? =some (wx i):=by simp[k]
  rw[e1,h1] at h2
  exact Option.some.inj h2
 have hm7:7≤m:=by rw[hm2];split<;>omega
 have hc3:prog.cellsOf 216=3:=by kernel_rfl
 have hc1:prog.cellsOf 9=1:=by kernel_rfl
 rw[hc3] at hi
 obtain⟨c0,hc0,_⟩:=hi 0 a_
 have hcell:∃v,W.cell? a=some v:=by
  obtain⟨_,h1,h2⟩:=World.cells?_some hc0
  have h3:=h2 0 b_
  rw[Nat.zero_mul,show(a.add 0).add 0=a from rfl,y_ a_] at h3
  exact⟨_,h3⟩
 obtain⟨v,hv0⟩:=hcell
 obtain⟨b,o,C,e,fz,rfl,hWb⟩:=yB hv0
 refine i7 (pj hW0) hW0 ?_
 rw[hv]
 refine⟨_,_,rfl,⟨some ⟨b,o,none⟩,cap,rfl,hl,.inr ⟨b,o,C,e,fz,rfl,?_,fun i k=> ?_⟩⟩,rfl⟩
 ·unfold cg
  rw[if_pos (pj hWb)]
  exact hWb
 ·obtain⟨cs,h1,h2⟩:=hi i a_
  rw[Gf] at h1
  have h3:=IB hWb h1
  rw[h3]
  rw[hD i k] at h2
  obtain⟨y0,y1,y2,n2,hy,hcl,g0,g1,g2⟩:=Go.Deep.trod_struct3 underlying216 h2
  rw[hc3] at hcl
  obtain⟨s0,q0,r0,_⟩:=DataW.trod_string underlying9 g0
  obtain⟨s1,q1,r1,_⟩:=DataW.trod_string underlying9 g1
  obtain⟨s2,q2,r2,_⟩:=DataW.trod_string underlying9 g2
  have hy1:=(Prod.mk.inj hy).1
  rw[r0,r1,r2] at hy1
  unfold wx at hy1
  simp only[DataW.agg.injEq,o_,DataW.lit.injEq,Lit.string.injEq,and_true] at hy1
  refine Ea (s0:=s0) (s1:=s1) (s2:=s2) ?_ hy1.1.symm hy1.2.1.symm hy1.2.2.symm
  obtain⟨u0,u1,u2,rfl⟩:=NE hcl
  have q0:([u0,u1,u2].drop 0).take (prog.cellsOf 9)=[.string s0]:=q0
  have q1:([u0,u1,u2].drop 1).take (prog.cellsOf 9)=[.string s1]:=q1
  have q2:([u0,u1,u2].drop 2).take (prog.cellsOf 9)=[.string s2]:=q2
  rw[hc1] at q0 q1 q2
  simp at q0 q1 q2
  rw[q0,q1,q2]
theorem Tj {W:World}{g:Nat}{v:Value}(h:W.cell? ⟨g,0,none⟩=some v):g<W.heap.size:=by
 obtain⟨b,o,C,e,fz,ha,hW⟩:=yB h;cases ha;exact pj hW
end
section
open Go Go.ChangeShapes Go.WideShapes
def Uc:Glo:=⟨λR=>∃e fz,R 3=some (.cells (Lib.asciiSpaceTab.map λz=>Value.int .u8 z).toArray e fz),λ_ _ hle ⟨e,fz,h⟩=>⟨e,fz,hle _ _ h⟩⟩
theorem RU {W:World}{k:Nat}(hk:3<k){laid:List (String×DataW Unit)}(hL:laidMetH prog laid W)(hm:("strings.asciiSpace",Rows.laid_strings_asciiSpace)∈laid):Uc.p (cg W k):=by
 obtain⟨C,e,fz,fuel,p,hW,hd⟩:=nI hL hm be (g:=3) (t:=236) be be
 have e0:(Rows.laid_strings_asciiSpace:DataW Unit)= .agg (((List.range 256).map fun i=>if Lib.isSp (UInt8.ofNat i) then 1 else 0).map fun x:Nat=>.lit (.int .u8 (x:Int))):=by kernel_rfl
 rw[e0] at hd
 have hc:=sT (n:=256) underlying236 underlying5 be be hd (by rw[C_,List.length_range])
 have e1:C=(Lib.asciiSpaceTab.map fun z=>Value.int .u8 z).toArray:=by
  apply Array.ext'
  rw[hc]
  kernel_rfl
 refine⟨e,fz,?_⟩
 unfold cg
 rw[if_pos hk,hW,e1]
end
section
open Go Go.ChangeShapes Go.WideShapes Go.ChangeAt Go.RowKit Go.WideMaps Go.WideElems
theorem NB {H:Type}{enc:TypeId×Value->H}{P:Program}{W:World}{base:Nat}{spare:Nat->Bool}{fuel:Nat}{t:TypeId}{ms:Array (String×TypeId)}{cs:List Value}{nm:String}{x:DataW H}{p:List MemPlace}(ht:P.underlying t=some (.interface ms))(h:DataW.trod enc P W base spare false fuel t cs=some (.iface nm x,p)):∃u v,cs=[.iface u v]:=by
 cases fuel with
 |zero=>simp[DataW.trod] at h
 |succ n=>
  rcases cs with _|⟨c,_|⟨c2,r⟩⟩
  ·simp[DataW.trod,ht] at h
  ·cases c with
   |iface u v=>exact⟨_,_,rfl⟩
   |_=>simp[DataW.trod,ht] at h
  ·simp[DataW.trod,ht] at h
theorem FE {W:World}{laid:List (String×DataW Unit)}(hL:laidMetH prog laid W){n nm:String}{x:DataW Unit}(hm:(n,.iface nm x)∈laid)(hn:(DataW.iface nm x).handleName?.isNone=true){g:Nat}(hg:prog.globalNamed n=some g)(ht:(prog.globals[g]?).map (·.type)=some 31):Be g (cg W W.heap.size):=by
 obtain⟨C,e,fz,fuel,p,hW,hd⟩:=nI hL hm hn hg ht;obtain⟨u,v,h⟩:=NB underlying31 hd;refine⟨u,v,e,fz,?_⟩;unfold cg;rw[if_pos (pj hW),hW];obtain⟨l⟩:=C;obtain rfl:=h;rfl
def SS:Glo:=⟨λR=>Be 8 R/\Be 9 R,λ_ _ hle ⟨⟨t,v,e,fz,h⟩,⟨t2,v2,e2,fz2,h2⟩⟩=>⟨⟨t,v,e,fz,hle _ _ h⟩,⟨t2,v2,e2,fz2,hle _ _ h2⟩⟩⟩
noncomputable def uy (m:Int):Glo:=Cn (Ud (utfTy++errTy++bP m++shapesTy)) (Cn PI (Cn SS Uc))
theorem Wn {m:Int}:ab (uy m) utfTy:=sf (p4 λx h=>List.mem_append_left _ (List.mem_append_left _ (List.mem_append_left _ h)))
theorem Wr {m:Int}:ab (uy m) errTy:=sf (p4 λx h=>List.mem_append_left _ (List.mem_append_left _ (List.mem_append_right _ h)))
theorem Wq {m:Int}:ab (uy m) (bP m):=sf (p4 λx h=>List.mem_append_left _ (List.mem_append_right _ h))
theorem Wo {m:Int}:ab (uy m) shapesTy:=sf (p4 λx h=>List.mem_append_right _ h)
theorem Wp {m:Int}:fC (uy m):=λ_ h=>h.2.1
theorem Tf {m:Int}:pq (uy m):=λ_ h=>h.2.2.1
theorem X0 {m:Int}:qh (uy m):=λ_ h=>h.2.2.2
theorem VO {W:World}{m:Int}(hm:W.cell? ⟨2,0,none⟩=some (.int .i64 m)){laid:List (String×DataW Unit)}(h0:("unicode/utf8.first",Rows.laid_unicode_utf8_first)∈laid)(h4:("unicode/utf8.acceptRanges",Rows.laid_unicode_utf8_acceptRanges)∈laid)(h1:("errors.errorType",Rows.laid_errors_errorType)∈laid)
  (h3:("visitingcard/visitingcardref.shapes",Rows.laid_visitingcard_visitingcardref_shapes)∈laid) (h2:("strings.asciiSpace",Rows.laid_strings_asciiSpace)∈laid) (h5:("internal/strconv.uint64pow10",Rows.laid_internal_strconv_uint64pow10)∈laid) (h6:("strconv.ErrSyntax",Rows.laid_strconv_ErrSyntax)∈laid) (h7:("strconv.ErrRange",Rows.laid_strconv_ErrRange)∈laid) (hL:laidMetH prog laid W):(uy m).p (cg W W.heap.size):=by
 refine⟨fun x hx=> ?_,Ov (vp hL h5 be (g:=10) (t:=372) be be) hL h5,⟨FE hL h6 be be be,FE hL h7 be be be⟩,RU (vp hL h2 be (g:=3) (t:=236) be be) hL h2⟩
 simp only[Lu,L_,p_,t_,or_false] at hx
 rcases hx with rfl|rfl|rfl|rfl|hx
 ·exact Ig (vp hL h0 be (g:=6) (t:=236) be be) hL h0
 ·exact Gg (vp hL h4 be (g:=7) (t:=295) be be) hL h4
 ·exact In (V4 hL h1) hL h1
 ·exact HA (Tj hm) hm
 ·obtain rfl:=List.mem_singleton.1 (show x∈[(1,[AVal.list 3 7 kT])] from hx)
  exact DK hL h3
end
end Go.Proofs.YtnbaflecdkgihaaGreatDoor
