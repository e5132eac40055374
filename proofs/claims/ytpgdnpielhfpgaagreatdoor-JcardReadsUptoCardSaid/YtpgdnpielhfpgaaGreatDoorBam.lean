/- Parts of the proof of jcardReads_card. -/
import Derived.Lib.MapLaws
import Derived.Test.YtpgdnpielhfpgaaGreatDoorRows
import Derived.ProofKit
import Derived.LaidMore
import Derived.Lay
import Derived.Stop.Joined
import Derived.LaidSub
import Derived.LaidHandle
import Derived.OpenShut
import Derived.Lib.LastIndexByte
import Derived.Lib.Replace
import Derived.Test.YtpgdnpielhfpgaaGreatDoorBal
set_option linter.unusedVariables false
set_option linter.unusedSimpArgs false
set_option linter.unusedSectionVars false
namespace Go.Proofs.YtpgdnpielhfpgaaGreatDoor
open Go Go.RowKit
open Go.Proofs.Tryz Go.Proofs.YtpgdnpielhfpgaaGreatDoor.Tryz
set_option maxRecDepth 20000
set_option maxHeartbeats 4000000
section
def Ht (a b:List (List UInt8)):Nat->Bool
 |0=>true
 |k+1=>Ht a b k&&aS (a.getD k []) (b.getD k [])
def P4 (f:Js->Js->Bool)(a b:List Js):Nat->Bool
 |0=>true
 |k+1=>P4 f a b k&&f (aA a k) (aA b k)
def fL (a b:Js):Bool:=cm a.k b.k&&(aS a.t b.t&&(cm (a.ks.length:Nat) (b.ks.length:Nat)&&cm (a.l.length:Nat) (b.l.length:Nat)))
def oZ:Nat->Js->Js->Bool
 |0,a,b=>fL a b&&Ht a.ks b.ks a.ks.length
 |d+1,a,b=>fL a b&&(Ht a.ks b.ks a.ks.length&&P4 (oZ d) a.l b.l a.l.length)
theorem Fj {a b:List (List UInt8)}{k:Nat}(h:aS (a.getD k []) (b.getD k [])=false):∀n,k<n->Ht a b n=false
 |0,hn=>absurd hn (Nat.not_lt_zero _)
 |n+1,hn=>by
  rw[Ht];rcases Nat.lt_or_ge k n with g|g
  ·rw[Fj h n g,Bool.false_and]
  ·obtain rfl:k=n:=by omega
   rw[h,Bool.and_false]
theorem L4 {f:Js->Js->Bool}{a b:List Js}{k:Nat}(h:f (aA a k) (aA b k)=false):∀n,k<n->P4 f a b n=false
 |0,hn=>absurd hn (Nat.not_lt_zero _)
 |n+1,hn=>by
  rw[P4];rcases Nat.lt_or_ge k n with g|g
  ·rw[L4 h n g,Bool.false_and]
  ·obtain rfl:k=n:=by omega
   rw[h,Bool.and_false]
theorem NM {a b:Js}(h:fL a b=true):a.k=b.k/\a.t=b.t/\a.ks.length=b.ks.length/\a.l.length=b.l.length:=by
 unfold fL at h;simp only[Bool.and_eq_true] at h;obtain⟨h1,h2,h3,h4⟩:=h;exact⟨bP.1 h1,bx.1 h2,by have:=bP.1 h3;omega,by have:=bP.1 h4;omega⟩
theorem Rb {a b:Js}(h1:a.k=b.k)(h2:a.t=b.t)(h3:a.ks.length=b.ks.length)(h4:a.l.length=b.l.length):fL a b=true:=by
 unfold fL;rw[bP.2 h1,bx.2 h2,h3,h4,bP.2 rfl,bP.2 rfl];rfl
attribute [local irreducible] bN aw aa aC bg ab ae
attribute [local irreducible] Ht P4 fL
theorem zA {G:Glo}(d e:Nat)(x y:Js)(h:fL x y=false):aj prog G 12 [.agg (Js.C d x),.agg (Js.C e y)] (.bool false):=by
 unfold Js.C;by_cases h1:x.k=y.k
 ·by_cases h2:x.t=y.t
  ·by_cases h3:x.ks.length=y.ks.length
   ·have h4:x.l.length≠y.l.length:=λh4=>by rw[Rb h1 h2 h3 h4] at h;cases h
    refine fN func12 call12 λC hC hGL=> ?_;exact am hC hGL ba
   ·refine fN func12 call12 λC hC hGL=> ?_;exact am hC hGL ba
  ·refine fN func12 call12 λC hC hGL=> ?_;exact am hC hGL ba
 ·refine fN func12 call12 λC hC hGL=> ?_;exact am hC hGL ba
theorem wy {G:Glo}(B:Nat)(hB:B<=1000000000):∀(d:Nat) (x:Js) (e:Nat) (y:Js),Js.fits B d x->Js.le e y->aj prog G 12 [.agg (Js.C d x),.agg (Js.C e y)] (.bool (oZ d x y)):=by
 intro d;induction d with
 |zero=>
  intro x e y hx hy;obtain⟨h1,h2⟩:=hx;cases hh:fL x y with
  |false=>
   have es:oZ 0 x y=false:=by rw[oZ,hh];rfl
   rw[es];exact zA 0 e x y hh
  |true=>
   have es:oZ 0 x y=Ht x.ks y.ks x.ks.length:=by rw[oZ,hh];rfl
   rw[es];obtain⟨e1,e2,e3,e4⟩:=NM hh;have hl0:x.l.length=0:=by rw[h2];rfl
   unfold Js.C;refine fN func12 call12 λC hC hGL=> ?_;refine am hC hGL (a6 ?_);intros;refine lp hC hGL (λk:Nat=>[(2,.rop (Js.C (0) x) 0),(3,.rop (Js.C e y) 0),(39,.int .i64 (x.ks.length:Nat)),(40,.int .i64 (k:Nat))]) (λ_=>[]) (λk=>k<=x.ks.length/\Ht x.ks y.ks k=true) (λk=>x.ks.length-k) 0 ⟨Nat.zero_le _,by unfold Ht;rfl⟩ ad rfl ?_;rintro k ⟨hk,hs⟩;by_cases h:k<x.ks.length
   ·by_cases hq:x.ks.getD k []=y.ks.getD k []
    ·refine a6 ?_;intros;exact cJ (k+1) ⟨h,by unfold Ht;rw[hs,bx.2 hq];rfl⟩ (by omega) ad an
    ·rw[Fj (du.2 hq) _ h];exact ba
   obtain rfl:k=x.ks.length:=by omega
   rw[hs];refine a6 ?_;intros;refine og hC hGL 1 ?_;exact ba
 |succ d ih=>
  intro x e y hx hy;obtain⟨h1,h2,h3⟩:=hx;cases hh:fL x y with
  |false=>
   have es:oZ (d+1) x y=false:=by rw[oZ,hh];rfl
   rw[es];exact zA (d+1) e x y hh
  |true=>
   have es:oZ (d+1) x y=(Ht x.ks y.ks x.ks.length&&P4 (oZ d) x.l y.l x.l.length):=by rw[oZ,hh];rfl
   rw[es];obtain⟨e1,e2,e3,e4⟩:=NM hh;have hcl:=call12;unfold Js.C;refine fN func12 call12 λC hC hGL=> ?_;refine am hC hGL (a6 ?_);intros;refine lp hC hGL (λk:Nat=>[(2,.rop (Js.C (d+1) x) 0),(3,.rop (Js.C e y) 0),(39,.int .i64 (x.ks.length:Nat)),(40,.int .i64 (k:Nat))]) (λ_=>[]) (λk=>k<=x.ks.length/\Ht x.ks y.ks k=true) (λk=>x.ks.length-k) 0 ⟨Nat.zero_le _,by unfold Ht;rfl⟩ ad rfl ?_;rintro k ⟨hk,hs⟩;by_cases h:k<x.ks.length
   ·by_cases hq:x.ks.getD k []=y.ks.getD k []
    ·refine a6 ?_;intros;exact cJ (k+1) ⟨h,by unfold Ht;rw[hs,bx.2 hq];rfl⟩ (by omega) ad an
    ·rw[Fj (du.2 hq) _ h,Bool.false_and];exact ba
   obtain rfl:k=x.ks.length:=by omega
   rw[hs,Bool.true_and];refine a6 ?_;intros;refine lp hC hGL (λk:Nat=>[(2,.rop (Js.C (d+1) x) 0),(3,.rop (Js.C e y) 0),(57,.int .i64 (x.l.length:Nat)),(58,.int .i64 (k:Nat))]) (λ_=>[]) (λk=>k<=x.l.length/\P4 (oZ d) x.l y.l k=true) (λk=>x.l.length-k) 0 ⟨Nat.zero_le _,by unfold P4;rfl⟩ ad rfl ?_;rintro k ⟨hk,hs⟩;by_cases h:k<x.l.length
   ·obtain⟨e',rfl,he⟩:=e8 hy (show k<y.l.length by omega);have hi:=ih (aA x.l k) e' (aA y.l k) (h3 k h) he;cases hq:oZ d (aA x.l k) (aA y.l k) with
    |true=>
     rw[hq] at hi;refine a6 ?_;intros;exact cJ (k+1) ⟨h,by unfold P4;rw[hs,hq];rfl⟩ (by omega) ad an
    |false=>
     rw[hq] at hi;rw[L4 hq _ h];exact ba
   obtain rfl:k=x.l.length:=by omega
   rw[hs];exact ba
end
section
abbrev pJ (b:Nat):Value:=.pointer (some ⟨b,0,none⟩)
abbrev WI (b:Nat)(i:Int):HEnt:=.cells b (some 3) [.int .i64 i]
abbrev Q4 (b i:Nat):HEnt:=WI b (i:Nat)
abbrev WJ (b:Nat)(s:List UInt8):AVal:=.func (.func 126) [] [.own 0 (pJ b),.rop [.str s] 0]
def yv (s:List UInt8):Nat:=if xQ s<s.length/\aa s (xQ s)=48 then xQ s+1 else me s (xQ s)
theorem MT (s:List UInt8):pL s=if yv s=xQ s then 0 else KZ s (yv s):=by
 unfold pL yv;split
 ·rw[if_neg (by omega)]
 ·rfl
def Ue (s:List UInt8)(b:Nat):Nat:=if b<s.length/\aa s b=46 then me s (b+1) else b
def xR (c:Nat):Nat:=if c=45 then 1 else if c=48 then 2 else if 49<=c/\c<=57 then 3 else if c=46 then 4 else if c=101\/c=69 then 5 else if c=43 then 6 else 0
def WH (t k:Nat):Nat:=
 if t=0/\k=1 then 1
 else if(t=0\/t=1)/\k=2 then 2
 else if(t=0\/t=1\/t=3)/\(k=2\/k=3) then 3
 else if(t=2\/t=3)/\k=4 then 4
 else if(t=4\/t=5)/\(k=2\/k=3) then 5
 else if(t=2\/t=3\/t=5)/\k=5 then 6
 else if t=6/\(k=6\/k=1) then 7
 else if(t=6\/t=7\/t=8)/\(k=2\/k=3) then 8
 else 9
theorem MV (c:Nat):(c=45/\xR c=1)\/(c=48/\xR c=2)\/((49<=c/\c<=57)/\xR c=3)\/(c=46/\xR c=4)\/(c=101/\xR c=5)\/(c=69/\xR c=5)\/(c=43/\xR c=6)\/((c<43\/c=44\/c=47)/\xR c=0)\/(58<=c/\c≠101/\c≠69/\xR c=0):=by
 unfold xR
 (repeat' split)<;>omega
theorem VT (t c:Nat):uw t c=WH t (xR c):=by
 have h:=MV c;have h1:(48<=c/\c<=57)↔(xR c=2\/xR c=3):=by omega
 have h2:c=45↔xR c=1:=by omega
 have h3:c=48↔xR c=2:=by omega
 have h4:c=46↔xR c=4:=by omega
 have h5:(c=101\/c=69)↔xR c=5:=by omega
 have h6:(c=43\/xR c=1)↔(xR c=6\/xR c=1):=by omega
 unfold uw WH;simp only[h1,h2,h3,h4,h5,h6]
def stN:Nat->List UInt8
 |0=>[115,116,97,114,116]
 |1=>[109,105,110,117,115]
 |2=>[122,101,114,111]
 |3=>[105,110,116]
 |4=>[100,111,116]
 |5=>[102,114,97,99]
 |6=>[101]
 |7=>[115,105,103,110]
 |_=>[101,120,112]
attribute [local irreducible] bN aw aa aC bg ab ae
attribute [local irreducible] pL
theorem FU {G:Glo}(b:Nat)(s:List UInt8)(i:Nat)(hl:s.length<=4611686018427387904)(hi:i<=s.length):ae prog G 126 [.raw (pJ b),.rop [.str s] 0] [Q4 b i] (λr H=>r= .ret (.bool (lx (i:Int) (me s i:Nat)))/\H=[Q4 b (me s i)]):=by
 have hGL:ab G []:=aG;refine wX [(0,0,pJ b)] func126 call126 rfl rfl rfl rfl (by repeat (first|exact trivial|refine And.intro ⟨rfl,rfl⟩ ?_)) ?_;intro C hC;refine am hC hGL (az ?_);intros;refine lp hC hGL (λk:Nat=>[(0,.own 0 (pJ b)),(1,.rop [.str s] 0),(3,.int .i64 (i:Nat))]) (λk=>[Q4 b k]) (λk=>i<=k/\k<=s.length/\me s k=me s i) (λk=>s.length-k) i ⟨Nat.le_refl _,hi,rfl⟩ ad rfl ?_;rintro k ⟨k1,k2,k3⟩;by_cases h:k<s.length/\48<=aa s k/\aa s k<=57
 ·have e:=nR h.1 h.2.1 h.2.2
  obtain⟨h1,h2,h3⟩:=h
  refine az ?_
  intros
  exact cJ (k+1) ⟨by omega,by omega,by omega⟩ (by omega) ad an
 ·have e:=nQ h
  rw[<-k3,e]
  by_cases h1:k<s.length
  ·by_cases h2:48<=aa s k
   ·have h3:¬aa s k<=57:=λh3=>h ⟨h1,h2,h3⟩
    exact cx
   ·exact cx
  ·exact cx
theorem DH {G:Glo}(s:List UInt8)(hl:s.length<=4611686018427387904):aj prog G 75 [.str s] (.int .i64 (pL s:Nat)):=by
 rw[MT];refine fN func75 call75 λC hC hGL=> ?_;refine cut hC hGL [(1,.rop [.str s] 0),(2,.int .i64 0)] [] True cx λ_=> ?_;refine dU hC hGL (λb:Nat=>[(1,.rop [.str s] 0),(2,.int .i64 0),(3,.own 0 (pJ b))]) (λb=>[Q4 b 0]) (λ_=>True) ?_ ?_
 ·refine az ?_;intro b;exact cy b trivial
 intro b _;have hD:=λi hi=>FU (G:=G) b s i hl hi;refine cut hC hGL [(1,.rop [.str s] 0),(2,.int .i64 0),(3,.own 0 (pJ b)),(4,WJ b s)] [Q4 b 0] True cx λ_=> ?_;refine cut hC hGL [(1,.rop [.str s] 0),(2,.int .i64 0),(3,.own 0 (pJ b)),(4,WJ b s)] [Q4 b (xQ s)] True ?_ λ_=> ?_
 ·unfold xQ;by_cases h:0<s.length/\aa s 0=45
  ·rw[if_pos h];obtain⟨h1,h2⟩:=h;exact cx
  ·rw[if_neg h];by_cases h1:0<s.length
   ·have h2:aa s 0≠45:=λh2=>h ⟨h1,h2⟩;exact cx
   ·exact cx
 have hm:=TR s;by_cases hn:yv s=xQ s
 ·rw[if_pos hn];unfold yv at hn;generalize xQ s=m at*
  by_cases h:m<s.length/\aa s m=48
  ·rw[if_pos h] at hn;omega
  ·rw[if_neg h] at hn;have hD:=hD m (by omega);rw[hn] at hD;by_cases h1:m<s.length
   ·have h2:aa s m≠48:=λh2=>h ⟨h1,h2⟩;exact am hC hGL cx
   ·exact am hC hGL cx
 rw[if_neg hn];have hi:yv s<=s.length:=by
  have:=(mJ s (xQ s)).2;unfold yv;split<;>omega
 refine cut hC hGL [(1,.rop [.str s] 0),(3,.own 0 (pJ b)),(4,WJ b s)] [Q4 b (yv s)] True ?_ λ_=> ?_
 ·unfold yv at*
  generalize xQ s=m at*
  by_cases h:m<s.length/\aa s m=48
  ·rw[if_pos h];obtain⟨h1,h2⟩:=h;exact cx
  ·rw[if_neg h] at*
   have hD:=hD m (by omega);have hg:=(mJ s m).1;by_cases h1:m<s.length
   ·have h2:aa s m≠48:=λh2=>h ⟨h1,h2⟩;exact cx
   ·exact cx
 clear hm hn;generalize yv s=a at*
 have hD1:a+1<=s.length->ae prog G 126 [.raw (pJ b),.rop [.str s] 0] [WI b ((a:Int)+1)] (λr H=>r= .ret (.bool (lx ((a:Int)+1) (me s (a+1):Nat)))/\H=[Q4 b (me s (a+1))]):=hD (a+1);have hg1:=mJ s (a+1);by_cases hf:(a<s.length/\aa s a=46)/\me s (a+1)=a+1
 ·obtain⟨h,h3⟩:=hf;rw[show KZ s a=a by unfold KZ;rw[if_pos h,if_pos h3]];obtain⟨h1,h2⟩:=h;have hD1:=hD1 (by omega);rw[h3] at hD1;exact am hC hGL cx
 have hf2:KZ s a=SA s (Ue s a):=by
  unfold KZ Ue;by_cases h:a<s.length/\aa s a=46
  ·rw[if_pos h,if_pos h,if_neg λh3=>hf ⟨h,h3⟩]
  ·rw[if_neg h,if_neg h]
 have hf3:Ue s a<=s.length:=by unfold Ue;split<;>omega
 rw[hf2];refine cut hC hGL [(1,.rop [.str s] 0),(3,.own 0 (pJ b)),(4,WJ b s)] [Q4 b (Ue s a)] True ?_ λ_=> ?_
 ·unfold Ue;by_cases h:a<s.length/\aa s a=46
  ·have h3:me s (a+1)≠a+1:=λh3=>hf ⟨h,h3⟩;rw[if_pos h];obtain⟨h1,h2⟩:=h;have hD1:=hD1 (by omega);exact cx
  ·rw[if_neg h];by_cases h1:a<s.length
   ·have h2:aa s a≠46:=λh2=>h ⟨h1,h2⟩;exact cx
   ·exact cx
 clear hf hf2 hg1 hD1;generalize Ue s a=c at*
 unfold SA;by_cases h:c<s.length/\(aa s c=101\/aa s c=69)
 ·rw[if_pos h];obtain⟨h1,h2⟩:=h;have hs:=Te s (c+1);have hg:=(mJ s (Fp s (c+1))).1;have hD:=hD (Fp s (c+1)) (by omega);unfold Fp at*
  by_cases h3:c+1<s.length/\(aa s (c+1)=43\/aa s (c+1)=45)
  ·rw[if_pos h3] at*
   obtain⟨h3,h4⟩:=h3;change ae _ _ _ _ [WI b ((c:Int)+1+1)] _ at hD;by_cases h5:me s (c+1+1)=c+1+1
   ·rw[if_pos h5];rw[h5] at hD;rcases h2 with h2|h2<;>rcases h4 with h4|h4<;>exact am hC hGL cx
   ·rw[if_neg h5];rcases h2 with h2|h2<;>rcases h4 with h4|h4<;>exact am hC hGL cx
  ·rw[if_neg h3] at*
   change ae _ _ _ _ [WI b ((c:Int)+1)] _ at hD;by_cases h6:c+1<s.length
   ·have h7:aa s (c+1)≠43/\aa s (c+1)≠45:=⟨λh2=>h3 ⟨h6,.inl h2⟩,λh2=>h3 ⟨h6,.inr h2⟩⟩;by_cases h5:me s (c+1)=c+1
    ·rw[if_pos h5];rw[h5] at hD;rcases h2 with h2|h2<;>exact am hC hGL cx
    ·rw[if_neg h5];rcases h2 with h2|h2<;>exact am hC hGL cx
   ·by_cases h5:me s (c+1)=c+1
    ·rw[if_pos h5];rw[h5] at hD;rcases h2 with h2|h2<;>exact am hC hGL cx
    ·rw[if_neg h5];rcases h2 with h2|h2<;>exact am hC hGL cx
 ·rw[if_neg h];by_cases h1:c<s.length
  ·have h2:aa s c≠101/\aa s c≠69:=⟨λh2=>h ⟨h1,.inl h2⟩,λh2=>h ⟨h1,.inr h2⟩⟩;exact am hC hGL cx
  ·exact am hC hGL cx
theorem C1 {G:Glo}(s:List UInt8)(hl:s.length<=4611686018427387904):aj prog G 30 [.str s] (.int .i64 (pL s:Nat)):=by
  rw[<-WY];refine fN func30 call30 λC hC hGL=> ?_;refine am hC hGL (az ?_);intro bl cap _;refine lp hC hGL (λx:Nat×Nat×Nat=>[(3,.int .i64 (x.2.2:Nat)),(4,.str (stN x.2.1)),(9,.own 0 (.slice (some ⟨bl,0,none⟩) s.length cap)),(10,.int .i64 (s.length:Nat)),(11,.int .i64 (x.1:Nat))]) (λ_=>[.buf bl s cap]) (λx=>x.1<=s.length/\x.2.1<=8/\x.2.2<=x.1/\zm s x.1 x.2.1 x.2.2=zm s 0 0 0) (λx=>s.length-x.1) (0,0,0) ⟨Nat.zero_le _,by decide,Nat.le_refl _,rfl⟩ ad rfl ?_;rintro⟨i,t,b⟩ ⟨h1,h2,h3,h4⟩;dsimp only at h1 h2 h3 h4 ⊢;rw[<-h4];by_cases h:i<s.length
  · have hK:=VT t (aa s i);have hs:=kj (t:=t) (best:=b) h;have hg:=λt'=>iL (t:=t) (best:=b) (t':=t') h;rw[hK] at hs hg;refine Exists.elim ⟨WH t (xR (aa s i)),rfl⟩ λu (hu:WH t (xR (aa s i))=u)=> ?_;have hb:V5 u i b<=i+1:=by unfold V5;split<;>omega
    have ht:t=0\/t=1\/t=2\/t=3\/t=4\/t=5\/t=6\/t=7\/t=8:=by omega
    clear hK h2;rcases MV (aa s i) with⟨hc,e⟩|⟨hc,e⟩|⟨hc,e⟩|⟨hc,e⟩|⟨hc,e⟩|⟨hc,e⟩|⟨hc,e⟩|⟨hc,e⟩|⟨hc,hc1,hc2,e⟩
    all_goals
      rw[e] at hs hg hu;rcases ht with rfl|rfl|rfl|rfl|rfl|rfl|rfl|rfl|rfl
    all_goals
      refine az ?_;intros;first
        |(rw[hs rfl];exact bK)
        | (refine cJ (i+1,u,V5 u i b) ⟨h,?_,hb,?_⟩ (by dsimp only;omega) ?_ an
           · subst hu;dsimp only;decide
           · exact((hg u hu (by subst hu;decide)).symm.trans h4).trans h4.symm
           · subst hu;exact ad)
  · rw[my h];exact cx
end
section
def J2 (e:Int):Err:=if e=0 then .none else .errno e
theorem la {e:Int}(h:e≠0):J2 e= .errno e:=if_neg h
def oO (L:List (List UInt8)):List (AVal×AVal):=L.map λs=>(.str s,.bool true)
theorem JT (L:List (List UInt8))(s:List UInt8):oO L++[(AVal.str s,AVal.bool true)]=oO (L++[s]):=by unfold oO;rw[List.map_append];rfl
theorem L7 (s:List UInt8){z:Nat->Prop}{f:AVal×AVal->List (AVal×AVal)->(Nat->Prop)->Nat->Prop}{L:List (List UInt8)}(h1:s∈L->f (.str s,.bool true) [] (λ_=>True) 0)(h2:s∉L->∀i,z i)
  (hf:∀t r ih i,(aS s t=true->f (.str s,.bool true) [] (λ_=>True) 0)->(aS s t=false->ih (i+1))->f (.str t,.bool true) r ih i:=by exact λ_ _ _ _ h1 h2=>(⟨λe=>(h1 e).1 (bx.2 rfl),h2⟩:Sc _ _ _)):
  List.rec (motive:=λ_=>Nat->Prop) z f (oO L) 0:=by
 have g:∀(L:List (List UInt8)) (i:Nat),(s∈L->f (.str s,.bool true) [] (λ_=>True) 0)->(s∉L->∀i,z i)->List.rec (motive:=λ_=>Nat->Prop) z f (oO L) i:=by
  intro L;induction L with
  |nil=>exact λi _ h=>h (by simp) i
  |cons x L ih=>
   intro i k1 k2;refine hf x (oO L) _ i (λe=>k1 ?_) (λe=>ih (i+1) (λh=>k1 (List.mem_cons_of_mem _ h)) λh=>k2 ?_)
   ·rw[bx.1 e];exact List.mem_cons_self
   ·rw[List.mem_cons];rintro(h3|h3)
    ·exact absurd h3 (du.1 e)
    ·exact h h3
 exact g L 0 h1 h2
theorem P7 (s:List UInt8){z:Nat->Prop}{f:AVal×AVal->List (AVal×AVal)->(Nat->Prop)->Nat->Prop}{L:List (List UInt8)}(hs:s∉L)(h2:∀i,z i)
  (hf:∀t r ih i,(aS s t=false->ih (i+1))->aS s t=false->f (.str t,.bool true) r ih i:=by exact λ_ _ _ _ h1 h=>(⟨λe=>absurd (e.symm.trans h) (by decide),h1⟩:Sc _ _ _)):
  List.rec (motive:=λ_=>Nat->Prop) z f (oO L) 0:=by
 have g:∀(L:List (List UInt8)) (i:Nat),s∉L->List.rec (motive:=λ_=>Nat->Prop) z f (oO L) i:=by
  intro L;induction L with
  |nil=>exact λi _=>h2 i
  |cons x L ih=>
   intro i k;rw[List.mem_cons,not_or] at k;exact hf x (oO L) _ i (λ_=>ih (i+1) k.2) (du.2 k.1)
 exact g L 0 hs
def Js.fit:Nat->Js->Prop
 |0,x=>x.t.length<=1048576/\x.ks.length<=1048576/\Lib.lens x.ks<=1048576/\x.l.length<=1048576
 |d+1,x=>(x.t.length<=1048576/\x.ks.length<=1048576/\Lib.lens x.ks<=1048576/\x.l.length<=1048576)/\∀i,i<x.l.length->Js.fit d (aA x.l i)
theorem rc {d:Nat}{x:Js}(h:Js.fit d x):x.t.length<=1048576/\x.ks.length<=1048576/\Lib.lens x.ks<=1048576/\x.l.length<=1048576:=by
 cases d with
 |zero=>exact h
 |succ d=>exact h.1
theorem Nj (l:List (List UInt8))(i:Nat):(l.getD i []).length<=Lib.lens l:=by
 induction l generalizing i with
 |nil=>simp
 |cons x l ih=>
  have e1:Lib.lens (x::l)=x.length+Lib.lens l:=by simp[Lib.lens]
  rw[e1];cases i with
  |zero=>simp
  |succ i=>have:=ih i;rw[List.getD_cons_succ];omega
def tJ (x:Js):Bool:=if x.k=4\/x.k=5 then true else aS x.t []
def kJ (x:Js):Bool:=if x.k=7 then true else cm (x.ks.length:Nat) 0
def lJ (x:Js):Bool:=if x.k=6 then true else if x.k=7 then cm (x.ks.length:Nat) (x.l.length:Nat) else cm (x.l.length:Nat) 0
theorem Vx {x:Js}(h:¬(x.k=4\/x.k=5)):tJ x=aS x.t []:=if_neg h
theorem Vw {x:Js}(h:x.k=4\/x.k=5):tJ x=true:=if_pos h
theorem V3 {x:Js}(h:¬x.k=7):kJ x=cm (x.ks.length:Nat) 0:=if_neg h
theorem V2 {x:Js}(h:x.k=7):kJ x=true:=if_pos h
theorem V1 {x:Js}(h:x.k=6):lJ x=true:=if_pos h
theorem V0 {x:Js}(h:x.k=7):lJ x=cm (x.ks.length:Nat) (x.l.length:Nat):=by unfold lJ;rw[if_neg (by omega),if_pos h]
theorem VZ {x:Js}(h:¬(x.k=6\/x.k=7)):lJ x=cm (x.l.length:Nat) 0:=by unfold lJ;rw[if_neg (by omega),if_neg (by omega)]
theorem Wz {x:Js}(hk:1<=x.k/\x.k<=7):oT x↔¬(tJ x=true/\kJ x=true/\lJ x=true):=by
 have e1:∀l:List UInt8,l=[]\/l≠[]:=λl=>by cases l<;>simp
 have h1:=e1 x.t;have h2:x.ks=[]↔x.ks.length=0:=List.length_eq_zero_iff.symm;have h3:x.l=[]↔x.l.length=0:=List.length_eq_zero_iff.symm;have q1:tJ x=true↔(x.t=[]\/x.k=4\/x.k=5):=by
  by_cases h:x.k=4\/x.k=5
  ·rw[Vw h];simp[h]
  ·rw[Vx h,bx];simp[h]
 have q2:kJ x=true↔(x.ks=[]\/x.k=7):=by
  by_cases h:x.k=7
  ·rw[V2 h];simp[h]
  ·rw[V3 h,bP,h2];simp[h]
 have q3:lJ x=true↔((x.l=[]/\x.k≠7)\/x.k=6\/(x.k=7/\x.ks.length=x.l.length)):=by
  by_cases h:x.k=6
  ·rw[V1 h];simp[h]
  ·by_cases h':x.k=7
   ·rw[V0 h',bP];simp[h'];omega
   ·rw[VZ (by omega),bP,h3];simp[h,h']
 rw[q1,q2,q3];unfold oT;simp only[ne_eq,h2,h3];by_cases ht:x.t=[]
 ·simp only[ht,not_true_eq_false,false_and,true_or,true_and,false_or];omega
 ·simp only[ht,not_false_eq_true,true_and,false_or];omega
theorem No {l:List (List UInt8)}{k:Nat}(h:k<l.length):l.getD k []∈l:=by
 rw[List.getD_eq_getElem?_getD,List.getElem?_eq_getElem h];exact List.getElem_mem h
attribute [local irreducible] bN aw aa aC bg ab ae
attribute [local irreducible] pL dy tJ kJ lJ
theorem wz {G:Glo}:∀(n d:Nat) (x:Js),n<=12->Js.le d x->Js.fit d x->aj prog G 42 [Js.R d x,.int .i64 (13-(n:Int))] (J2 (kM n x)).A
 |0,d,x,hn,hd,hx=>by
  rw[show kM 0 x=4 from rfl,la (by decide)];unfold Js.R;simp only[Err.A,fq];refine ao func42 call42 λC hC hGL=> ?_;exact ba
 |n+1,d,x,hn,hd,hx=>by
  unfold Js.R;obtain⟨f1,f2,f3,f4⟩:=rc hx;have hNum:=DH (G:=G) x.t (by omega);have hBad:=um (G:=G) x.t (by omega);have hBadK:=λi=>um (G:=G) (x.ks.getD i []) (by have:=Nj x.ks i;omega);have hc1:=call75;have hc2:=call76;refine fN func42 call42 λC hC hGL=> ?_;refine cut hC hGL [(1,.int .i64 (13-((n+1:Nat):Int))),(2,.rop (Js.C d x) 0),(4,.raw .nilIface)] [] True cx λ_=> ?_;refine cut hC hGL [(1,.int .i64 (13-((n+1:Nat):Int))),(2,.rop (Js.C d x) 0),(4,.raw .nilIface)] [] True cx λ_=> ?_;refine cut hC hGL [(1,.int .i64 (13-((n+1:Nat):Int))),(2,.rop (Js.C d x) 0),(4,.raw .nilIface),(5,.bool (aS x.t [])),(6,.bool (cm (x.ks.length:Nat) 0)),(7,.bool (cm (x.l.length:Nat) 0))] [] True ba λ_=> ?_;by_cases hk:¬(1<=x.k/\x.k<=7)
  ·rw[sv (.inl hk),la (by decide)];simp only[Err.A,fq];exact am hC hGL cx
  have hk:1<=x.k/\x.k<=7:=Decidable.not_not.1 hk;have hJ:=Wz hk;refine cut hC hGL [(1,.int .i64 (13-((n+1:Nat):Int))),(2,.rop (Js.C d x) 0),(4,.raw .nilIface),(5,.bool (tJ x)),(6,.bool (kJ x)),(7,.bool (lJ x))] [] True ?_ λ_=> ?_
  ·have hk7:x.k=1\/x.k=2\/x.k=3\/x.k=4\/x.k=5\/x.k=6\/x.k=7:=by omega
   rcases hk7 with h|h|h|h|h|h|h
   all_goals
    first|rw[Vx (by omega)]|rw[Vw (by omega)]
    first|rw[V3 (by omega)]|rw[V2 (by omega)]
    first|rw[V1 (by omega)]|rw[V0 (by omega)]|rw[VZ (by omega)]
    exact ba
  generalize tJ x=bt at*
  generalize kJ x=bk at*
  generalize lJ x=bl at*
  by_cases ha:oT x
  ·rw[sv ha,la (by decide)];simp only[Err.A,fq];have hJ:=hJ.1 ha;cases bt with
   |false=>exact am hC hGL cx
   |true=>
    cases bk with
    |false=>exact am hC hGL cx
    |true=>
     cases bl with
     |false=>exact am hC hGL cx
     |true=>exact absurd ⟨rfl,rfl,rfl⟩ hJ
  obtain⟨rfl,rfl,rfl⟩:=Decidable.not_not.1 λh=>ha (hJ.2 h);by_cases hf0:(x.k=4/\(x.t=[]\/pL x.t≠x.t.length))\/0<=dy x.t
  ·rw[uC ha (by unfold nJ;exact hf0.imp id .inl),la (by decide)];simp only[Err.A,fq];by_cases h4:x.k=4
   ·by_cases h5:x.t.length=0
    ·exact am hC hGL ba
    ·have h5':x.t≠[]:=λh=>h5 (by rw[h];rfl);by_cases h6:pL x.t=x.t.length
     ·have h7:0<=dy x.t:=by
       rcases hf0 with⟨_,h|h⟩|h
       ·exact absurd h h5'
       ·exact absurd h6 h
       ·exact h
      exact am hC hGL ba
     ·exact am hC hGL ba
   ·have h7:0<=dy x.t:=by
     rcases hf0 with⟨h,_⟩|h
     ·exact absurd h h4
     ·exact h
    exact am hC hGL ba
  have hf1:dy x.t<0:=by omega
  refine cut hC hGL [(1,.int .i64 (13-((n+1:Nat):Int))),(2,.rop (Js.C d x) 0),(4,.raw .nilIface)] [] True ?_ λ_=> ?_
  ·by_cases h4:x.k=4
   ·have h5':x.t≠[]:=λh=>hf0 (.inl ⟨h4,.inl h⟩);have h5:x.t.length≠0:=λh=>h5' (List.length_eq_zero_iff.1 h);have h6:pL x.t=x.t.length:=Decidable.not_not.1 λh=>hf0 (.inl ⟨h4,.inr h⟩);exact ba
   ·exact ba
  clear hJ hNum hBad;refine dU hC hGL (λb:Nat=>[(1,.int .i64 (13-((n+1:Nat):Int))),(2,.rop (Js.C d x) 0),(4,.raw .nilIface),(8,.own 0 (.map (some b)))]) (λb=>[.mp b []]) (λ_=>True) ?_ ?_
  ·refine az ?_;intro b;exact cy b trivial
  intro b8 _;refine dU hC hGL (λ_:Unit=>[(1,.int .i64 (13-((n+1:Nat):Int))),(2,.rop (Js.C d x) 0),(4,.raw .nilIface),(8,.own 0 (.map (some b8)))]) (λ_=>[.mp b8 []]) (λ_=>∀j,j<x.ks.length->dy (x.ks.getD j [])<0) ?_ ?_
  ·refine az ?_;intros;refine lp hC hGL (λk:Nat=>[(1,.int .i64 (13-((n+1:Nat):Int))),(2,.rop (Js.C d x) 0),(4,.raw .nilIface),(8,.own 0 (.map (some b8))),(90,.list 1 x.ks.length (ay x.ks)),(91,.int .i64 (x.ks.length:Nat)),(92,.int .i64 (k:Nat))]) (λ_=>[.mp b8 []]) (λk=>k<=x.ks.length/\∀j,j<k->dy (x.ks.getD j [])<0) (λk=>x.ks.length-k) 0 ⟨Nat.zero_le _,λj h=>absurd h (Nat.not_lt_zero _)⟩ ad rfl ?_;rintro k ⟨k1,k2⟩;by_cases h:k<x.ks.length
   ·have hB:=hBadK k;by_cases hb:0<=dy (x.ks.getD k [])
    ·rw[uC ha (.inr (.inr ⟨_,No h,hb⟩)),la (by decide)];simp only[Err.A,fq];exact cx
    ·refine az ?_;intros;exact cJ (k+1) ⟨h,bT k2 (by omega)⟩ (by omega) ad an
   ·obtain rfl:k=x.ks.length:=by omega
    refine az ?_;intros;exact cy () k2
  intro _ hbk;have hf:¬nJ x:=by
   rintro(h|h|⟨k,h1,h2⟩)
   ·exact hf0 (.inl h)
   ·omega
   ·obtain⟨i,hi,rfl⟩:=List.getElem_of_mem h1;have:=hbk i hi;rw[List.getD_eq_getElem?_getD,List.getElem?_eq_getElem hi,Option.getD_some] at this;omega
  clear hBadK hbk hf0 hf1;refine dU hC hGL (λ_:Unit=>[(1,.int .i64 (13-((n+1:Nat):Int))),(2,.rop (Js.C d x) 0),(4,.raw .nilIface)]) (λ_=>[.mp b8 (oO x.ks)]) (λ_=>u9 x.ks=false) ?_ ?_
  ·refine az ?_;intros;refine lp hC hGL (λk:Nat=>[(1,.int .i64 (13-((n+1:Nat):Int))),(2,.rop (Js.C d x) 0),(4,.raw .nilIface),(8,.own 0 (.map (some b8))),(102,.list 1 x.ks.length (ay x.ks)),(103,.int .i64 (x.ks.length:Nat)),(104,.int .i64 (k:Nat))]) (λk=>[.mp b8 (oO (x.ks.take k))]) (λk=>k<=x.ks.length/\∀j,j<k->x.ks.getD j []∉x.ks.take j) (λk=>x.ks.length-k) 0 ⟨Nat.zero_le _,λj h=>absurd h (Nat.not_lt_zero _)⟩ ad rfl ?_;rintro k ⟨k1,k2⟩;by_cases h:k<x.ks.length
   ·have htk:x.ks.take k++[x.ks.getD k []]=x.ks.take (k+1):=by
     rw[List.take_add_one,List.getElem?_eq_getElem h,List.getD_eq_getElem?_getD,List.getElem?_eq_getElem h];rfl
    have htw:=λhm=>Gc (n:=n) ha hf (LE h hm);have k3:=λhm=>bT (p:=λj=>x.ks.getD j []∉x.ks.take j) k2 hm;refine az ?_;intros;refine L7 (x.ks.getD k []) (λhm=> ?_) (λhm _=> ?_)
    ·rw[htw hm,la (by decide)];simp only[Err.A,fq];refine⟨λ_=> ?_,λh=>absurd (h.symm.trans (bx.2 rfl)) (by decide)⟩;exact cx
    ·have eL:oO (x.ks.take k)++[(AVal.str (x.ks.getD k []),AVal.bool true)]=oO (x.ks.take (k+1)):=by rw[JT,htk]
     refine az ?_;refine P7 (x.ks.getD k []) hm (λ_=> ?_);refine az ?_;refine cJ (k+1) ⟨h,k3 hm⟩ (by omega) ad ?_;show[HEnt.mp b8 (oO (x.ks.take (k+1)))].Sublist [HEnt.mp b8 (oO (x.ks.take k)++[(AVal.str (x.ks.getD k []),AVal.bool true)])];rw[eL];exact List.Sublist.refl _
   ·obtain rfl:k=x.ks.length:=by omega
    refine az ?_;intros;rw[List.take_length];exact cy () (LD k2)
  intro _ ht;have hkd:=λk h h1 h2=>Gw (f:=λi=>kM n (aA x.l i)) (k:=k) (n:=x.l.length) h h1 h2;rw[Ge ha hf ht];have ih:=λe i h1 h2=>wz (G:=G) n e (aA x.l i) (by omega) h1 h2;have hK:=qW (f:=λi=>kM n (aA x.l i)) (n:=x.l.length);generalize KY (λi=>kM n (aA x.l i)) x.l.length=E at*
  refine am hC hGL (az ?_);intros;refine lp hC hGL (λk:Nat=>[(1,.int .i64 (13-((n+1:Nat):Int))),(116,.list 4 x.l.length (kR d x.l)),(117,.int .i64 (x.l.length:Nat)),(118,.int .i64 (k:Nat))]) (λ_=>[.mp b8 (oO x.ks)]) (λk=>k<=x.l.length/\∀j,j<k->kM n (aA x.l j)=0) (λk=>x.l.length-k) 0 ⟨Nat.zero_le _,λj h=>absurd h (Nat.not_lt_zero _)⟩ ad rfl ?_;rintro k ⟨k1,k2⟩;by_cases h:k<x.l.length
  ·obtain⟨e,rfl,he⟩:=e8 hd h;have h1:=ih e k he (hx.2 k h);unfold Js.R at h1;rw[show(13-(n:Int))=13-((n+1:Nat):Int)+1 by omega] at h1;have hkd:=hkd k h k2;by_cases h0:kM n (aA x.l k)=0
   ·rw[h0,show J2 0= .none from rfl] at h1;simp only[Err.A] at h1;refine az ?_;intros;exact cJ (k+1) ⟨h,bT k2 h0⟩ (by omega) ad an
   ·rw[hkd h0];rw[la h0] at h1 ⊢;simp only[Err.A,fq] at h1 ⊢;exact cx
  ·obtain rfl:k=x.l.length:=by omega
   rw[hK k2];exact cx
end
section
abbrev tB (m:Nat)(g:Nat->Nat):Nat:=((List.range m).map g).sum
theorem n7 (m:Nat)(g:Nat->Nat):tB (m+1) g=tB m g+g m:=by
 unfold tB;rw[List.range_succ,List.map_append,List.sum_append];simp
theorem Hp {m:Nat}{a b:Nat->Nat}(h:∀i,i<m->a i<=b i):tB m a<=tB m b:=by
 induction m with
 |zero=>exact Nat.le_refl _
 |succ m ih=>
  rw[n7,n7];have:=ih λi hi=>h i (by omega);have:=h m (by omega);omega
theorem Hq {m:Nat}{g:Nat->Nat}{i:Nat}(h:i<m):g i<=tB m g:=by
 induction m with
 |zero=>omega
 |succ m ih=>
  rw[n7];rcases Nat.lt_or_ge i m with k|k
  ·have:=ih k;omega
  ·obtain rfl:i=m:=by omega
   omega
theorem LX (m:Nat):tB m (λ_=>1)=m:=by
 induction m with
 |zero=>rfl
 |succ m ih=>rw[n7,ih]
theorem qi (d:Nat)(x:Js):Js.sz (d+1) x=x.t.length+x.ks.length+Lib.lens x.ks+1+tB x.l.length (λi=>Js.sz d (aA x.l i)):=rfl
theorem Fd (d:Nat)(x:Js):1+x.t.length+x.ks.length+Lib.lens x.ks<=Js.sz d x:=by
 cases d with
 |zero=>show _<=x.t.length+x.ks.length+Lib.lens x.ks+1;omega
 |succ d=>rw[qi];omega
theorem S5 {d:Nat}{x:Js}{i:Nat}(h:i<x.l.length):Js.sz d (aA x.l i)<=Js.sz (d+1) x:=by
 rw[qi];have:=Hq (g:=λi=>Js.sz d (aA x.l i)) h;omega
theorem LW {d:Nat}{x:Js}(hd:Js.le d x):x.l.length<=Js.sz d x:=by
 cases d with
 |zero=>rw[show x.l=[] from hd];exact Nat.zero_le _
 |succ d=>
  rw[qi];have:=Hp (m:=x.l.length) (a:=λ_=>1) (b:=λi=>Js.sz d (aA x.l i)) λi _=>by have:=Fd d (aA x.l i);omega
  rw[LX] at this;omega
theorem vj:∀{d:Nat} {x:Js},Js.le d x->Js.sz d x<=1048576->Js.fit d x
 |0,x,hd,h=>by
  have h1:=Fd 0 x;have h2:=LW hd;exact⟨by omega,by omega,by omega,by omega⟩
 |d+1,x,hd,h=>by
  have h1:=Fd (d+1) x;have h2:=LW hd;refine⟨⟨by omega,by omega,by omega,by omega⟩,λi hi=>vj (hd i hi) ?_⟩;have:=S5 (d:=d) hi;omega
end
section
attribute [local irreducible] bN aw aa aC bg ab ae
theorem Ga {G:Glo}(d:Nat)(x:Js)(hd:Js.le d x)(hs:Js.sz d x<=1048576):aj prog G 21 [Js.R d x] (J2 (kM 12 x)).A:=by
 have h:=wz (G:=G) 12 d x (by decide) hd (vj hd hs);rw[show(13-((12:Nat):Int))=1 by decide] at h;unfold Js.R at h ⊢;generalize (J2 (kM 12 x)).A=E at*
 refine ao func21 call21 λC hC hGL=> ?_;exact ba
end
section
def Js.thin:Nat->Js->Prop
 |0,_=>False
 |m+1,x=>(x.t.length<=4807/\x.ks.length<=600/\x.l.length<=600/\Lib.lens (x.l.map Js.t)<=4807)/\∀i,i<x.l.length->Js.thin m (aA x.l i)
theorem F3 {l:List Js}{k:Nat}(h:k<l.length):Lib.lens ((l.take (k+1)).map Js.t)=Lib.lens ((l.take k).map Js.t)+(aA l k).t.length:=by
 rw[List.map_take,List.map_take,JW (by rw[List.length_map];exact h),aA,List.getD_eq_getElem?_getD,List.getElem?_map,List.getD_eq_getElem?_getD,List.getElem?_eq_getElem h];rfl
def WM (m:Nat)(x:Js)(z:Int):Prop:=0<=z/\z<=1200000*(m+1)/\(z<=600->(x.t.length:Int)+1<=8*z/\Js.thin m x)
structure Vc (m:Nat) (x:Js) (k:Nat) (a:Int):Prop where
 kl:k<=x.l.length
 lo:1+(x.t.length:Int)/8+x.ks.length+k<=a
 hi:a<=1200000
 s:a<=600->(Lib.lens ((x.l.take k).map Js.t):Int)+8*(1+(x.t.length:Int)/8+x.ks.length)<=8*a/\∀j,j<k->Js.thin m (aA x.l j)
theorem Vc.go {m:Nat}{x:Js}{k:Nat}{a z:Int}(h:Vc m x k a)(hk:k<x.l.length)(hz:WM m (aA x.l k) z)(hz1:1<=z\/600<a+z)(hb:a+z<=900):Vc m x (k+1) (a+z):=by
 obtain⟨h1,h2,h3,h4⟩:=h;obtain⟨z1,z2,z3⟩:=hz;refine⟨hk,?_,by omega,λh=> ?_⟩
 ·by_cases h6:z<=600
  ·have:=(z3 h6).1;omega
  ·omega
 ·obtain⟨s1,s2⟩:=h4 (by omega);obtain⟨t1,t2⟩:=z3 (by omega);refine⟨?_,λj hj=> ?_⟩
  ·rw[F3 hk];omega
  ·rcases Nat.lt_or_ge j k with g|g
   ·exact s2 j g
   ·obtain rfl:j=k:=by omega
    exact t2
theorem Vc.fin {m:Nat}{x:Js}{a:Int}(h:Vc m x x.l.length a):WM (m+1) x a:=by
 obtain⟨h1,h2,h3,h4⟩:=h;refine⟨by omega,by omega,λh=> ?_⟩;obtain⟨s1,s2⟩:=h4 h;rw[List.take_length] at s1;refine⟨by omega,⟨by omega,by omega,by omega,by omega⟩,s2⟩
attribute [local irreducible] bN aw aa aC bg ab ae
theorem tc {G:Glo}:∀(m d:Nat) (x:Js),m<=21->Js.le d x->Js.fit d x->ae prog G 9 [Js.R d x,.int .i64 (21-(m:Int))] [] (λr H=>(∃a,r= .ret a/\∃z,a= .int .i64 z/\WM m x z)/\H=[])
 |0,d,x,hm,hd,hx=>by
  obtain⟨f1,f2,f3,f4⟩:=rc hx;unfold Js.R;refine ao func9 call9 λC hC hGL=> ?_;refine a6 ?_;intros;exact⟨[],List.nil_sublist _,⟨_,rfl,_,rfl,by decide,by decide,λh=>absurd h (by decide)⟩,rfl⟩
 |m+1,d,x,hm,hd,hx=>by
  obtain⟨f1,f2,f3,f4⟩:=rc hx;unfold Js.R;refine ao func9 call9 λC hC hGL=> ?_;refine a6 ?_;intros;refine lp hC hGL (λz:Nat×Int=>[(1,.int .i64 (21-((m+1:Nat):Int))),(5,.int .i64 z.2),(20,.list 4 x.l.length (kR d x.l)),(21,.int .i64 (x.l.length:Nat)),(22,.int .i64 (z.1:Nat))]) (λ_=>[]) (λz=>Vc m x z.1 z.2) (λz=>x.l.length-z.1) (0,_) ?_ ⟨rfl,rfl,rfl,rfl,rfl,trivial⟩ rfl ?_
  ·refine⟨Nat.zero_le _,?_,?_,λ_=>⟨?_,λj h=>absurd h (Nat.not_lt_zero _)⟩⟩
   ·dsimp only;omega
   ·dsimp only;omega
   ·dsimp only
    rw[List.take_zero];show(0:Int)+_<=_;omega
  rintro⟨k,a⟩ hI;dsimp only at hI ⊢;have k1:=hI.kl;by_cases hlt:k<x.l.length
  ·obtain⟨e,rfl,he⟩:=e8 hd hlt;have h1:=tc (G:=G) m e (aA x.l k) (by omega) he (hx.2 k hlt);unfold Js.R at h1;rw[show(21-(m:Int))=21-((m+1:Nat):Int)+1 by omega] at h1;refine a6 ?_;intros;refine Bv h1 ?_;rintro _ ⟨z,rfl,hz⟩;have hz0:=hz.1;have hz1:=hz.2.1;have ha0:=hI.lo;have ha1:=hI.hi;have hm':(m:Int)<=20:=by omega
   refine xw ?_;repeat' first|exact .n|apply Lc.mk
   all_goals intros
   all_goals intros
   ·exact⟨[],List.nil_sublist _,⟨_,rfl,_,rfl,by omega,by omega,λh=>by exfalso;omega⟩,rfl⟩
   ·refine cJ (k+1,a+z) (hI.go hlt hz ?_ (by omega)) (by dsimp only;omega) ad an;by_cases h6:z<=600
    ·have:=(hz.2.2 h6).1;omega
    ·omega
  ·obtain rfl:k=x.l.length:=by omega
   refine a6 ?_;intros;exact⟨[],List.nil_sublist _,⟨_,rfl,_,rfl,hI.fin⟩,rfl⟩
theorem JX {G:Glo}(d:Nat)(x:Js)(hd:Js.le d x)(hx:Js.fit d x):ae prog G 4 [Js.R d x] [] (λr H=>(∃a,r= .ret a/\∃b,a= .bool b/\(b=false->Js.thin 20 x))/\H=[]):=by
 have h:=tc (G:=G) 20 d x (by decide) hd hx;rw[show(21-((20:Nat):Int))=1 by decide] at h;unfold Js.R at h ⊢;refine ao func4 call4 λC hC hGL=> ?_;refine a6 ?_;refine Bv h ?_;rintro _ ⟨z,rfl,hz⟩;refine a6 ?_;exact⟨[],List.nil_sublist _,⟨_,rfl,_,rfl,λhb=>(hz.2.2 (by have:=mW.1 hb;omega)).2⟩,rfl⟩
end
section
attribute [local irreducible] bN aw aa aC bg ab ae
theorem yI {G:Glo}{b:Nat}{p v:Value}:ae prog G 220 [.raw (cP b)] [co b p 1 v,eN na []] (λr H=>r= .ret (.tuple [])/\H=[co b (.pointer none) 1 na,eN na []]):=by
 have key:ae prog G 220 [.raw (cP b)] [co b p 1 v,eN na []] (λr H=>r= .ret (.tuple [])/\H=[.cells b (some 120) [.raw (.pointer none),.raw na],eN na []]):=by
  have hGL:ab G []:=aG;refine qY 0 func220 call220 rfl rfl rfl rfl hGL rfl ?_;intro C hC;repeat' (first|(conv=>whnf);first|refine .w ?_|refine .v ?_|refine cj ?_ ?_<;>(intro hb;try exact dd hb)|apply aF|apply bf|(apply bQ<;>intro hb)|(apply bR;intro hbd)|(apply bS;intro bl)|(apply cb;intro va vk vc hva)|(apply ca;intro v)|(apply cd;intro bl cap hcap)|apply cg|(apply bZ<;>intro hnx)|apply cK mixed hC hGL (by kernel_rfl)|(show Rt _ _ _;exact bK)|fail)
  all_goals try conv=>whnf
 refine uG (λ_=>Iff.rfl) (λ_ _ _ h=>h) key ?_;rintro r H' ⟨rfl,rfl⟩;refine⟨_,⟨rfl,rfl⟩,λC R w h=> ?_⟩;have h0:=h.heap.holds _ List.mem_cons_self;refine h.swap (i:=0) rfl rfl ?_;obtain⟨Cs,el,fz,hW,hr,hl⟩:=h0;obtain⟨u1,t1,e1,k1,u2,t2,e2,k2,e3⟩:=hr;exact⟨Cs,el,fz,hW,⟨u1,t1,e1,k1,u2,t2,e2,jK k2,e3⟩,hl⟩
end
section
theorem Hx (a:List UInt8):∀T:List Tk,(iQ a T).1.length<=T.length/\(iQ a T).2.1.length<=T.length/\(iQ a T).2.2.length<=T.length:=by
 refine gd ⟨Nat.le_refl _,Nat.le_refl _,Nat.le_refl _⟩ λT t ih=> ?_;rw[kc];cases t with
 |one b=>
  unfold kV;by_cases hb:b∈a
  ·simp only[hb,if_true,List.length_append,List.length_singleton,List.length_nil];omega
  ·simp only[hb,if_false,List.length_append,List.length_singleton];omega
 |two d=>
  unfold kV;simp only[List.length_append,List.length_singleton];omega
theorem wN (c:UInt8):∀(l:List UInt8) (k:Nat),(0<=jO (c.toNat:Int) l k/\c∈l)\/(jO (c.toNat:Int) l k<0/\c∉l)
 |[],k=>.inr ⟨by simp[jO],by simp⟩
 |x::t,k=>by
  unfold jO;by_cases h:(x.toNat:Int)=c.toNat
  ·have:x=c:=UInt8.toNat_inj.1 (by omega);rw[if_pos h];exact .inl ⟨by omega,by simp[this]⟩
  ·have hne:c≠x:=λe=>h (by rw[e]);rw[if_neg h];rcases wN c t (k+1) with⟨h1,h2⟩|⟨h1,h2⟩
   ·exact .inl ⟨h1,List.mem_cons_of_mem _ h2⟩
   ·exact .inr ⟨h1,λh3=>(List.mem_cons.1 h3).elim hne h2⟩
theorem Q9 {a:List UInt8}{c:UInt8}(h:0<=bj a (c.toNat:Int)):c∈a:=by
 rcases wN c a 0 with⟨_,h2⟩|⟨h1,_⟩
 ·exact h2
 ·unfold bj at h;omega
theorem NJ {a:List UInt8}{c:UInt8}(h:bj a (c.toNat:Int)<0):c∉a:=by
 rcases wN c a 0 with⟨h1,_⟩|⟨_,h2⟩
 ·unfold bj at h;omega
 ·exact h2
theorem L6 (a:List UInt8):iQ a []=([],[],[]):=rfl
theorem Tf {a:List UInt8}{T:List Tk}{c:UInt8}(h:c∈a):iQ a (T++[.one c])=((iQ a T).1++[(iQ a T).2.1],[],(iQ a T).2.2++[c]):=by rw[kc];simp[kV,h]
theorem P5 {a:List UInt8}{T:List Tk}{c:UInt8}(h:c∉a):iQ a (T++[.one c])=((iQ a T).1,(iQ a T).2.1++[c],(iQ a T).2.2):=by rw[kc];simp[kV,h]
theorem qq {a:List UInt8}{T:List Tk}{d:UInt8}:iQ a (T++[.two d])=((iQ a T).1,(iQ a T).2.1++[pX d],(iQ a T).2.2):=by rw[kc];rfl
def EQ (a s:List UInt8):List (List UInt8):=match bw s 0 with
 |.none=>(iQ a (bY s)).1++[(iQ a (bY s)).2.1]
 |_=>[]
def ER (a s:List UInt8):List UInt8:=match bw s 0 with
 |.none=>(iQ a (bY s)).2.2
 |_=>[]
theorem v6 {a s:List UInt8}(h:bw s 0= .none):EQ a s=(iQ a (bY s)).1++[(iQ a (bY s)).2.1]:=by unfold EQ;rw[h]
theorem FQ {a s:List UInt8}(h:bw s 0= .none):ER a s=(iQ a (bY s)).2.2:=by unfold ER;rw[h]
theorem MB {a s:List UInt8}{e p:Int}(h:bw s 0= .at e p):EQ a s=[]:=by unfold EQ;rw[h]
theorem TK {a s:List UInt8}{e p:Int}(h:bw s 0= .at e p):ER a s=[]:=by unfold ER;rw[h]
def xC (l:List UInt8)(i:Nat):AVal:=.int .u8 ((l.getD i 0).toNat:Int)
theorem RJ (l:List UInt8):∀i,i<l.length->(xC l i).cells=((iO l).drop (i*1)).take 1/\(xC l i).plain=true:=by
 intro i hi
 refine⟨?_,rfl⟩;rw[Nat.mul_one,List.drop_eq_getElem_cons (by simpa using hi)];simp[xC,AVal.cells,List.getD,hi]
theorem NV {s:List UInt8}{i:Nat}(h:i<s.length):(aa s i:Int)=(s[i].toNat:Int):=(jz h).1 rfl
theorem qH {s:List UInt8}{i:Nat}(h:i<s.length):UInt8.ofNat ((aa s i:Nat):Int).toNat=s[i]:=by
 have:aa s i=s[i].toNat:=by simp[aa,List.getD,List.getElem?_eq_getElem h]
 rw[Int.toNat_natCast,this,UInt8.ofNat_toNat]
set_option maxHeartbeats 8000000
attribute [local irreducible] bN aw aC bg ab ae aa bw bY iQ pX bj
theorem tA {G:Glo}(s a:List UInt8)(hl:s.length<=2000000):ae prog G 189 [.str s,.str a] [] (λr H=>
  (∃e p,bw s 0= .at e p/\r= .ret (.tuple [.raw (.slice none 0 0),.raw (.slice none 0 0),BJ e p])/\H=[])\/
  (bw s 0= .none/\∃vt vc,r= .ret (.tuple [.own 2 vt,.own 3 vc,.raw .nilIface])/\H=[.row vt none 1 (EQ a s).length (bc (EQ a s)),.row vc none 1 (ER a s).length (iO (ER a s))])):=by
 have hI:=λ(b:Int) h0 h1=>aX (G:=G) a b h0 h1;refine ao func189 call189 λC hC hGL=> ?_;refine n4 ?_;intro bl;intros;refine QR 0 rfl ?_;refine gv 4 1 rfl ?_;refine gv 5 1 rfl ?_;refine lp hC hGL (λ(x:(Nat×List Tk)×(List (List UInt8)×List UInt8×List UInt8)×Value×Value×Value×Value)=>[(0,.str s),(1,.str a),(4,.own 2 x.2.2.2.2.1),(5,.own 3 x.2.2.2.2.2),(7,.own 0 (cP bl)),(8,.int .i64 (x.1.1:Nat))]) (λx=>[co bl x.2.2.1 1 x.2.2.2.1,eN x.2.2.2.1 x.2.1.2.1,.row x.2.2.2.2.1 none 1 x.2.1.1.length (bc x.2.1.1),.row x.2.2.2.2.2 none 1 x.2.1.2.2.length (iO x.2.1.2.2)]) (λx=>xO s x.1.1 x.1.2/\x.1.2.length<=x.1.1/\xP bl x.2.2.1/\iQ a x.1.2=x.2.1) (λx=>s.length-x.1.1) ((0,[]),([],[],[]),.pointer none,na,na,na) ?_ ad rfl ?_
 ·exact⟨yY s,Nat.le_refl _,.inl rfl,L6 a⟩
 rintro⟨⟨i,T⟩,⟨tx,cur,cu⟩,p,v,vt,vd⟩ ⟨hT,hlT,hp,hS⟩;dsimp only at hT hlT hp hS;dsimp only
 have hi:=hT.1;have hv:=Hx a T;rw[hS] at hv;dsimp only at hv;by_cases hA:i+1<s.length/\(aa s i:Int)=92
 ·obtain⟨hA1,hA2⟩:=hA;have hok:=MP hA1;refine xw ?_;repeat' first|exact .n|apply Lc.mk
  all_goals intros
  ·have hq:(aa s (i+1):Int)=92:=by assumption
   apply gA (i:=0) (j:=1) rfl rfl (by decide) (gE hp v cur (aa s (i+1):Int) (by omega) (by omega) (by omega));intro wa wk wc;refine n4 ?_;intros;refine di ((i+2,T++[.two s[i+1]]),(tx,cur++[UInt8.ofNat ((aa s (i+1):Int):Int).toNat],cu),cP bl,.slice wa wk wc,vt,vd) ?_ ?_ ⟨rfl,rfl,rfl,rfl,rfl,rfl,trivial⟩ rfl
   ·exact⟨gc hT hA1 hA2 (by rw[hok];exact decide_eq_true (by omega)),by simp;omega,.inr rfl,by rw[qq,hS,sK hA1 (by omega),qH hA1]⟩
   ·show s.length-(i+2)<s.length-i;omega
  ·have hq:(aa s (i+1):Int)=44:=by assumption
   apply gA (i:=0) (j:=1) rfl rfl (by decide) (gE hp v cur (aa s (i+1):Int) (by omega) (by omega) (by omega));intro wa wk wc;refine n4 ?_;intros;refine di ((i+2,T++[.two s[i+1]]),(tx,cur++[UInt8.ofNat ((aa s (i+1):Int):Int).toNat],cu),cP bl,.slice wa wk wc,vt,vd) ?_ ?_ ⟨rfl,rfl,rfl,rfl,rfl,rfl,trivial⟩ rfl
   ·exact⟨gc hT hA1 hA2 (by rw[hok];exact decide_eq_true (by omega)),by simp;omega,.inr rfl,by rw[qq,hS,sK hA1 (by omega),qH hA1]⟩
   ·show s.length-(i+2)<s.length-i;omega
  ·have hq:(aa s (i+1):Int)=59:=by assumption
   apply gA (i:=0) (j:=1) rfl rfl (by decide) (gE hp v cur (aa s (i+1):Int) (by omega) (by omega) (by omega));intro wa wk wc;refine n4 ?_;intros;refine di ((i+2,T++[.two s[i+1]]),(tx,cur++[UInt8.ofNat ((aa s (i+1):Int):Int).toNat],cu),cP bl,.slice wa wk wc,vt,vd) ?_ ?_ ⟨rfl,rfl,rfl,rfl,rfl,rfl,trivial⟩ rfl
   ·exact⟨gc hT hA1 hA2 (by rw[hok];exact decide_eq_true (by omega)),by simp;omega,.inr rfl,by rw[qq,hS,sK hA1 (by omega),qH hA1]⟩
   ·show s.length-(i+2)<s.length-i;omega
  ·have hq:(aa s (i+1):Int)=110:=by assumption
   apply gA (i:=0) (j:=1) rfl rfl (by decide) (gE hp v cur 10 (by omega) (by omega) (by omega));intro wa wk wc;refine n4 ?_;intros;refine di ((i+2,T++[.two s[i+1]]),(tx,cur++[UInt8.ofNat (10:Int).toNat],cu),cP bl,.slice wa wk wc,vt,vd) ?_ ?_ ⟨rfl,rfl,rfl,rfl,rfl,rfl,trivial⟩ rfl
   ·exact⟨gc hT hA1 hA2 (by rw[hok];exact decide_eq_true (by omega)),by simp;omega,.inr rfl,by rw[qq,hS,Bq hA1 (by omega)];rfl⟩
   ·show s.length-(i+2)<s.length-i;omega
  ·have hq:(aa s (i+1):Int)=78:=by assumption
   apply gA (i:=0) (j:=1) rfl rfl (by decide) (gE hp v cur 10 (by omega) (by omega) (by omega));intro wa wk wc;refine n4 ?_;intros;refine di ((i+2,T++[.two s[i+1]]),(tx,cur++[UInt8.ofNat (10:Int).toNat],cu),cP bl,.slice wa wk wc,vt,vd) ?_ ?_ ⟨rfl,rfl,rfl,rfl,rfl,rfl,trivial⟩ rfl
   ·exact⟨gc hT hA1 hA2 (by rw[hok];exact decide_eq_true (by omega)),by simp;omega,.inr rfl,by rw[qq,hS,Bq hA1 (by omega)];rfl⟩
   ·show s.length-(i+2)<s.length-i;omega
  ·have q1:(aa s (i+1):Int)≠92:=by assumption
   have q2:(aa s (i+1):Int)≠44:=by assumption
   have q3:(aa s (i+1):Int)≠59:=by assumption
   have q4:(aa s (i+1):Int)≠110:=by assumption
   have q5:(aa s (i+1):Int)≠78:=by assumption
   have he:=Cj hT hA1 hA2 (by rw[hok];exact decide_eq_false (by omega));exact⟨_,List.nil_sublist _,.inl ⟨_,_,he,rfl,rfl⟩⟩
 ·have k1:=hI (aa s i:Int) (by omega) (by have:=bu s i;omega);refine xw ?_;repeat' first|exact .n|apply Lc.mk
  all_goals intros
  ·have he:=yX hT (by omega) (by assumption);exact⟨_,List.nil_sublist _,.inl ⟨_,_,he,rfl,rfl⟩⟩
  ·have hlt:i<s.length:=by omega
   have hne:(aa s i:Int)≠92:=by assumption
   have hin:0<=bj a (aa s i:Int):=by assumption
   rw[NV hlt] at hin;refine GO (i:=0) (j:=1) rfl rfl (by decide) (rv cur (by omega)) ?_;refine a6 ?_;intros;refine GO (i:=0) (j:=1) rfl rfl (by decide) yI ?_;refine n4 ?_;intros;refine di ((i+1,T++[.one s[i]]),(tx++[cur],[],cu++[s[i]]),.pointer none,na,_,_) ?_ ?_ ⟨rfl,rfl,rfl,rfl,rfl,rfl,trivial⟩ ?_
   ·exact⟨vg hT hlt hne,by simp;omega,.inl rfl,by rw[Tf (Q9 hin),hS]⟩
   ·show s.length-(i+1)<s.length-i;omega
   ·dsimp only
    rw[<-bJ,List.length_append,List.length_append,show iO (cu++[s[i]])=iO cu++[.int .u8 (aa s i:Int)] by rw[NV hlt];simp];rfl
  ·have hlt:i<s.length:=by omega
   have hne:(aa s i:Int)≠92:=by assumption
   have hin:bj a (aa s i:Int)<0:=by assumption
   rw[NV hlt] at hin;apply gA (i:=0) (j:=1) rfl rfl (by decide) (gE hp v cur (aa s i:Int) (by omega) (by omega) (by omega));intro wa wk wc;refine n4 ?_;intros;refine di ((i+1,T++[.one s[i]]),(tx,cur++[UInt8.ofNat ((aa s i:Int):Int).toNat],cu),cP bl,.slice wa wk wc,vt,vd) ?_ ?_ ⟨rfl,rfl,rfl,rfl,rfl,rfl,trivial⟩ rfl
   ·exact⟨vg hT hlt hne,by simp;omega,.inr rfl,by rw[P5 (NJ hin),hS,qH hlt]⟩
   ·show s.length-(i+1)<s.length-i;omega
  ·have hlt:s.length<=i:=by omega
   refine GO (i:=0) (j:=1) rfl rfl (by decide) (rv cur (by omega)) ?_;refine a6 ?_;intros;obtain⟨he,ht⟩:=Ci hT hlt;refine⟨_,.cons _ (.cons _ (.refl _)),.inr ⟨he,_,_,rfl,?_⟩⟩;rw[v6 he,FQ he,ht,hS];dsimp only
   rw[<-bJ,List.length_append];rfl
end
section
theorem LH {R R':Seal}{a a' b b' c:AVal}{x:Value}(hle:R.le R')(h:bE R (.tuple [a,b,c]) x)(ha:∀v,bE R a v->bE R' a' v)(hb:∀v,bE R b v->bE R' b' v):bE R' (.tuple [a',b',c]) x:=by
 obtain⟨⟨ws,e,u,t,e1,hu,u2,t2,e2,hu2,u3,t3,e3,hu3,rfl⟩,h2⟩:=h;have k:=ha u ⟨hu.1,hu.2⟩;have k2:=hb u2 ⟨hu2.1,hu2.2⟩;have k3:=fF hle (show bE R c u3 from⟨hu3.1,hu3.2⟩);exact⟨⟨ws,e,_,_,e1,⟨k.1,k.2⟩,_,_,e2,⟨k2.1,k2.2⟩,_,_,e3,⟨k3.1,k3.2⟩,rfl⟩,h2⟩
theorem HU {R:Seal}{sz:Nat}{f:Nat->AVal}{v:Value}(h:bE R (.raw (.slice none 0 0)) v):bE R (.list sz 0 f) v:=by
 rw[ar] at h;subst h;exact⟨⟨none,0,rfl,Nat.le_refl _,.inl rfl⟩,rfl⟩
theorem kU {G:Glo}(s a:List UInt8)(hl:s.length<=2000000):aj prog G 189 [.str s,.str a] (.tuple [.list 1 (EQ a s).length (ay (EQ a s)),.list 1 (ER a s).length (xC (ER a s)),(bw s 0).A]):=by
 refine dC (tA s a hl) ?_;rintro r H (⟨e,p,he,rfl,rfl⟩|⟨he,vt,vc,rfl,rfl⟩)
 ·rintro C R w en hm ⟨x,rfl,hx⟩;rw[MB he,TK he,he];exact⟨R,hm,x,rfl,LH (Seal.le_refl R) hx (λv=>HU) (λv=>HU)⟩
 ·rintro C R w en hm ⟨x,rfl,hx⟩;obtain⟨R1,l1,m1,r1⟩:=hm.seal_row (f:=ay (EQ a s)) (eq _);obtain⟨R2,l2,m2,r2⟩:=m1.seal_row (f:=xC (ER a s)) (RJ _);rw[he];exact⟨R2,m2,x,rfl,LH (Seal.le_trans l1 l2) hx (λv h=>by rw[(a7.1 h).1];exact fF l2 r1) (λv h=>by rw[(a7.1 h).1];exact r2)⟩
theorem sL (s:List UInt8):bw s 0= .none\/∃e p,bw s 0= .at e p:=by
 rcases oG s.length s 0 (Nat.le_refl _) with k|⟨p,k⟩|⟨p,k⟩
 ·exact .inl k
 ·exact .inr ⟨_,_,k⟩
 ·exact .inr ⟨_,_,k⟩
theorem MA {s:List UInt8}(h:bw s 0= .none):EQ [] s=[xY s]:=by
 rw[v6 h,P6,E4 h];rfl
theorem JL (s:List UInt8):EQ [44] s=ir s:=by
 rcases sL s with h|⟨e,p,h⟩
 ·rw[v6 h,A6 h,uy,(Hw 44 _).1,(Hw 44 _).2]
 ·rw[MB h,H4 (by rw[h];exact λk=>by cases k)]
set_option maxHeartbeats 8000000
attribute [local irreducible] bN aw aC bg ab ae aa bw bY EQ ER xY ir
theorem xZ {G:Glo}(s:List UInt8)(hl:s.length<=2000000):aj prog G 134 [.str s] (.tuple [.str (xY s),(bw s 0).A]):=by
 have hP:=kU (G:=G) s [] hl;rcases sL s with h|⟨e,p,h⟩
 ·rw[h,MA h] at hP;rw[h];refine ao func134 call134 λC hC hGL=> ?_;exact ba
 ·rw[h] at hP;rw[h,E5 h];refine ao func134 call134 λC hC hGL=> ?_;exact ba
theorem I8 {G:Glo}(s:List UInt8)(hl:s.length<=2000000):aj prog G 135 [.str s] (.tuple [.list 1 (ir s).length (ay (ir s)),(bw s 0).A]):=by
 have hP:=kU (G:=G) s [44] hl;rw[JL] at hP;refine ao func135 call135 λC hC hGL=> ?_;exact ba
end
section
def DX (l:List (List UInt8))(cuts:List UInt8)(k:Nat):List (List (List UInt8)):=((cuts.zip l.tail).take k).foldl oX [[l.headD []]]
theorem J9 (l:List (List UInt8))(cuts:List UInt8):DX l cuts 0=[]++[[l.headD []]]:=rfl
theorem Ka {l:List (List UInt8)}{cuts:List UInt8}(hl:l.length=cuts.length+1){k:Nat}(hk:k<cuts.length):DX l cuts (k+1)=oX (DX l cuts k) (cuts.getD k 0,l.getD (k+1) []):=by
 unfold DX;have h1:k<(cuts.zip l.tail).length:=by rw[List.length_zip,List.length_tail];omega
 rw[List.take_succ_eq_append_getElem h1,List.foldl_append];have e:(cuts.zip l.tail)[k]=(cuts.getD k 0,l.getD (k+1) []):=by
  have h2:k+1<l.length:=by omega
  rw[List.getElem_zip];simp[List.getD,hk,h2]
 rw[e];rfl
theorem NS {l:List (List UInt8)}{cuts:List UInt8}(hl:l.length=cuts.length+1):DX l cuts cuts.length=DW l cuts:=by
 unfold DX DW;rw[List.take_of_length_le (by rw[List.length_zip];omega)]
theorem TG {s:List UInt8}(h:bw s 0= .none):(EQ [44,59] s).length=(ER [44,59] s).length+1:=by
 rw[v6 h,FQ h];have:=(Hv (bY s)).1;simp[this]
theorem TH {s:List UInt8}(h:bw s 0= .none):DW (EQ [44,59] s) (ER [44,59] s)=jb s:=by
 rw[v6 h,FQ h,HK h,Rd];rfl
theorem HF:∀T:List Tk,T.length<=(rawT T).length
 |[]=>Nat.le_refl _
 |t::T=>by
  have ih:=HF T;rw[show rawT (t::T)=t.raw++rawT T from rfl,List.length_append,List.length_cons];cases t with
  |one c=>show _<=1+_;omega
  |two d=>show _<=2+_;omega
theorem TJ (a:List UInt8)(s:List UInt8):(ER a s).length<=s.length:=by
 unfold ER;split
 ·have h1:=(Hx a (bY s)).2.2;have h2:=HF (bY s);rename_i he;rw[un s.length s 0 (Nat.le_refl _) he] at h2;omega
 ·exact Nat.zero_le _
theorem N4 {A:List AVal}{x w:AVal}{N:Nat}(hA:A.length=N):(A++[x]).take N++[w]++(A++[x]).drop (N+1)=A++[w]:=by
 subst hA;simp
theorem PJ {C:Ctx}{n:Nat}{e:Env}{I:List (List (List UInt8))}{l:List (List UInt8)}{u:Value}{b cap m:Nat}(hm:m=(I++[l]).length+1):To C n e [.row u none 1 l.length (bc l),.row (.slice (some ⟨b,0,none⟩) m cap) none 1 m (eb I++[.own 0 u]++[.raw (.slice none 0 0)])] e
  [.row na none 1 0 [],.row (.slice (some ⟨b,0,none⟩) ((I++[l]).length+1) cap) none 1 ((I++[l]).length+1) (eb (I++[l])++[.own 0 na])]:=by
 subst hm;have hI:(eb I).length=I.length:=by simp[eb]
 have hI2:(eb (I++[l])).length=(I++[l]).length:=by simp[eb]
 refine aE (jC (i:=0) (k:=0) (p:=I.length) (ay l) rfl rfl (eq _) (λR hr=>.row (a:=.own 0 u) ?_ λ_=>df hr)) ?_
 ·rw[List.append_assoc,List.getElem?_append_right (by omega),hI,Nat.sub_self];rfl
 have e1:(eb I++[AVal.own 0 u]++[AVal.raw (.slice none 0 0)]).set I.length (.list 1 l.length (ay l))=eb (I++[l])++[.raw (.slice none 0 0)]:=by
  rw[List.append_assoc,List.set_append_right _ _ (by omega),hI,Nat.sub_self,<-lN,List.append_assoc];rfl
 rw[e1];refine aE (gQ 1) (aE (PK (List.Perm.swap _ _ _)) ?_);have e2:(eb (I++[l])++[AVal.raw (.slice none 0 0)]).set (I++[l]).length (.own 0 (.slice none 0 0))=eb (I++[l])++[.own 0 na]:=by
  rw[List.set_append_right _ _ (by omega),hI2,Nat.sub_self];rfl
 rw[<-e2];refine jD (i:=1) (p:=(I++[l]).length) (x:=.row (.slice (some ⟨b,0,none⟩) ((I++[l]).length+1) cap) none 1 ((I++[l]).length+1) (eb (I++[l])++[.raw (.slice none 0 0)])) (a':=.own 0 (.slice none 0 0)) rfl (λR=>.row (a:=.raw (.slice none 0 0)) ?_ λ_=>jK);rw[List.getElem?_append_right (by omega),hI2,Nat.sub_self];rfl
set_option maxHeartbeats 8000000
attribute [local irreducible] bN aw aC bg ab ae aa bw bY EQ ER xY ir jb DX
theorem vh {G:Glo}(s:List UInt8)(hl:s.length<=2000000)(he:bw s 0= .none):ae prog G 136 [.str s] [] (λr H=>∃I l u v,I++[l]=jb s/\r= .ret (.tuple [.own 1 v,.raw .nilIface])/\H=[.row u none 1 l.length (bc l),.row v none 1 (I.length+1) (eb I++[.own 0 u])]):=by
 have hP:=kU (G:=G) s [44,59] hl;rw[he] at hP;have hn:=TG he;have hg:=TH he;have hc:=TJ [44,59] s;generalize EQ [44,59] s=L at*
 generalize ER [44,59] s=cu at*
 refine ao func136 call136 λC hC hGL=> ?_;repeat' (first|(conv=>whnf);first|refine .w ?_|refine .v ?_|refine cj ?_ ?_<;>(intro hb;try exact dd hb)|apply aF|apply bf|(apply bQ<;>intro hb)|(apply bR;intro hbd)|(apply aZ;exact hP)|(apply aL (i:=0) rfl;exact hP)|(apply bS;intro bl)|(apply cb;intro va vk vc hva)|(apply ca;intro v)|(apply cd;intro bl cap hcap)|apply RM|(apply bZ<;>intro hnx)|exact True.intro|(apply iy;intro C hC)|apply iw|apply io|(apply ip;exact rfl)|(show Rt _ _ _;exact bK)|fail)
 all_goals try conv=>whnf
 rename_i va1 vk1 vc1 hva1;obtain⟨bv,rfl,rfl⟩:=hva (by decide);refine lpT hC hGL (λ(x:Nat×List (List (List UInt8))×List (List UInt8)×Nat×Nat×Value)=>[(4,.list 1 L.length (ay L)),(7,.own 1 (.slice (some ⟨x.2.2.2.1,0,none⟩) (x.2.1.length+1) x.2.2.2.2.1)),(25,.list 1 cu.length (xC cu)),(26,.int .i64 (cu.length:Nat)),(27,.int .i64 (x.1:Nat))])
  (λx=>[.row x.2.2.2.2.2 none 1 x.2.2.1.length (bc x.2.2.1),.row (.slice (some ⟨x.2.2.2.1,0,none⟩) (x.2.1.length+1) x.2.2.2.2.1) none 1 (x.2.1.length+1) (eb x.2.1++[.own 0 x.2.2.2.2.2])])
  (λx=>x.1<=cu.length/\x.2.1++[x.2.2.1]=DX L cu x.1/\x.2.1.length<=x.1/\x.2.2.1.length<=x.1+1) (λx=>cu.length-x.1) (0,[],[L.getD 0 []],bv,vc,.slice va1 vk1 vc1) ?_ ?_ ?_
 ·refine⟨Nat.zero_le _,?_,Nat.le_refl _,Nat.le_refl _⟩;rw[J9];cases L<;>rfl
 ·exact cQ ⟨rfl,rfl,rfl,rfl,rfl,trivial⟩ (List.Sublist.refl _)
 rintro⟨k,I,l,b,cap,u⟩ ⟨g1,g2,g3,g4⟩;dsimp only at g1 g2 g3 g4 ⊢;have hIl:(eb I).length=I.length:=by simp[eb]
 by_cases hk:k<cu.length
 ·have gs:=Ka hn hk;rw[<-g2] at gs;by_cases hc59:cu.getD k 0=59
  ·have hcb:((cu.getD k 0).toNat:Int)=59:=by rw[hc59];rfl
   repeat' (first|(conv=>whnf);first|refine .w ?_|refine .v ?_|refine cj ?_ ?_<;>(intro hb;try exact dd hb)|apply aF|apply bf|(apply bQ<;>intro hb)|(apply bR;intro hbd)|(apply bS;intro bl)|(apply cb;intro va vk vc hva)|(apply ca;intro v)|(apply cd;intro bl cap hcap)|apply cg|(apply bZ<;>intro hnx)|exact True.intro|(apply iy;intro C hC)|apply iw|apply io|(apply ip;exact rfl)|(show Rt _ _ _;exact bK)|fail)
   all_goals try conv=>whnf
   obtain⟨b2,rfl,rfl⟩:=hva (by omega);refine eQ (e':=[(8,.int .i64 (k:Nat)),(10,.int .i64 ((I++[l]).length:Nat)),(4,.list 1 L.length (ay L)),(7,.own 1 (.slice (some ⟨b2,0,none⟩) ((I++[l]).length+1) vc)),(25,.list 1 cu.length (xC cu)),(26,.int .i64 (cu.length:Nat)),(27,.int .i64 (k:Nat))]) (aE (cQ (e':=[(8,.int .i64 (k:Nat)),(10,.int .i64 ((I++[l]).length:Nat)),(4,.list 1 L.length (ay L)),(7,.own 1 (.slice (some ⟨b2,0,none⟩) ((I++[l]).length+1) vc)),(25,.list 1 cu.length (xC cu)),(26,.int .i64 (cu.length:Nat)),(27,.int .i64 (k:Nat))]) ⟨rfl,congrArg (λz=>some (AVal.int .i64 z)) (by rw[List.length_append,List.length_singleton];omega),rfl,congrArg (λz=>some (AVal.own 1 (.slice (some ⟨b2,0,none⟩) z vc))) (by rw[List.length_append];rfl),rfl,rfl,rfl,trivial⟩ (List.Sublist.refl _)) (PJ (by rw[List.length_append];rfl))) ?_;have hI2:(eb (I++[l])).length=(I++[l]).length:=by simp[eb]
   have hn2:(I++[l]).length=I.length+1:=by simp
   generalize hI3:I++[l]=I2 at*
   have q2:(eb I2++[AVal.own 0 na])[I2.length]? =some (.own 0 na):=by rw[List.getElem?_append_right (by omega),hI2,Nat.sub_self];rfl
   have ra:eW (.slice (some ⟨b2,0,none⟩) (I2.length+1) vc) b2 (I2.length+1):=⟨vc,rfl⟩;have ra2:eW (.slice (some ⟨b2,0,none⟩) (I2.length+1) vc) b2 (I2.length+1)/\I2.length<(I2.length+1)*1:=⟨ra,by omega⟩;refine cR mixed hC hGL false (λ(_:Option Addr×Nat×Nat)=>[(4,.list 1 L.length (ay L)),(7,.own 1 (.slice (some ⟨b2,0,none⟩) (I2.length+1) vc)),(25,.list 1 cu.length (xC cu)),(26,.int .i64 (cu.length:Nat)),(27,.int .i64 (k:Nat))]) (λy=>[.row (.slice y.1 y.2.1 y.2.2) none 1 (0+1) ([]++[.str (L.getD (k+1) [])]),.row (.slice (some ⟨b2,0,none⟩) (I2.length+1) vc) none 1 (I2.length+1) ((eb I2++[AVal.own 0 na]).take I2.length++[.own 0 (.slice y.1 y.2.1 y.2.2)]++(eb I2++[AVal.own 0 na]).drop (I2.length+1))]) .p11 (by kernel_rfl) ?_ ?_
   ·repeat' (first|(conv=>whnf);first|refine .w ?_|refine .v ?_|refine cj ?_ ?_<;>(intro hb;try exact dd hb)|apply aF|apply bf|(apply bQ<;>intro hb)|(apply bR;intro hbd)|(apply bS;intro bl)|(apply cb;intro va vk vc hva)|(apply ca;intro v)|(apply cd;intro bl cap hcap)|apply cg|(apply bZ<;>intro hnx)|exact True.intro|(apply iy;intro C hC)|apply iw|apply io|(apply ip;exact rfl)|(show Rt _ _ _;exact bK)|fail)
    all_goals try conv=>whnf
    all_goals exact⟨(_,_,_),⟨rfl,rfl,rfl,rfl,rfl,trivial⟩,rfl⟩
   rintro⟨wa,wk,wc⟩;dsimp only
   rw[N4 hI2];repeat' (first|(conv=>whnf);first|refine .w ?_|refine .v ?_|refine cj ?_ ?_<;>(intro hb;try exact dd hb)|apply aF|apply bf|(apply bQ<;>intro hb)|(apply bR;intro hbd)|(apply bS;intro bl)|(apply cb;intro va vk vc hva)|(apply ca;intro v)|(apply cd;intro bl cap hcap)|apply cg|(apply bZ<;>intro hnx)|exact True.intro|(apply iy;intro C hC)|apply iw|apply io|(apply ip;exact rfl)|(show Rt _ _ _;exact bK)|fail)
   all_goals try conv=>whnf
   refine nxT (k+1,I2,[L.getD (k+1) []],b2,vc,.slice wa wk wc) ⟨hk,?_,by dsimp only;omega,by simp⟩ (show cu.length-(k+1)<cu.length-k by omega) ?_
   ·dsimp only
    rw[gs,show oX I2 (cu.getD k 0,L.getD (k+1) [])=wr (I2++[[]]) (L.getD (k+1) []) by unfold oX;rw[if_pos hc59],mC];rfl
   ·dsimp only
    exact cQ ⟨rfl,rfl,rfl,rfl,rfl,trivial⟩ (List.Sublist.refl _)
  ·have hcb:((cu.getD k 0).toNat:Int)≠59:=λh=>hc59 (UInt8.toNat_inj.1 (by have:(59:UInt8).toNat=59:=rfl;omega));have q2:(eb I++[AVal.own 0 u])[I.length]? =some (.own 0 u):=by rw[List.getElem?_append_right (by omega),hIl,Nat.sub_self];rfl
   have ra:eW (.slice (some ⟨b,0,none⟩) (I.length+1) cap) b (I.length+1):=⟨cap,rfl⟩;have ra2:eW (.slice (some ⟨b,0,none⟩) (I.length+1) cap) b (I.length+1)/\I.length<(I.length+1)*1:=⟨ra,by omega⟩;repeat' (first|(conv=>whnf);first|refine .w ?_|refine .v ?_|refine cj ?_ ?_<;>(intro hb;try exact dd hb)|apply aF|apply bf|(apply bQ<;>intro hb)|(apply bR;intro hbd)|(apply bS;intro bl)|(apply cb;intro va vk vc hva)|(apply ca;intro v)|(apply cd;intro bl cap hcap)|apply cg|(apply bZ<;>intro hnx)|exact True.intro|(apply iy;intro C hC)|apply iw|apply io|(apply ip;exact rfl)|(show Rt _ _ _;exact bK)|fail)
   all_goals try conv=>whnf
   refine eQ (e':=[(8,.int .i64 (k:Nat)),(10,.int .i64 (I.length:Nat)),(4,.list 1 L.length (ay L)),(7,.own 1 (.slice (some ⟨b,0,none⟩) (I.length+1) cap)),(25,.list 1 cu.length (xC cu)),(26,.int .i64 (cu.length:Nat)),(27,.int .i64 (k:Nat))]) (cQ ⟨rfl,congrArg (λz=>some (AVal.int .i64 z)) (by omega),rfl,rfl,rfl,rfl,rfl,trivial⟩ (List.Sublist.refl _)) ?_;refine cR mixed hC hGL false (λ(_:Option Addr×Nat×Nat)=>[(4,.list 1 L.length (ay L)),(7,.own 1 (.slice (some ⟨b,0,none⟩) (I.length+1) cap)),(25,.list 1 cu.length (xC cu)),(26,.int .i64 (cu.length:Nat)),(27,.int .i64 (k:Nat))]) (λy=>[.row (.slice y.1 y.2.1 y.2.2) none 1 (l.length+1) (bc l++[.str (L.getD (k+1) [])]),.row (.slice (some ⟨b,0,none⟩) (I.length+1) cap) none 1 (I.length+1) ((eb I++[AVal.own 0 u]).take I.length++[.own 0 (.slice y.1 y.2.1 y.2.2)]++(eb I++[AVal.own 0 u]).drop (I.length+1))]) .p11 (by kernel_rfl) ?_ ?_
   ·repeat' (first|(conv=>whnf);first|refine .w ?_|refine .v ?_|refine cj ?_ ?_<;>(intro hb;try exact dd hb)|apply aF|apply bf|(apply bQ<;>intro hb)|(apply bR;intro hbd)|(apply bS;intro bl)|(apply cb;intro va vk vc hva)|(apply ca;intro v)|(apply cd;intro bl cap hcap)|apply cg|(apply bZ<;>intro hnx)|exact True.intro|(apply iy;intro C hC)|apply iw|apply io|(apply ip;exact rfl)|(show Rt _ _ _;exact bK)|fail)
    all_goals try conv=>whnf
    all_goals exact⟨(va,vk,vc),⟨rfl,rfl,rfl,rfl,rfl,trivial⟩,rfl⟩
   rintro⟨va,vk,vc⟩;dsimp only
   rw[N4 hIl];repeat' (first|(conv=>whnf);first|refine .w ?_|refine .v ?_|refine cj ?_ ?_<;>(intro hb;try exact dd hb)|apply aF|apply bf|(apply bQ<;>intro hb)|(apply bR;intro hbd)|(apply bS;intro bl)|(apply cb;intro va vk vc hva)|(apply ca;intro v)|(apply cd;intro bl cap hcap)|apply cg|(apply bZ<;>intro hnx)|exact True.intro|(apply iy;intro C hC)|apply iw|apply io|(apply ip;exact rfl)|(show Rt _ _ _;exact bK)|fail)
   all_goals try conv=>whnf
   refine nxT (k+1,I,l++[L.getD (k+1) []],b,cap,.slice va vk vc) ⟨hk,?_,Nat.le_succ_of_le g3,by simp;omega⟩ (show cu.length-(k+1)<cu.length-k by omega) ?_
   ·dsimp only
    rw[gs,show oX (I++[l]) (cu.getD k 0,L.getD (k+1) [])=wr (I++[l]) (L.getD (k+1) []) by unfold oX;rw[if_neg hc59],mC]
   ·dsimp only
    rw[<-bJ,List.length_append];exact cQ ⟨rfl,rfl,rfl,rfl,rfl,trivial⟩ (List.Sublist.refl _)
 ·repeat' (first|(conv=>whnf);first|refine .w ?_|refine .v ?_|refine cj ?_ ?_<;>(intro hb;try exact dd hb)|apply aF|apply bf|(apply bQ<;>intro hb)|(apply bR;intro hbd)|(apply bS;intro bl)|(apply cb;intro va vk vc hva)|(apply ca;intro v)|(apply cd;intro bl cap hcap)|apply cg|(apply bZ<;>intro hnx)|exact True.intro|(apply iy;intro C hC)|apply iw|apply io|(apply ip;exact rfl)|(show Rt _ _ _;exact bK)|fail)
  all_goals try conv=>whnf
  refine⟨_,List.Sublist.refl _,I,l,u,_,?_,rfl,rfl⟩;rw[g2,show k=cu.length by omega,NS hn,hg]
theorem M2 {C:Ctx}{R:Seal}{w:World}{I:List (List (List UInt8))}{l:List (List UInt8)}{v u:Value}(hm:MS C R [.row u none 1 l.length (bc l),.row v none 1 (I.length+1) (eb I++[.own 0 u])] w):∃R',R.le R'/\MS C R' [] w/\bE R' (.list 1 (I++[l]).length (kQ (I++[l]))) v:=by
 have hI:(eb I).length=I.length:=by simp[eb]
 obtain⟨R1,l1,m1,r1⟩:=MS.seal_row (f:=ay l) hm (eq _);have hc:mS R1 I.length (.list 1 l.length (ay l)) (.row v none 1 (I.length+1) (eb I++[.own 0 u])) _:=.row (a:=.own 0 u) (by rw[List.getElem?_append_right (by omega),hI,Nat.sub_self];rfl) λ_=>df r1;obtain⟨h1,h2⟩:=hc.holds (m1.heap.holds _ (List.mem_cons_self ..));have m2:=m1.setEnt (i:=0) rfl h2 h1;have e1:(eb I++[AVal.own 0 u]).set I.length (.list 1 l.length (ay l))=eb (I++[l]):=by
  rw[List.set_append_right _ _ (by omega),hI,Nat.sub_self,<-lN];rfl
 rw[e1] at m2;have e2:I.length+1=(I++[l]).length:=by simp
 rw[e2] at m2;obtain⟨R2,l2,m3,r2⟩:=MS.seal_row (f:=kQ (I++[l])) m2 (uu _);exact⟨R2,Seal.le_trans l1 l2,m3,r2⟩
theorem S1 {R R':Seal}{a a' b:AVal}{x:Value}(hle:R.le R')(h:bE R (.tuple [a,b]) x)(ht:∀v,bE R a v->bE R' a' v):bE R' (.tuple [a',b]) x:=by
 obtain⟨⟨ws,e,u,t,e1,hu,u2,t2,e2,hu2,rfl⟩,h2⟩:=h;have k:=ht u ⟨hu.1,hu.2⟩;have k2:=fF hle (show bE R b u2 from⟨hu2.1,hu2.2⟩);exact⟨⟨ws,e,_,_,e1,⟨k.1,k.2⟩,_,_,e2,⟨k2.1,k2.2⟩,rfl⟩,h2⟩
theorem Fb {G:Glo}(s:List UInt8)(hl:s.length<=2000000):aj prog G 136 [.str s] (.tuple [.list 1 (jb s).length (kQ (jb s)),(bw s 0).A]):=by
 rcases sL s with h|⟨e,p,h⟩
 ·rw[h];refine dC (vh s hl h) ?_;rintro r H ⟨I,l,u,v,hg,rfl,rfl⟩;rintro C R w en hm ⟨x,rfl,hx⟩;obtain⟨R',hle,m2,hr⟩:=M2 hm;rw[hg] at hr;exact⟨R',m2,x,rfl,S1 hle hx λv2 h=>by rw[(a7.1 h).1];exact hr⟩
 ·have hP:=kU (G:=G) s [44,59] hl;rw[h] at hP;rw[h,HL (by rw[h];exact λk=>by cases k)];refine dC (H:=[]) (Qf:=λr H=>r= .ret (.tuple [.raw (.slice none 0 0),(Err.at e p).A])/\H=[]) ?_ (λr H h=>by obtain⟨rfl,rfl⟩:=h;exact uq);refine ao func136 call136 λC hC hGL=> ?_;exact ba
end
section
attribute [local irreducible] bN aw aa aC bg ab ae
attribute [local irreducible] escF escS
theorem vR {G:Glo}(s:List UInt8)(hl:s.length<=2000000):aj prog G 176 [.str s] (.str (escS s)):=by
 refine ao func176 call176 λC hC hGL=> ?_;refine a6 ?_;intros;refine lp hC hGL (λi:Nat=>[(0,.str s),(3,.str (escS (s.take i))),(6,.int .i64 (s.length:Nat)),(7,.int .i64 (i:Nat))]) (λ_=>[]) (λi=>i<=s.length) (λi=>s.length-i) 0 (Nat.zero_le _) ⟨rfl,?_,rfl,rfl,trivial⟩ rfl ?_
 ·show some (AVal.str [])=some (AVal.str (escS (s.take 0)));rw[List.take_zero,N6]
 ·intro i hi;have e1:=(rj (s.take i)).2;rw[List.length_take,Nat.min_eq_left hi] at e1;by_cases hlt:i<s.length
  ·have et:=Kk hlt;have hb0:=KB hlt;have hby:=bu s i;have hone:(s.take (i+1)).drop i=[s[i]]:=by rw[List.drop_take,show i+1-i=1 by omega,List.drop_eq_getElem_cons hlt];rfl
   have hlo:((s.take (i+1)).drop i).length=1:=by rw[hone];rfl
   rcases(show(aa s i=92\/aa s i=44\/aa s i=59)\/aa s i=10\/(aa s i≠92/\aa s i≠44/\aa s i≠59/\aa s i≠10) by omega) with hk|hk|⟨k1,k2,k3,k4⟩
   ·have he:escF s[i]=[92]++(s.take (i+1)).drop i:=by
     rw[hone];rcases hk with hk|hk|hk
     all_goals rw[(Vq (by decide)).2 (hb0.symm.trans hk)]
     ·exact Um
     ·exact Uo
     ·exact Un
    refine xw ?_;repeat' first|exact .n|apply Lc.mk
    all_goals intros
    all_goals first
     |(refine di (i+1) ?_ ?_ ⟨rfl,?_,rfl,rfl,trivial⟩ rfl;exact hlt;(show s.length-(i+1)<s.length-i;omega);(rw[et,he];rfl))
     |skip
   ·have he:escF s[i]=[92,110]:=by rw[(Vq (by decide)).2 (hb0.symm.trans hk)];exact Up
    refine xw ?_;repeat' first|exact .n|apply Lc.mk
    all_goals intros
    all_goals first
     |(refine di (i+1) ?_ ?_ ⟨rfl,?_,rfl,rfl,trivial⟩ rfl;exact hlt;(show s.length-(i+1)<s.length-i;omega);(rw[et,he];rfl))
     |skip
   ·have he:escF s[i]=(s.take (i+1)).drop i:=by
     rw[hone];exact Eb (by rw[<-hb0];exact k1) (by rw[<-hb0];exact k2) (by rw[<-hb0];exact k3) (by rw[<-hb0];exact k4)
    refine xw ?_;repeat' first|exact .n|apply Lc.mk
    all_goals intros
    all_goals first
     |(refine di (i+1) ?_ ?_ ⟨rfl,?_,rfl,rfl,trivial⟩ rfl;exact hlt;(show s.length-(i+1)<s.length-i;omega);(rw[et,he];rfl))
     |skip
  ·have h9:escS (s.take i)=escS s:=by rw[List.take_of_length_le (by omega)]
   refine a6 ?_;intros;apply ak;rw[h9]
end
section
theorem ka:∀(n:Nat) (s:List UInt8),s.length<=n->(bY s).length<=s.length
 |_,[],_=>Nat.le_refl _
 |0,c::r,hn=>by simp at hn
 |n+1,c::r,hn=>by
  have hn:r.length<=n:=by simpa using hn
  by_cases hc:c=92
  ·subst hc;cases r with
   |nil=>simp[bY]
   |cons d r=>
    by_cases hd:HQ d=true
    ·rw[nh hd];have:=ka n r (by simp at hn;omega);simp only[List.length_cons];omega
    ·simp[bY,hd]
  ·rw[ni hc];have:=ka n r hn;simp only[List.length_cons];omega
theorem PX (c:UInt8):∀T:List Tk,(∀T'∈(gU c T).1,T'.length<=T.length)/\(gU c T).2.length<=T.length/\(gU c T).1.length<=T.length:=by
 refine gd ⟨λ_ h=>by simp[gU] at h,Nat.le_refl _,Nat.le_refl _⟩ λT t ih=> ?_;obtain⟨h1,h2,h3⟩:=ih;rw[gT,List.length_append,List.length_singleton];have h1':∀T'∈(gU c T).1,T'.length<=T.length+1:=λT' h=>Nat.le_succ_of_le (h1 T' h);cases t with
 |one b=>
  unfold iB;by_cases hb:b=c
  ·simp only[hb,if_true,List.length_append,List.length_singleton,List.length_nil];refine⟨λT' h=> ?_,by omega,by omega⟩;rcases List.mem_append.1 h with h|h
   ·exact h1' T' h
   ·rw[List.mem_singleton.1 h];omega
  ·simp only[hb,if_false,List.length_append,List.length_singleton];exact⟨h1',by omega,by omega⟩
 |two d=>
  unfold iB;simp only[List.length_append,List.length_singleton];exact⟨h1',by omega,by omega⟩
theorem vo (c:UInt8)(T:List Tk):(np c T).length<=T.length+1/\∀T'∈np c T,T'.length<=T.length:=by
 obtain⟨h1,h2,h3⟩:=PX c T;refine⟨by simp[np];exact h3,λT' h=> ?_⟩;rcases List.mem_append.1 h with h|h
 ·exact h1 T' h
 ·rw[List.mem_singleton.1 h];exact h2
theorem Dy (T:List Tk):(lstT T).length<=T.length+1:=by
 unfold lstT;rw[List.length_map];exact(vo 44 T).1
theorem Nf (s:List UInt8):(ir s).length<=s.length+1:=by
 unfold ir;split
 ·have h1:=Dy (bY s);have h2:=ka s.length s (Nat.le_refl _);omega
 ·exact Nat.zero_le _
theorem My (s:List UInt8):(jb s).length<=s.length+1/\∀l∈jb s,l.length<=s.length+1:=by
 have h2:=ka s.length s (Nat.le_refl _);obtain⟨h3,h4⟩:=vo 59 (bY s);unfold jb;split
 ·unfold oN;rw[List.length_map];refine⟨by omega,λl hl=> ?_⟩;obtain⟨T',hT,rfl⟩:=List.mem_map.1 hl;have h5:=Dy T';have h6:=h4 T' hT;omega
 ·exact⟨Nat.zero_le _,λl h=>by cases h⟩
set_option maxHeartbeats 8000000
attribute [local irreducible] bN aw aC bg ab ae aa bw bY xY ir jb escF escS
end
section
theorem PW (c:UInt8):∀T:List Tk,((gU c T).1.map List.length).sum+(gU c T).2.length<=T.length:=by
 refine gd (Nat.le_refl _) λT t ih=> ?_;rw[gT,List.length_append,List.length_singleton];cases t with
 |one b=>
  unfold iB;by_cases hb:b=c
  ·simp only[hb,if_true,List.map_append,List.sum_append,List.map_cons,List.map_nil,List.sum_cons,List.sum_nil,List.length_nil];omega
  ·simp only[hb,if_false,List.length_append,List.length_singleton];omega
 |two d=>
  unfold iB;simp only[List.length_append,List.length_singleton];omega
theorem Nh (l:List (List UInt8)):Lib.lens l=(l.map List.length).sum:=by
 induction l with
 |nil=>rfl
 |cons x l ih=>
  have e1:Lib.lens (x::l)=x.length+Lib.lens l:=by simp[Lib.lens]
  rw[e1,ih,List.map_cons,List.sum_cons]
theorem zu (T:List Tk):Lib.lens (lstT T)<=T.length:=by
 have h:=PW 44 T;have e:(fX:List Tk->List UInt8)=λT=>T.map Tk.val:=rfl;rw[Nh,uy,List.map_append,List.sum_append,List.map_map];have e2:(List.length∘fX:List Tk->Nat)=List.length:=by funext T;simp[fX]
 rw[e2];simp only[List.map_cons,List.map_nil,List.sum_cons,List.sum_nil,fX,List.length_map];omega
theorem PF (s:List UInt8):(xY s).length<=s.length:=by
 unfold xY;split
 ·have:=ka s.length s (Nat.le_refl _);rw[List.length_map];exact this
 ·exact Nat.zero_le _
theorem Jf {s:List UInt8}(hs:s.length<=1900000):Small [ir s]:=by
 refine⟨by simp,λk=> ?_⟩;cases k with
 |zero=>
  refine⟨by have:=Nf s;show(ir s).length<=_;omega,?_⟩;show Lib.lens (ir s)<=_;unfold ir;split
  ·have h1:=zu (bY s);have h2:=ka s.length s (Nat.le_refl _);omega
  ·exact Nat.zero_le _
 |succ k=>
  simp[Lib.lens]
theorem Je {s:List UInt8}(hs:s.length<=1900000):Small (jb s):=by
 obtain⟨h1,h2⟩:=My s;refine⟨by omega,λk=> ?_⟩;by_cases hk:k<(jb s).length
 ·rw[List.getD_eq_getElem?_getD,List.getElem?_eq_getElem hk,Option.getD_some];have hm:=List.getElem_mem hk;refine⟨by have:=h2 _ hm;omega,?_⟩;generalize (jb s)[k]=l at*
  unfold jb at hm;split at hm
  ·unfold oN at hm;obtain⟨T,hT,rfl⟩:=List.mem_map.1 hm;have h3:=zu T;have h4:=(vo 59 (bY s)).2 T hT;have h5:=ka s.length s (Nat.le_refl _);omega
  ·cases hm
 ·rw[List.getD_eq_getElem?_getD,List.getElem?_eq_none (by omega),Option.getD_none];exact⟨Nat.zero_le _,Nat.zero_le _⟩
theorem gH:Small []:=⟨Nat.zero_le _,λk=>by rw[List.getD_nil];exact⟨Nat.zero_le _,Nat.zero_le _⟩⟩
theorem Lb {s:List UInt8}(hs:s.length<=10000)(k:Int):(lA s k).1.s.length<=s.length/\Small (lA s k).1.L:=by
 have hG:(ne s k).1.s.length<=s.length/\Small (ne s k).1.L:=by
  have hu:=PF s;unfold ne
  (repeat' split)<;>first
   |exact⟨by show(xY s).length<=_;omega,gH⟩
   |exact⟨Nat.zero_le _,Jf (by omega)⟩
   |exact⟨Nat.zero_le _,Je (by omega)⟩
   |exact⟨by show s.length<=_;omega,gH⟩
   |exact⟨Nat.zero_le _,gH⟩
 unfold lA;split
 ·exact⟨Nat.zero_le _,gH⟩
 split
 ·exact⟨Nat.zero_le _,gH⟩
 split
 ·exact hG
 ·exact⟨Nat.zero_le _,gH⟩
end
section
theorem uB {n:Nat}{x:Js}(h:kM (n+1) x=0):(x.k=5->x.ks=[]/\x.l=[])/\(x.k=6->x.t=[]/\x.ks=[])/\(x.k=7->x.t=[]):=by
 have h1:¬oT x:=λh1=>by rw[sv h1] at h;cases h
 unfold oT at h1;refine⟨λhk=>⟨?_,?_⟩,λhk=>⟨?_,?_⟩,λhk=> ?_⟩;all_goals refine Classical.byContradiction λhne=>h1 ?_
 ·exact .inr (.inr (.inl ⟨hne,by omega⟩))
 ·exact .inr (.inr (.inr (.inl ⟨hne,by omega,by omega⟩)))
 ·exact .inr (.inl ⟨hne,by omega,by omega⟩)
 ·exact .inr (.inr (.inl ⟨hne,by omega⟩))
 ·exact .inr (.inl ⟨hne,by omega,by omega⟩)
theorem W7:cm 0 0=true:=bP.2 rfl
theorem qm {d:Nat}{a b:Js}(h:fL a b=false):oZ d a b=false:=by
 cases d<;>(rw[oZ,h];rfl)
theorem vz {d:Nat}{a:Js}{s:List UInt8}(h:a.k=5->a.ks=[]/\a.l=[]):oZ d a (sJ s)=tT a s:=by
 cases hk:cm a.k 5 with
 |false=>
  have h1:fL a (sJ s)=false:=by unfold fL;rw[show cm a.k (sJ s).k=false from hk];rfl
  rw[qm h1];unfold tT strB;rw[hk];rfl
 |true=>
  obtain⟨h1,h2⟩:=h (bP.1 hk);have hh:fL a (sJ s)=aS a.t s:=by
   unfold fL;rw[show cm a.k (sJ s).k=true from hk,h1,h2];show(true&&(aS a.t s&&(cm ((0:Nat):Int) ((0:Nat):Int)&&cm ((0:Nat):Int) ((0:Nat):Int))))=_;rw[bP.2 rfl];simp
  have hi:tT a s=aS a.t s:=by unfold tT strB;rw[hk];rfl
  cases d with
  |zero=>rw[oZ,hh,h1,hi];show(aS a.t s&&true)=_;simp
  |succ d=>rw[oZ,hh,h1,h2,hi];show(aS a.t s&&(true&&true))=_;simp
theorem S9 {d:Nat}{a:Js}(h:a.k=7->a.t=[]/\a.ks.length=a.l.length):oZ d a (.mk 7 [] [] [])=(cm a.k 7&&cm (a.ks.length:Nat) 0):=by
 cases hk:cm a.k 7 with
 |false=>
  have h1:fL a (.mk 7 [] [] [])=false:=by unfold fL;rw[show cm a.k (Js.mk 7 [] [] []).k=false from hk];rfl
  rw[qm h1];rfl
 |true=>
  obtain⟨h1,h2⟩:=h (bP.1 hk);have hh:fL a (.mk 7 [] [] [])=cm (a.ks.length:Nat) 0:=by
   unfold fL;rw[show cm a.k (Js.mk 7 [] [] []).k=true from hk,h1,<-h2];show(true&&(aS [] []&&(cm (a.ks.length:Nat) ((0:Nat):Int)&&cm (a.ks.length:Nat) ((0:Nat):Int))))=_;rw[bx.2 rfl];cases cm (a.ks.length:Nat) ((0:Nat):Int)<;>rfl
  cases h0:cm (a.ks.length:Nat) 0 with
  |false=>rw[qm (hh.trans h0)];rfl
  |true=>
   have h3:a.ks.length=0:=by have:=bP.1 h0;omega
   cases d with
   |zero=>rw[oZ,hh,h0,h3];rfl
   |succ d=>rw[oZ,hh,h0,<-h2,h3];rfl
theorem S8 {n d:Nat}{a:Js}(h:kM (n+2) a=0)(hd:Js.le d a):oZ d a oL=mf a:=by
 obtain⟨-, -,hc⟩:=pi h;obtain⟨-,h6, -⟩:=uB h;unfold mf;cases hk:cm a.k 6 with
 |false=>
  have h1:fL a oL=false:=by unfold fL;rw[show cm a.k oL.k=false from hk];rfl
  rw[qm h1];rfl
 |true=>
  obtain⟨h1,h2⟩:=h6 (bP.1 hk);have hh:fL a oL=cm (a.l.length:Nat) 4:=by
   unfold fL;rw[show cm a.k oL.k=true from hk,h1,h2];show(true&&(aS [] []&&(cm ((0:Nat):Int) ((0:Nat):Int)&&cm (a.l.length:Nat) ((4:Nat):Int))))=_;rw[bx.2 rfl,bP.2 rfl];rfl
  cases h4:cm (a.l.length:Nat) 4 with
  |false=>rw[qm (hh.trans h4)];rfl
  |true=>
   have hl:a.l.length=4:=by have:=bP.1 h4;omega
   cases d with
   |zero=>
    rw[show a.l=[] from hd] at hl;cases hl
   |succ d=>
    have q (i:Nat) (hi:i<4):=uB (hc i (by omega));have q7:=pi (hc 1 (by omega));have f0:oZ d (aA a.l 0) (aA oL.l 0)=tT (aA a.l 0) [118,101,114,115,105,111,110]:=vz (q 0 (by decide)).1;have f1:oZ d (aA a.l 1) (aA oL.l 1)=(cm (aA a.l 1).k 7&&cm ((aA a.l 1).ks.length:Nat) 0):=S9 λh=>⟨(q 1 (by decide)).2.2 h,q7.2.1 h⟩;have f2:oZ d (aA a.l 2) (aA oL.l 2)=tT (aA a.l 2) [116,101,120,116]:=vz (q 2 (by decide)).1;have f3:oZ d (aA a.l 3) (aA oL.l 3)=tT (aA a.l 3) [52,46,48]:=vz (q 3 (by decide)).1;rw[oZ,hh,h4,h2,hl];show(true&&(true&&((((true&&oZ d (aA a.l 0) (aA oL.l 0))&&oZ d (aA a.l 1) (aA oL.l 1))&&oZ d (aA a.l 2) (aA oL.l 2))&&oZ d (aA a.l 3) (aA oL.l 3))))=_;rw[f0,f1,f2,f3];simp only[Bool.true_and,Bool.and_assoc]
theorem uz:∀{d:Nat} {x:Js},Js.le d x->Js.fit d x->Js.fits 1048576 d x
 |0,x,hd,h=>⟨h.2.1,hd⟩
 |d+1,x,hd,h=>⟨h.1.2.1,h.1.2.2.2,λi hi=>uz (hd i hi) (h.2 i hi)⟩
theorem kA {d:Nat}{x:Js}(h:Js.fit d x)(hd:Js.le d x){i:Nat}(hi:i<x.l.length):∃e,d=e+1/\Js.le e (aA x.l i)/\Js.fit e (aA x.l i):=by
 obtain⟨e,rfl,he⟩:=e8 hd hi;exact⟨e,rfl,he,h.2 i hi⟩
theorem S3 (m:Nat):Js.thin (m+1) Js.z:=⟨⟨Nat.zero_le _,Nat.zero_le _,Nat.zero_le _,Nat.zero_le _⟩,λi h=>absurd h (Nat.not_lt_zero _)⟩
theorem lh {l:List Js}{i:Nat}(h:l.length<=i):aA l i=Js.z:=by rw[aA,List.getD_eq_getElem?_getD,List.getElem?_eq_none h];rfl
theorem cp {m:Nat}{x:Js}(h:Js.thin (m+2) x)(i:Nat):Js.thin (m+1) (aA x.l i):=by
 by_cases hi:i<x.l.length
 ·exact h.2 i hi
 ·rw[lh (by omega)];exact S3 m
theorem pz {m:Nat}{y:Js}(h:Js.thin (m+1) y):Lib.lens (bp y)<=4807/\(bp y).length<=600:=by
 obtain⟨⟨h1,h2,h3,h4⟩, -⟩:=h;unfold bp;split
 ·exact⟨by simp[Lib.lens];omega,by simp⟩
 split
 ·exact⟨h4,by rw[List.length_map];exact h3⟩
 ·exact⟨Nat.zero_le _,Nat.zero_le _⟩
theorem zy {m:Nat}{x:Js}(h:Js.thin (m+2) x):∀k,(eM x k).length<=4807
 |0=>Nat.zero_le _
 |k+1=>by
  rw[eM];split
  ·exact Nat.le_trans eo (pz (cp h k)).1
  ·exact zy h k
def TF (p:Pr):Prop:=p.n.length<=1100000/\p.vs.length<=10000/\Lib.lens p.vs<=10000
theorem qe (s:List UInt8):(al 97 122 (-32) s).length=s.length:=by unfold al;rw[List.length_map]
theorem zx {m:Nat}{x:Js}(h:Js.thin (m+2) x)(hk:Lib.lens x.ks<=1048576):∀k,∀p∈ek x k,TF p
 |0,p,hp=>by cases hp
 |k+1,p,hp=>by
  rw[ek,List.mem_append] at hp;rcases hp with hp|hp
  ·exact zx h hk k p hp
  ·split at hp
   ·cases hp
   ·rw[List.mem_singleton] at hp;subst hp;have h1:=pz (cp h k);have h2:=eo (l:=x.ks) (k:=k);refine⟨?_,?_,?_⟩
    ·show(al 97 122 (-32) _).length<=_;rw[qe];omega
    ·show(bp _).length<=_;omega
    ·show Lib.lens (bp _)<=_;omega
theorem VC {P:Pr->Prop}{l:List Pr}(h:∀p∈l,P p)(hz:P Pr.z)(k:Nat):P (l.getD k Pr.z):=by
 by_cases hk:k<l.length
 ·rw[List.getD_eq_getElem?_getD,List.getElem?_eq_getElem hk];exact h _ (List.getElem_mem hk)
 ·rw[List.getD_eq_getElem?_getD,List.getElem?_eq_none (by omega)];exact hz
theorem F4 (l:List (List UInt8))(k:Nat):Lib.lens (l.drop k)<=Lib.lens l:=by
 induction l generalizing k with
 |nil=>rw[List.drop_nil];exact Nat.le_refl _
 |cons x l ih=>
  have e1:Lib.lens (x::l)=x.length+Lib.lens l:=by simp[Lib.lens]
  cases k with
  |zero=>exact Nat.le_refl _
  |succ k=>have:=ih k;rw[List.drop_succ_cons];omega
theorem il (l:List Js)(k i:Nat):aA (l.drop k) i=aA l (k+i):=by
 rw[aA,List.getD_eq_getElem?_getD,List.getElem?_drop,<-List.getD_eq_getElem?_getD]
theorem JI {m:Nat}{x:Js}(h:Js.thin (m+4) x)(j:Nat)(k:Int):(cE (x.l.drop j) k).1.s.length<=10000/\Small (cE (x.l.drop j) k).1.L:=by
 have h0:∀i,Js.thin (m+3) (aA (x.l.drop j) i):=λi=>by rw[il];exact cp h _
 have h1:(x.l.drop j).length<=600/\Lib.lens ((x.l.drop j).map Js.t)<=4807:=⟨by rw[List.length_drop];have:=h.1.2.2.1;omega,by rw[List.map_drop];exact Nat.le_trans (F4 _ _) h.1.2.2.2⟩;generalize x.l.drop j=l at*
 have hn:(Vl.no,Err.errno 3).1.s.length<=10000/\Small (Vl.no,Err.errno 3).1.L:=⟨Nat.zero_le _,gH⟩;unfold cE;split
 ·split
  ·refine⟨Nat.zero_le _,by show 1<=_;decide,λk=> ?_⟩;show([l.map Js.t].getD k []).length<=_/\Lib.lens ([l.map Js.t].getD k [])<=_;cases k with
   |zero=>exact⟨by show(l.map Js.t).length<=_;rw[List.length_map];omega,by show Lib.lens (l.map Js.t)<=_;omega⟩
   |succ k=>exact⟨Nat.zero_le _,Nat.zero_le _⟩
  ·exact hn
 split
 ·exact hn
 have t0:=h0 0
 split
 ·split
  ·refine⟨Nat.zero_le _,by show((aA l 0).l.map bp).length<=_;rw[List.length_map];have:=t0.1.2.2.1;omega,λk=> ?_⟩
   show(((aA l 0).l.map bp).getD k []).length<=_/\Lib.lens (((aA l 0).l.map bp).getD k [])<=_
   by_cases hk:k<(aA l 0).l.length
   ·have e:((aA l 0).l.map bp).getD k []=bp (aA (aA l 0).l k):=by
     rw[List.getD_eq_getElem?_getD,List.getElem?_map,List.getElem?_eq_getElem hk,mN hk];rfl
    rw[e]
    have:=pz (cp t0 k)
    omega
   ·rw[List.getD_eq_getElem?_getD,List.getElem?_eq_none (by rw[List.length_map];omega)]
    exact⟨Nat.zero_le _,Nat.zero_le _⟩
  ·exact hn
 have t1:=t0.1.1
 split
 ·exact hn
 split
 ·exact⟨by show(aA l 0).t.length<=_;omega,gH⟩
 ·have h:=Lb (s:=(aA l 0).t) (by omega) k
  exact⟨by omega,h.2⟩
def DK (x:Js):Itm:=if Pq x=false\/nb (aA x.l 1)=true\/dk (aA x.l 2).t=0 then Itm.z else xU x
theorem V6 {m:Nat}{x:Js}(h:Js.thin (m+4) x)(hk:Lib.lens (aA x.l 1).ks<=1048576):Itm.OK 10000 (xU x):=by
 have h1:=cp h 1
 have h2:=h1.1.2.1;have h0:=(cp h 0).1.1;have ht:=(cp h 2).1.1;have hl:=lR (aA x.l 1) (aA x.l 1).ks.length;have hr:=JI h 3 (Ih x);refine⟨⟨?_,?_,Nat.zero_le _,?_,?_⟩,hr.1,hr.2⟩
 ·show(eM _ _).length<=_;have:=zy h1 (aA x.l 1).ks.length;omega
 ·show(al 97 122 (-32) _).length<=_;rw[qe];omega
 ·show(wH x).length<=_;unfold wH;rw[List.length_append];split<;>simp only[List.length_nil,List.length_cons]<;>omega
 ·intro k
  have hz:TF Pr.z:=⟨Nat.zero_le _,Nat.zero_le _,Nat.zero_le _⟩
  refine VC (P:=TF) (l:=wH x) (λp hp=> ?_) hz k
  unfold wH at hp
  rw[List.mem_append] at hp
  rcases hp with hp|hp
  ·exact zx h1 hk _ p hp
  ·split at hp
   ·cases hp
   ·rw[List.mem_singleton] at hp
    subst hp
    refine⟨by show valN.length<=_;decide,by show 1<=10000;decide,?_⟩
    show Lib.lens [(aA x.l 2).t]<=_
    have e (s:List UInt8):Lib.lens [s]=s.length:=by simp[Lib.lens]
    rw[e];omega
end
section
def dp (r:Int):Int:=if 48<=r/\r<=57 then 57 else r
theorem Oo {l:List UInt8}(h:l≠[]):Lib.decodeL l=(eC l,d8 l):=by
 have h0:0<l.length:=List.length_pos_iff.2 h
 unfold Lib.decodeL;rw[rm l 0 h0,List.drop_zero];unfold eC d8;split<;>rfl
theorem Ry {r:Int}(h:128<=r):∃x t,Lib.encodeRune r=x::t/\128<=x.toNat:=by
 unfold Lib.encodeRune Lib.encodeRuneZ;rw[if_neg (by omega)];have hb:∀z:Int,128<=z->z<256->128<=(z.toNat.toUInt8).toNat:=by
  intro z h1 h2;rw[Nat.toUInt8,UInt8.toNat_ofNat_of_lt' (by simp;omega)];omega
 split
 ·exact⟨_,_,rfl,hb _ (by omega) (by omega)⟩
 ·split
  ·exact⟨_,_,rfl,hb _ (by omega) (by omega)⟩
  ·split
   ·exact⟨_,_,rfl,hb _ (by omega) (by omega)⟩
   ·exact⟨_,_,rfl,hb _ (by omega) (by omega)⟩
theorem Rx {r:Int}(h0:0<=r)(h:r<128):Lib.encodeRune r=[UInt8.ofNat r.toNat]:=by
 unfold Lib.encodeRune;rw[Lib.encodeRuneZ_one h0 (by omega)];rfl
theorem CA (x:UInt8)(l:List UInt8):aY (x::l)=UInt8.ofNat (ff x.toNat)::aY l:=rfl
theorem HZ:∀(n:Nat) (l u:List UInt8),l.length<=n->(∀c∈u,c.toNat<128)->(Lib.mapD dp l=u↔aY l=u)
 |n,[],u,_,_=>by
  have e:Lib.mapD dp []=[]:=rfl;rw[e]
  exact Iff.rfl
 |0,x::l,u,h,_=>by simp at h
 |n+1,x::l,u,h,hu=>by
  have hne:x::l≠[]:=by simp
  have hr:=rZ (x::l) (by simp)
  have hx:aa (x::l) 0=x.toNat:=rfl
  rw[Lib.mapD_step dp (x::l) hne,Oo hne]
  dsimp only
  by_cases h1:(eC (x::l):Int)<128
  ·obtain⟨h2,h3⟩:=hr.2.2.2.1 h1
   rw[hx] at h3
   have e1:dp (eC (x::l):Int)=(ff x.toNat:Int):=by
    rw[<-h3]
    unfold dp ff
    split<;>split<;>omega
   have h4:ff x.toNat<128:=by unfold ff;split<;>omega
   rw[if_pos (by rw[e1];omega),e1,Rx (by omega) (by omega),h2,List.drop_succ_cons,List.drop_zero,Int.toNat_natCast,CA,List.singleton_append]
   cases u with
   |nil=>simp
   |cons y t=>
    have ih:=HZ n l t (by simpa using h) (λc hc=>hu c (List.mem_cons_of_mem _ hc))
    simp only[List.cons.injEq,ih]
  ·have h5:=hr.2.2.2.2 (by omega) 0 hr.2.1
   rw[hx] at h5
   have e1:dp (eC (x::l):Int)=eC (x::l):=by unfold dp;rw[if_neg (by omega)]
   obtain⟨y,t,e2,h6⟩:=Ry (r:=(eC (x::l):Int)) (by omega)
   rw[if_pos (by rw[e1];omega),e1,e2,CA]
   have e3:ff x.toNat=x.toNat:=by unfold ff;rw[if_neg (by omega)]
   constructor
   ·rintro rfl
    have:=hu y (by simp)
    omega
   ·rintro rfl
    have:=hu (UInt8.ofNat (ff x.toNat)) (by simp)
    rw[e3,UInt8.ofNat_toNat] at this
    omega
theorem sn {l u:List UInt8}(hu:∀c∈u,c.toNat<128):Lib.mapD dp l=u↔aY l=u:=HZ l.length l u (Nat.le_refl _) hu
end
section
theorem Tryz.own:ownKnob prog.godebug=none:=by kernel_rfl
def bi (W:World)(k:Nat):Seal:=λb=>if b<k then W.heap[b]? else none
theorem Ay (W:World)(k:Nat):ei (bi W k) W:=by
 intro b o h;unfold bi at h;split at h
 ·exact h
 ·cases h
theorem Dr (W:World)(R:Seal)(G:Glo)(hG:G.p R)(hs:ei R W):MS ⟨W,R,eh [],G,hG,[]⟩ R [] W:=
 ⟨hs,Seal.le_refl R,λ_ hb=>.inl hb,⟨λ_ h=>absurd h List.not_mem_nil,List.nodup_nil,λ_ h=>absurd h List.not_mem_nil⟩,λ_ h=>absurd h List.not_mem_nil,KU.refl W _⟩
theorem wx {W W':World}(h:KU W [] W')(may:MemPlace->Prop):W.keptBut W' may:=by
 refine⟨h.os,h.output,λi hi=> ?_⟩;rw[h.block i hi (by simp)];generalize W.heap[i]? =o
 cases o with
 |none=>rfl
 |some o=>
  cases o with
  |cells c t fr=>exact⟨rfl,rfl,rfl,λ_ _=>rfl⟩
  |map es clock=>exact .inr ⟨rfl,rfl⟩
  |_=>rfl
end
section
theorem u4 {P:Program}{w:World}{n:String}{g:Nat}{cs:Array Value}(hg:P.globalNamed n=some g)(hv:w.var? P n=some cs):∃e fz,w.heap[g]? =some (.cells cs e fz):=by
 simp only[World.var?,hg,Option.bind_some] at hv;split at hv
 ·rename_i c e fz hh;cases hv;exact⟨_,_,hh⟩
 ·cases hv
def Sy (L:List (Nat×List AVal)):Glo:=⟨λR=>∀x,x∈L->dz R x.1 0 x.2,λ_ _ hle h x hx=>by
 obtain⟨C,e,fz,h1,h2⟩:=h x hx;exact⟨C,e,fz,hle _ _ h1,dJ hle _ _ h2⟩⟩
theorem wR:∀(L:List (Nat×List AVal)) {g:Nat} {cs:List AVal},nI L g=some cs->(g,cs)∈L
 |[],_,_,h=>by simp[nI] at h
 |(k,c)::r,g,cs,h=>by
  unfold nI at h;split at h
  ·rename_i e;obtain rfl:=Nat.eq_of_beq_eq_true e;cases h;exact List.mem_cons_self
  ·exact List.mem_cons_of_mem _ (wR r h)
theorem oy {L L':List (Nat×List AVal)}(h:∀x,x∈L'->x∈L):ab (Sy L) L':=λg cs hg R hR=>hR (g,cs) (h _ (wR L' hg))
theorem gV {W:World}{k g:Nat}{C:Array Value}{e:TypeId}{fz:Nat×Nat}{cs:List AVal}(hk:g<k)(hW:W.heap[g]? =some (.cells C e fz))(h:ce (bi W k) cs (C.toList.take cs.length)):dz (bi W k) g 0 cs:=
 ⟨C,e,fz,by unfold bi;rw[if_pos hk];exact hW,by rw[List.drop_zero];exact h⟩
theorem vK:∀ty,ty<prog.types.size->prog.rowNamed ty [101,114,114,111,114]=true->ty=36:=by
 have h:((List.range prog.types.size).all λty=> !prog.rowNamed ty [101,114,114,111,114]||Nat.beq ty 36)=true:=by kernel_rfl
 intro ty h1 h2;have:=List.all_eq_true.1 h ty (List.mem_range.2 h1);rw[h2] at this;exact Nat.eq_of_beq_eq_true (by simpa using this)
theorem GG {W:World}{k:Nat}(hk:0<k){laid:List (String×DataW Unit)}(hL:laidMetH prog laid W)(hm:("errors.errorType",Rows.laid_errors_errorType)∈laid):dz (bi W k) 0 0 [rty 36]:=by
 have h:=(laidMetH_iff.1 hL).2 _ (List.mem_filter.2 ⟨hm,by kernel_rfl⟩)
 have h:∃name u ty,(Rows.laid_errors_errorType (H:=Unit)).handleName? =some name∧(prog.cutTypes.find? (·.1== "internal/reflectlite.rtype")).map (·.2)=some u∧ty<prog.types.size∧prog.rowNamed ty name=true∧
   W.var? prog "errors.errorType" =some #[.iface u (.agg #[typeHandle prog ty])]:=h
 obtain⟨name,u,ty,h1,h2,h3,h4,h5⟩:=h
 obtain rfl:[101,114,114,111,114]=name:=Option.some.inj ((show(Rows.laid_errors_errorType (H:=Unit)).handleName? =some [101,114,114,111,114] by kernel_rfl).symm.trans h1)
 obtain rfl:217=u:=Option.some.inj ((show(prog.cutTypes.find? (·.1== "internal/reflectlite.rtype")).map (·.2)=some 217 by kernel_rfl).symm.trans h2)
 obtain rfl:=vK ty h3 h4
 obtain⟨e,fz,hh⟩:=u4 (show prog.globalNamed "errors.errorType" =some 0 by kernel_rfl) h5
 exact gV hk hh ⟨_,_,rfl,(qA _).1,rfl⟩
noncomputable def lc (os:Os):World:=
 let w0:=World.holding prog os ⟨#[],#[],[]⟩
 { w0 with heap:=w0.heap.modify 0 fun
   |.cells _ t frozen=>.cells #[.iface 217 (.agg #[kN 36])] t frozen
   |o=>o}
def iU (laid:List (String×DataW Unit)):List (String×DataW Unit):=laid.filter λx=>x.2.handleName?.isNone
noncomputable def fM (os:Os)(laid:List (String×DataW Unit)):World:=(lc os).layVars prog (iU laid)
theorem yC (os:Os)(laid:List (String×DataW Unit)):(fM os laid).os=os:=World.layVars_os _ _ _
theorem wP {os:Os}{laid:List (String×DataW Unit)}(args:Array Value)(hf:(lc os).layFits prog (iU laid) []=true)(hi:(lc os).layIfaces prog (iU laid) (fM os laid)=true)
  (hh:((laid.filter λx=>x.2.handleName?.isSome).all (handleAtB prog ((fM os laid).forCall (λ_ _=>0) ⟨#[],args,[]⟩).memory))=true):
  laidMetH prog laid ((fM os laid).forCall (λ_ _=>0) ⟨#[],args,[]⟩).memory:=by
 refine laidMetH_of_parts ?_ hh;have e1:((iU laid).filter λx=>((iU laid).map (·.1)).contains x.1)=iU laid:=List.filter_eq_self.2 λx hx=>List.contains_iff_mem.2 (List.mem_map.2 ⟨x,hx,rfl⟩);have e2:((iU laid).filter λx=> !((iU laid).map (·.1)).contains x.1)=[]:=List.filter_eq_nil_iff.2 λx hx=>by rw[List.contains_iff_mem.2 (List.mem_map.2 ⟨x,hx,rfl⟩)];simp
 have h:laidMet prog (iU laid) (fM os laid):=laidMet_layVars (w0:=lc os) ((iU laid).map (·.1)) [] (by rw[e1];rfl) (by rw[e1];exact hf) (by rw[e1];exact hi) (by rw[e2];exact LaidIn.none);exact h.of_heap (by simp[World.memory,World.forCall,Input.heap])
theorem Ur {W:World}{laid:List (String×DataW Unit)}(hL:laidMetH prog laid W)(hm:("errors.errorType",Rows.laid_errors_errorType)∈laid):0<W.heap.size:=by
 have h:=(laidMetH_iff.1 hL).2 _ (List.mem_filter.2 ⟨hm,by kernel_rfl⟩)
 obtain⟨name,u,ty,h1,h2,h3,h4,h5⟩:=h
 obtain⟨e,fz,hh⟩:=u4 (show prog.globalNamed "errors.errorType" =some 0 by kernel_rfl) h5
 exact(Array.getElem?_eq_some_iff.1 hh).1
theorem JY {P:Program}{G:Glo}{f:FuncId}{avs:List AVal}{c:Bool}{args:Array Value}{W:World}{R:Seal}(hs:aj P G f avs (.bool c))(hc:(callFunc f args).run P W= .ok (.enter f args) W)
  (hG:G.p R) (hR:ei R W) (ha:dv R avs args.toList):Calls P f args W λe W'=>e= .returned (.bool c)/\(∀may,W.keptBut W' may)/\Go.RowKit.Below W.heap.size W W':=by
 rcases hs R W args hG (Dr W R G hG hR) ha with⟨_,h⟩|⟨v,w',h,_⟩
 ·refine h.mono λe W' ⟨res,H',R',⟨hr,hH⟩,he,hm⟩=> ?_;subst hr;obtain⟨x,rfl,hx⟩:=he;refine⟨by rw[aW.1 hx],λmay=>wx hm.ext may,⟨hm.ext.os,hm.ext.tape,hm.ext.output,hm.ext.size,λk hk=>hm.ext.block k hk (λh=>absurd h List.not_mem_nil)⟩⟩
 ·rw[hc] at h;cases h
end
section
theorem x7 {R:Seal}{w W:World}(hs:ei R w)(hb:Below w.heap.size w W):ei R W:=λb o h=>by
 have h1:=hs b o h;rw[hb.block b ((Array.getElem?_eq_some_iff.1 h1).1)];exact h1
theorem N0 (c:Nat)(h:c<256):firstTab[c]? =some (.int .u8 (Lib.firstT c)):=by
 have:=tj c h;rwa [Nat.mul_one] at this
theorem Pe (i:Nat)(h:i<16):acceptTab[2*i]? =some (.int .u8 (Lib.accLo i))/\acceptTab[2*i+1]? =some (.int .u8 (Lib.accHi i)):=by
 match i,h with
 |0,_=>exact⟨rfl,rfl⟩
 |1,_=>exact⟨rfl,rfl⟩
 |2,_=>exact⟨rfl,rfl⟩
 |3,_=>exact⟨rfl,rfl⟩
 |4,_=>exact⟨rfl,rfl⟩
 |5,_=>exact⟨rfl,rfl⟩
 |6,_=>exact⟨rfl,rfl⟩
 |7,_=>exact⟨rfl,rfl⟩
 |8,_=>exact⟨rfl,rfl⟩
 |9,_=>exact⟨rfl,rfl⟩
 |10,_=>exact⟨rfl,rfl⟩
 |11,_=>exact⟨rfl,rfl⟩
 |12,_=>exact⟨rfl,rfl⟩
 |13,_=>exact⟨rfl,rfl⟩
 |14,_=>exact⟨rfl,rfl⟩
 |15,_=>exact⟨rfl,rfl⟩
 |n+16,h=>exact absurd h (by omega)
theorem Ll {G:Glo}(hU:ab G utfTy){R:Seal}{w:World}(hG:G.p R)(hs:ei R w):Lib.Utf8Tabs 5 6 w:=by
 have h1:dz R 5 0 firstTab:=hU _ _ rfl R hG;have h2:dz R 6 0 acceptTab:=hU _ _ rfl R hG
 refine⟨λc hc=> ?_,λi hi=>⟨?_,?_⟩⟩
 ·obtain⟨v,hv,hr⟩:=h1.cell hs (N0 c hc)
  rw[Nat.zero_add] at hv
  rw[hv,aq.1 (cG hr rfl)]
 ·obtain⟨v,hv,hr⟩:=h2.cell hs (Pe i hi).1
  rw[Nat.zero_add] at hv
  rw[hv,aq.1 (cG hr rfl)]
 ·obtain⟨v,hv,hr⟩:=h2.cell hs (Pe i hi).2
  rw[Nat.zero_add] at hv
  rw[hv,aq.1 (cG hr rfl)]
theorem F6 {P:Program}{G:Glo}{f:FuncId}{avs:List AVal}{k:IntKind}{c:Int}{args:Array Value}{W:World}{R:Seal}(hs:aj P G f avs (.int k c))(hc:(callFunc f args).run P W= .ok (.enter f args) W)
  (hG:G.p R) (hR:ei R W) (ha:dv R avs args.toList):Calls P f args W λe W'=>e= .returned (.int k c)/\Go.RowKit.Below W.heap.size W W':=by
 rcases hs R W args hG (Dr W R G hG hR) ha with⟨_,h⟩|⟨v,w',h,_⟩
 ·refine h.mono λe W' ⟨res,H',R',⟨hr,hH⟩,he,hm⟩=> ?_;subst hr;obtain⟨x,rfl,hx⟩:=he;exact⟨by rw[aq.1 hx],⟨hm.ext.os,hm.ext.tape,hm.ext.output,hm.ext.size,λk hk=>hm.ext.block k hk (λh=>absurd h List.not_mem_nil)⟩⟩
 ·rw[hc] at h;cases h
theorem Co {G:Glo}(hU:ab G utfTy)(f:Int->Int)(g:Nat)(s:List UInt8)(hl:s.length<=1000000)(hg:∀r:Nat,r<=1114111->aj prog G g [.int .i32 (r:Int)] (.int .i32 (f r)))(hf:∀x:Nat,x<=1114111-> -2147483648<=f x/\f x<=2147483647)
  (hc:∀args w,(callFunc g args).run prog w= .ok (.enter g args) w):aj prog G 103 [.func (.func g) [] [],.str s] (.str (Lib.mapD f s)):=by
 refine bO rfl call103 ?_;rintro R args ⟨x,t,e,hx,y,t',e',hy,rfl⟩ w hG hs;have hx0:=hx;obtain⟨⟨xa,xb,ex,r1,r2⟩,hx2⟩:=hx0;obtain rfl:=aI.1 hy;have hxv:x= .func (.func g) #[] #[]:=by
  cases x<;>first|(simp[Value.cells] at ex;done)|skip
  all_goals (try (simp[cU,AVal.isAgg] at hx2;done))
  simp only[Value.cells,List.cons.injEq,and_true,Value.func.injEq] at ex;obtain⟨e1,e2,e3⟩:=ex;have h1:xa.toList=[]:=r1;have h2:xb.toList=[]:=r2;rw[Array.toList_eq_nil_iff] at h1 h2;rw[e1,e2,e3,h1,h2]
 subst hxv;subst e';obtain rfl:=fb e;refine(strings_Map_grows g #[] hc f ⟨s.toArray⟩ w (by rw[bG];omega) ?_ hf (Ll hU hG hs)).mono ?_
 ·intro W r hr hb;exact(F6 (hg r hr) (hc _ _) hG (x7 hs hb) ⟨_,_,rfl,aq.2 rfl,rfl⟩).mono λe w' h=>h
 ·rintro e w' ⟨rfl,hb⟩;exact⟨by simp[AVal.conc],hb⟩
end
end Go.Proofs.YtpgdnpielhfpgaaGreatDoor
