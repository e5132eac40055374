/- Parts of the proof of cardParses_card. -/
import Derived.Laws.LoneSync
import Derived.Test.YtnbaflecdkgihaaGreatDoorBaf
set_option linter.unusedVariables false
set_option linter.unusedSimpArgs false
set_option linter.unusedSectionVars false
namespace Go.Proofs.YtnbaflecdkgihaaGreatDoor
open Go Go.RowKit
open Tryz
set_option maxRecDepth 20000
set_option maxHeartbeats 4000000
section
theorem X7 (s:List UInt8){i:Nat}(h:i<s.length):aa s i=s[i].toNat:=by
 unfold aa
 rw[f_,y_ h]
 rfl
theorem X9 {A e:List UInt8}{N j:Nat}{c:UInt8}(hj:j=A.length)(h:A.length+e.length<=N):(A++List.replicate (N-A.length) c).take j++e++(A++List.replicate (N-A.length) c).drop (j+e.length)=A++e++List.replicate (N-(A++e).length) c:=by
 subst hj;rw[List.take_left,List.drop_append,List.drop_eq_nil_of_le a_,L_,List.drop_replicate,d_];congr 2
 omega
theorem X8 {A:List UInt8}{N j:Nat}{c d:UInt8}(hj:j=A.length)(h:A.length<N):(A++List.replicate (N-A.length) c).set j d=A++[d]++List.replicate (N-(A++[d]).length) c:=by
 subst hj;rw[List.set_append_right _ _ (Nat.le_refl _),Nat.sub_self,show N-A.length=(N-(A++[d]).length)+1 by rw[d_,Rf];omega,List.replicate_succ,List.set_cons_zero,An];rfl
attribute [local irreducible] bG au aa az aR ab ad
attribute [local irreducible] qg
theorem Tp {G:Glo}{Fn:UInt8->List UInt8}{ks:List UInt8}{cs:List AVal}(hT:TN Fn ks cs)(hk:ks.length<=100)(s:List UInt8)(hl:s.length<=2000000)(hct:∀c,ak prog G 223 [.str s,.str [c]] (.int .i64 (s.countP (· ==c):Nat))):
  ak prog G 336 [.rop cs 0,.str s] (.str (s.flatMap Fn)):=by
 have hL:=Wy hT s;have hI:=λh=>X4 hT (s:=s) h;have hcn:=List.countP_le_length (p:=λc=>decide (c∈ks)) (l:=s);refine mh func336 call336 λC hC hGL=> ?_;refine cut hC hGL [(0,.rop cs 0),(1,.str s)] [] True eK λ_=> ?_;refine cut hC hGL [(0,.rop cs 0),(1,.str s),(5,.int .i64 (s.length:Nat))] [] True eK λ_=> ?_;refine cut hC hGL [(0,.rop cs 0),(1,.str s),(5,.int .i64 (s.length:Nat)),(6,.bool false)] [] True eK λ_=> ?_;refine Td (λ_:Unit=>[(0,.rop cs 0),(1,.str s),(5,.int .i64 ((s.flatMap Fn).length:Nat)),(6,.bool (decide ((s.countP λc=>decide (c∈ks))≠0)))]) (λ_=>[]) (λ_=>True) (ay hC hGL ?_) ?_
 ·by_cases hc:(ks.length:Int)*8<=s.length
  ·refine ao ?_;intros;erw[hT.last];refine ao ?_;intros;erw[hT.last];refine ao ?_;intros;refine lp hC hGL (λi:Nat=>[(0,.rop cs 0),(1,.str s),(5,.int .i64 ((s.length+qg ks s i:Nat):Int)),(6,.bool (decide (qg ks s i≠0))),(30,.list 1 ks.length (λi=>.str [ks.getD i 0])),(31,.int .i64 (ks.length:Nat)),(32,.int .i64 (i:Nat))]) (λ_=>[]) (λi=>i<=ks.length) (λi=>ks.length-i) 0 (Nat.zero_le _) (by rw[Wv];exact ah) rfl ?_;intro i hi;by_cases hik:i<ks.length
   ·have hs:=Mx (s:=s) hik hT.nd;have hq:=hct (ks.getD i 0);have hmem:ks.getD i 0∈ks:=by rw[f_,y_ hik];exact K_ hik
    have hy:=(hT.yes _ hmem).1;have hy2:cs[0+0+aa [ks.getD i 0] 0*1]? =some (.list 1 2 (kG (Fn (ks.getD i 0)))):=by
     rw[show 0+0+aa [ks.getD i 0] 0*1=(ks.getD i 0).toNat by unfold aa;simp];exact hy
    have hle:s.countP (· ==ks.getD i 0)<=s.length:=List.countP_le_length;have hle2:qg ks s i<=s.length:=by unfold qg;exact List.countP_le_length
    generalize s.countP (· ==ks.getD i 0)=m at*
    by_cases hm:m=0
    ·subst hm;rw[Nat.add_zero] at hs;refine ao ?_;intros;exact ga (i+1) hik a_ (by rw[hs];exact ah) aF
    ·refine ao ?_;intros;refine bh mixed hC hGL true (λ_:Unit=>[(0,.rop cs 0),(1,.str s),(5,.int .i64 ((s.length+qg ks s (i+1):Nat):Int)),(30,.list 1 ks.length (λi=>.str [ks.getD i 0])),(31,.int .i64 (ks.length:Nat)),(32,.int .i64 (i:Nat))]) (λ_=>[]) (.t 0 (.t 1 (.t 2 (.t 3 (.t 4 (.t 5 (.t 6 (.t 7 (.t 8 (.t 9 (.t 10 (.t 11 (.t 12 (.t 13 .done)))))))))))))) be ?_ ?_
     ·refine ao ?_;intros;erw[hy2];refine ao ?_;intros;refine⟨(),⟨rfl,rfl,?_,rfl,rfl,rfl,trivial⟩,rfl⟩;show some (AVal.int .i64 _)=some (AVal.int .i64 ((s.length+qg ks s (i+1):Nat):Int));congr 2
      rw[hs];show((s.length+qg ks s i:Nat):Int)+(m:Nat)*1=_;omega
     intro _;refine ao ?_;intros;refine ga (i+1) hik a_ ⟨rfl,rfl,rfl,?_,rfl,rfl,rfl,trivial⟩ aF;show some (AVal.bool true)=some (AVal.bool (decide (qg ks s (i+1)≠0)));rw[decide_eq_true a_]
   ·obtain rfl:i=ks.length:=by omega
    have e:qg ks s ks.length=s.countP λc=>decide (c∈ks):=by unfold qg;rw[List.take_length]
    rw[e];refine ao ?_;intros;exact Wg () trivial (bL (by rw[hL];exact ah) aF)
  ·refine ao ?_;intros;erw[hT.last];refine ao ?_;intros;refine lp hC hGL (λi:Nat=>[(0,.rop cs 0),(1,.str s),(5,.int .i64 ((s.length+(s.take i).countP (λc=>decide (c∈ks)):Nat):Int)),(6,.bool (decide ((s.take i).countP (λc=>decide (c∈ks))≠0))),(10,.int .i64 (i:Nat))]) (λ_=>[]) (λi=>i<=s.length) (λi=>s.length-i) 0 (Nat.zero_le _) ah rfl ?_;intro i hi;by_cases hik:i<s.length
   ·have hs:=Wz (ks:=ks) hik;have hb:=X7 s hik;have hle:(s.take i).countP (λc=>decide (c∈ks))<=s.length:=YX List.countP_le_length (by rw[i_];omega);generalize (s.take i).countP (λc=>decide (c∈ks))=m at*
    have ho:0+0+aa s i*1=(s[i]).toNat:=by rw[hb];omega
    by_cases hm:s[i]∈ks
    ·have hy2:cs[0+0+aa s i*1]? =some (.list 1 2 (kG (Fn s[i]))):=by rw[ho];exact(hT.yes _ hm).1
     rw[if_pos hm] at hs;refine ao ?_;intros;erw[hy2];refine ao ?_;intros;refine aZ hC hGL (jE (m:=1) rfl rfl rfl) rfl rfl ?_;refine ao ?_;intros;erw[hy2];refine ao ?_;intros;refine ga (i+1) hik a_ ⟨rfl,rfl,?_,?_,rfl,trivial⟩ aF
     ·show some (AVal.int .i64 _)=some (AVal.int .i64 ((s.length+(s.take (i+1)).countP (λc=>decide (c∈ks)):Nat):Int));congr 2
      rw[hs];show((s.length+m:Nat):Int)+1=_;omega
     ·show some (AVal.bool true)=some (AVal.bool (decide ((s.take (i+1)).countP (λc=>decide (c∈ks))≠0)));rw[decide_eq_true a_]
    ·have hy2:cs[0+0+aa s i*1]? =some (.raw (.slice none 0 0)):=by rw[ho];exact(hT.no _ hm).1
     rw[if_neg hm,Nat.add_zero] at hs;refine ao ?_;intros;erw[hy2];refine ao ?_;intros;exact ga (i+1) hik a_ (by rw[hs];exact ah) aF
   ·obtain rfl:i=s.length:=by omega
    rw[List.take_length];refine ao ?_;intros;exact Wg () trivial (bL (by rw[hL];exact ah) aF)
 intro _ _;by_cases h0:(s.countP λc=>decide (c∈ks))=0
 ·rw[hI h0,decide_eq_false (λh=>h h0)];exact ay hC hGL eK
 rw[decide_eq_true h0];refine cut hC hGL [(0,.rop cs 0),(1,.str s),(5,.int .i64 ((s.flatMap Fn).length:Nat))] [] True eK λ_=> ?_;refine ay hC hGL (ao ?_);intros;have hN:(s.flatMap Fn).length<=4000000:=by omega
 refine pO (m:=(s.flatMap Fn).length) (by assumption) hGL rfl rfl a_ rfl rfl rfl rfl rfl rfl rfl rfl (λbo=> ?_);refine ao ?_;intros;refine lp hC hGL (λx:Nat×List UInt8=>[(0,.rop cs 0),(1,.str s),(12,.own 0 (.slice (some ⟨bo,0,none⟩) (s.flatMap Fn).length (s.flatMap Fn).length)),(13,.int .i64 (((s.take x.1).flatMap Fn).length:Nat)),(14,.int .i64 (x.1:Nat))]) (λx=>[.buf bo x.2 (s.flatMap Fn).length]) (λx=>x.1<=s.length/\x.2=(s.take x.1).flatMap Fn++List.replicate ((s.flatMap Fn).length-((s.take x.1).flatMap Fn).length) 0) (λx=>s.length-x.1) (0,List.replicate (s.flatMap Fn).length 0) ⟨Nat.zero_le _,rfl⟩ ah rfl ?_;rintro⟨i,t⟩ ⟨hi,ht⟩;have hi:i<=s.length:=hi;have ht:t=((s.take i).flatMap Fn)++List.replicate ((s.flatMap Fn).length-((s.take i).flatMap Fn).length) 0:=ht;dsimp only
 have e0:=Ux (F:=Fn) (s:=s) (i:=i);have hl2:t.length=(s.flatMap Fn).length:=by rw[ht,d_,List.length_replicate];omega
 by_cases hik:i<s.length;case neg=>
  obtain rfl:i=s.length:=by omega
  rw[List.take_length,Nat.sub_self,List.replicate_zero,Dc] at ht;subst ht;exact eK
 have et:=Tq (F:=Fn) hik;have e1:=Ux (F:=Fn) (s:=s) (i:=i+1);have hb:=X7 s hik;have ho:0+0+aa s i*1=(s[i]).toNat:=by rw[hb];omega
 rw[et,d_] at e1;by_cases hm:s[i]∈ks
 ·obtain⟨hy,h2⟩:=hT.yes _ hm;have hy2:cs[0+0+aa s i*1]? =some (.list 1 2 (kG (Fn s[i]))):=by rw[ho];exact hy
  rw[h2] at e1;refine ao ?_;intros;erw[hy2];refine ao ?_;intros;refine aZ hC hGL (jE (m:=1) rfl rfl rfl) rfl rfl ?_;refine ao ?_;intros;refine bh mixed hC hGL false (λ_:Unit=>[(0,.rop cs 0),(1,.str s),(12,.own 0 (.slice (some ⟨bo,0,none⟩) (s.flatMap Fn).length (s.flatMap Fn).length)),(13,.int .i64 ((((s.take i).flatMap Fn).length:Nat)+2)),(14,.int .i64 (i:Nat))]) (λ_=>[.buf bo (t.take ((s.take i).flatMap Fn).length++Fn s[i]++t.drop (((s.take i).flatMap Fn).length+(Fn s[i]).length)) (s.flatMap Fn).length]) (.t 0 (.t 1 (.t 2 (.t 4 (.t 5 (.t 6 (.t 7 (.t 8 (.t 9 (.b 3 (.b 10 (.t 11 (.t 12 .done))))))))))))) be ?_ ?_
  ·refine ao ?_;intros;erw[hy2];refine ao ?_;intros;refine Hv (i:=0) (o:=((s.take i).flatMap Fn).length) (l:=(s.flatMap Fn).length) (c:=(s.flatMap Fn).length) (by assumption) hGL rfl rfl a_ a_ rfl rfl rfl rfl rfl rfl ?_;refine ao ?_;intros;refine LQ (i:=0) (bl:=bo) (o:=((s.take i).flatMap Fn).length) (l:=(s.flatMap Fn).length-((s.take i).flatMap Fn).length) (s:=t) (s2:=Fn s[i]) (by assumption) hGL rfl (by rw[h2];rfl) a_ rfl a_ a_ rfl rfl rfl rfl rfl rfl ?_;rw[h2];refine ao ?_;intros;exact⟨(),⟨rfl,rfl,rfl,rfl,rfl,trivial⟩,rfl⟩
  intro _;refine ao ?_;intros;refine ga (i+1,t.take ((s.take i).flatMap Fn).length++Fn s[i]++t.drop (((s.take i).flatMap Fn).length+(Fn s[i]).length)) ⟨hik,?_⟩ (by show s.length-(i+1)<s.length-i;omega) ⟨rfl,rfl,rfl,?_,rfl,trivial⟩ aF
  ·show t.take ((s.take i).flatMap Fn).length++Fn s[i]++t.drop (((s.take i).flatMap Fn).length+(Fn s[i]).length)=(s.take (i+1)).flatMap Fn++List.replicate ((s.flatMap Fn).length-((s.take (i+1)).flatMap Fn).length) 0;rw[ht,et];exact X9 rfl a_
  ·show some (AVal.int .i64 ((((s.take i).flatMap Fn).length:Nat)+2))=some (AVal.int .i64 (((s.take (i+1)).flatMap Fn).length:Nat));rw[et,d_,h2];rfl
 ·obtain⟨hy,h2⟩:=hT.no _ hm;have hy2:cs[0+0+aa s i*1]? =some (.raw (.slice none 0 0)):=by rw[ho];exact hy
  rw[h2] at e1 et;rw[Rf] at e1;refine ao ?_;intros;erw[hy2];have h7:((s.take i).flatMap Fn).length<t.length:=by omega
  refine ao ?_;intros;refine ga (i+1,t.set ((s.take i).flatMap Fn).length (UInt8.ofNat (aa s i))) ⟨hik,?_⟩ (by show s.length-(i+1)<s.length-i;omega) ⟨rfl,rfl,rfl,?_,rfl,trivial⟩ aF
  ·show t.set ((s.take i).flatMap Fn).length (UInt8.ofNat (aa s i))=(s.take (i+1)).flatMap Fn++List.replicate ((s.flatMap Fn).length-((s.take (i+1)).flatMap Fn).length) 0;rw[ht,et,hb,UInt8.ofNat_toNat];exact X8 rfl a_
  ·show some (AVal.int .i64 ((((s.take i).flatMap Fn).length:Nat)+1))=some (AVal.int .i64 (((s.take (i+1)).flatMap Fn).length:Nat));rw[et,d_];rfl
end
section
theorem nk {P:Program}[Tab P]{G:Glo}{f:FuncId}{avs:List AVal}{b:Nat}{eT:Option TypeId}{cs cs':List AVal}{v:AVal}
  (hrun:∀R w Cs e fz args,w.heap[b]? =some (.cells Cs e fz)->bX R cs Cs.toList->n8 fz Cs.size->dO R avs args.toList->∃x w' Cs',(callFunc f args).run P w= .ok (.value x) w'/\bx R v x/\nU w b (.cells Cs' e fz) w'/\bX R cs' Cs'.toList/\Cs'.size=Cs.size):
  ad P G f avs [.cells b eT cs] (λr H=>r= .ret v/\H=[.cells b eT cs']):=by
 intro R w args hG hm ha;obtain⟨Cs,e,fz,hb,hl,hfz,het⟩:=hm.heap.holds _ (z_ ..);obtain⟨x,w',Cs',h1,h2,h3,h4,h5⟩:=hrun R w Cs e fz args hb hl hfz ha;refine .inr ⟨x,w',h1,.ret v,[.cells b eT cs'],R,⟨rfl,rfl⟩,⟨x,rfl,h2⟩,?_⟩;exact hm.write (i:=0) rfl rfl h3 rfl ⟨Cs',e,fz,h3.at_,h4,by rw[h5];exact hfz,het⟩
theorem EC {w:World}{b:Nat}{o:Obj}(h:w.heap[b]? =some o):nU w b o w:=⟨rfl,rfl,rfl,rfl,h,λ_ _=>rfl⟩
theorem qO {w:World}{b off e:Nat}{Cs:Array Value}{fz:Nat×Nat}{v:Value}(h:w.heap[b]? =some (.cells Cs e fz))(ho:off<Cs.size):nU w b (.cells (Cs.setIfInBounds off v) e fz) (w.setCell ⟨b,off,none⟩ v):=by
 have hlt:b<w.heap.size:=by
  rcases YY b w.heap.size with h1|h1
  ·exact h1
  ·simp[Array.getElem?_eq_none h1] at h
 refine⟨rfl,rfl,rfl,by simp[World.setCell],?_,λk hk=> ?_⟩
 ·simp only[World.setCell,Array.getElem?_modify,Zc,h,YZ,Option.isSome_none,Bu,Zd]
 ·simp only[World.setCell,Array.getElem?_modify]
  rw[if_neg (λe=>hk e.symm)]
theorem rP {R:Seal}{a:AVal}{v:Value}(ha:bJ R a [v]):∀{cs:List AVal} {vs:List Value} {p:Nat},bX R cs vs->p<cs.length->bX R (cs.set p a) (vs.set p v)
 |[],_,_,_,h=>absurd h (Uf _)
 |c::cs,_,0,⟨u,t,rfl,h1,h2⟩,_=>⟨v,t,rfl,ha,h2⟩
 |c::cs,_,p+1,⟨u,t,rfl,h1,h2⟩,hp=>⟨u,_,rfl,h1,rP ha h2 (by simpa using hp)⟩
theorem Yc {R:Seal}{v:Value}{args:Array Value}(h:dO R [.raw v] args.toList):args=#[v]:=by
 obtain⟨x,t,e,hx,rfl⟩:=h
 obtain rfl:=ar.1 (show bx R (.raw v) x from hx);exact Array.ext' e
theorem Yb {R:Seal}{v:Value}{k:IntKind}{n:Int}{args:Array Value}(h:dO R [.raw v,.int k n] args.toList):args=#[v,.int k n]:=by
 obtain⟨x,t,e,hx,y,t2,rfl,hy,rfl⟩:=h;obtain rfl:=ar.1 (show bx R (.raw v) x from hx);obtain rfl:=aq.1 (show bx R (.int k n) y from hy);exact Array.ext' e
theorem YI {R:Seal}{v:Value}{k k2:IntKind}{n m:Int}{args:Array Value}(h:dO R [.raw v,.int k n,.int k2 m] args.toList):args=#[v,.int k n,.int k2 m]:=by
 obtain⟨x,t,e,hx,y,t2,rfl,hy,z,t3,rfl,hz,rfl⟩:=h;obtain rfl:=ar.1 (show bx R (.raw v) x from hx);obtain rfl:=aq.1 (show bx R (.int k n) y from hy);obtain rfl:=aq.1 (show bx R (.int k2 m) z from hz);exact Array.ext' e
section
variable {G:Glo} {b off:Nat} {eT:Option TypeId} {cs:List AVal}
abbrev pv (b off:Nat):Value:=.pointer (some ⟨b,off,none⟩)
theorem sw {R:Seal}{w:World}{Cs:Array Value}{e:Nat}{fz:Nat×Nat}{k:IntKind}{n:Int}(hb:w.heap[b]? =some (.cells Cs e fz))(hl:bX R cs Cs.toList)(hc:cs[off]? =some (.int k n)):w.cell? ⟨b,off,none⟩=some (.int k n)/\off<Cs.size:=by
 obtain⟨v,hv,hr⟩:=fo hl hc;simp only[bJ,o_,and_true] at hr;subst hr;refine⟨by simp only[World.cell?,hb];simpa using hv,?_⟩;have:=(List.getElem?_eq_some_iff.1 hv).1
 simpa using this
theorem qP {w:World}{Cs:Array Value}{e:Nat}{fz:Nat×Nat}(hb:w.heap[b]? =some (.cells Cs e fz))(hfz:n8 fz Cs.size)(ho:off<Cs.size):w.frozen? ⟨b,off,none⟩=false:=by
 obtain⟨lo,hi⟩:=fz;simp only[World.frozen?,hb,n8] at hfz ⊢;simp;omega
theorem TA {n:Int}(hc:cs[off]? =some (.int .u32 n)):ad prog G 254 [.raw (pv b off)] [.cells b eT cs] (λr H=>r= .ret (.int .u32 n)/\H=[.cells b eT cs]):=by
 refine nk λR w Cs e fz args hb hl hfz ha=> ?_;obtain rfl:=Yc ha;obtain⟨h1,_⟩:=sw hb hl hc;exact⟨_,_,Cs,run_call_load func254 be be be .u32 be h1,aq.2 rfl,EC hb,hl,rfl⟩
theorem QU {n y:Int}(hc:cs[off]? =some (.int .u32 n)):ad prog G 267 [.raw (pv b off),.int .u32 y] [.cells b eT cs] (λr H=>r= .ret (.tuple [])/\H=[.cells b eT (cs.set off (.int .u32 y))]):=by
 refine nk λR w Cs e fz args hb hl hfz ha=> ?_;obtain rfl:=Yb ha;obtain⟨h1,ho⟩:=sw hb hl hc;have hlen:=aJ hl;rw[r_] at hlen;refine⟨_,_,Cs.setIfInBounds off (.int .u32 y),run_call_store func267 be be be be h1 (qP hb hfz ho),⟨⟨#[],rfl,rfl⟩,rfl⟩,qO hb ho,?_,by simp⟩;rw[Array.toList_setIfInBounds];exact rP (show bJ R (.int .u32 y) [.int .u32 y] from rfl) hl a_
theorem WK {n y:Int}(hc:cs[off]? =some (.int .i32 n)):ad prog G 274 [.raw (pv b off),.int .i32 n,.int .i32 y] [.cells b eT cs] (λr H=>r= .ret (.bool true)/\H=[.cells b eT (cs.set off (.int .i32 y))]):=by
 refine nk λR w Cs e fz args hb hl hfz ha=> ?_;obtain rfl:=YI ha;obtain⟨h1,ho⟩:=sw hb hl hc;have hlen:=aJ hl;rw[r_] at hlen;refine⟨_,_,Cs.setIfInBounds off (.int .i32 y),run_call_cas_hit func274 be be be .i32 be h1 (qP hb hfz ho),aO.2 rfl,qO hb ho,?_,by simp⟩;rw[Array.toList_setIfInBounds];exact rP (show bJ R (.int .i32 y) [.int .i32 y] from rfl) hl a_
theorem WJ (hc:cs[off]? =some (.int .i32 1)):ad prog G 279 [.raw (pv b off),.int .i32 (-1)] [.cells b eT cs] (λr H=>r= .ret (.int .i32 0)/\H=[.cells b eT (cs.set off (.int .i32 0))]):=by
 refine nk λR w Cs e fz args hb hl hfz ha=> ?_;obtain rfl:=Yb ha;obtain⟨h1,ho⟩:=sw hb hl hc;have hlen:=aJ hl;rw[r_] at hlen;refine⟨_,_,Cs.setIfInBounds off (.int .i32 0),run_call_add func279 be be be .i32 be (s:=0) h1 (qP hb hfz ho) (by simp[go_sem];rfl),aq.2 rfl,qO hb ho,?_,by simp⟩;rw[Array.toList_setIfInBounds];exact rP (show bJ R (.int .i32 0) [.int .i32 0] from rfl) hl a_
end
end
section
theorem ji {P:Program}[Tab P]{G:Glo}{GL:List (Nat×List AVal)}{n:Nat}{H:Heap}{v:Value}(i:Nat){f:FuncId}{fn:Func}{c:Code}{avs:List AVal}{Qf:ct->Heap->Prop}{rs:List ResultVar}(hf:P.funcs[f]? =some fn)
  (hc:∀args w,(callFunc f args).run P w= .ok (.enter f args) w) (hb:fn.body=some c) (hn:fn.ntmps=n) (hrs:fn.results=rs.toArray) (hlen:Nat.ble (AVal.raw v::avs).length n=true) (hGL:ab G GL) (hv:dc v=false)
  (h:∀C:Ctx,C.G=G->gK P C n G GL c ((0,.own i v)::eY 0 (.raw v::avs)) H (ue P rs Qf)):ad P G f (.raw v::avs) H Qf:=
 p7 hf hb hc hn hrs hlen λw0 R0 hG=>(xi (C:=⟨w0,R0,eG H,G,hG,[]⟩) (k:=0) i rfl hGL hv rfl (h ⟨w0,R0,eG H,G,hG,[]⟩ rfl)).mono λ_ _ _ q=>jX q
section
variable {P:Program} [Tab P] {C:Ctx} {n:Nat} {env:Env} {H:Heap} {G:Glo} {x:Operand} {S T u:TypeId} {xS xT xu:TI}
theorem N4 {i j b off:Nat}{eT:Option TypeId}{cs:List AVal}{a:AVal}(hx:ai env x=some (.own i (pv b off)))(hj:H[j]? =some (.cells b eT cs))(hc:cs[off]? =some a)(h1:bi P S=some xS)(h2:xS.desc= .pointer u)(h3:bi P T=some xT)(h4:xT.desc= .unsafePointer)(h5:bi P u=some xu)(h6:Nat.ble 1 xu.size=true):
  bA P C H env (.convert S T x) (.raw (pv b off)):=by
 intro R ρ w hm hf dst t p af g;obtain⟨Cs,el,fz,hb,hl,_⟩:=lg hm hj;obtain⟨v,hv,_⟩:=fo hl hc;have hcell:w.cell? ⟨b,off,none⟩=some v:=by simp only[World.cell?,hb];simpa using hv
 obtain⟨iu,hiu,his,_⟩:=gQ h5;have h6:=v_ h6;have hr:=run_convert_to_unsafe (P:=P) (src:=S) (dst:=T) (by rw[bN h1,h2]) (by rw[bN h3,h4]) (by rw[hiu];simp[his];omega) hcell
 exact⟨_,by simp only[execOp,(aG.1 (hf _ _ hx)).1,e_,hr,c_,h_],ar.2 rfl⟩
end
section
variable {G:Glo}
theorem Au {f:FuncId}(h:∀w,(callFunc f #[]).run prog w= .ok (.value (.tuple #[])) w):ak prog G f [] (.tuple []):=by
 intro R w args hG hm ha;have e:args=#[]:=by
  have:args.toList=[]:=ha;exact Array.ext' this
 subst e;exact .inr ⟨_,w,h w,_,[],R,⟨rfl,rfl⟩,⟨_,rfl,⟨#[],rfl,rfl⟩,rfl⟩,hm⟩
theorem us {f:FuncId}{a:Addr}(h:∀w,(callFunc f #[.pointer (some a)]).run prog w= .ok (.value (.tuple #[])) w):ak prog G f [.raw (.pointer (some a))] (.tuple []):=by
 intro R w args hG hm ha;obtain rfl:=Yc ha;exact .inr ⟨_,w,h w,_,[],R,⟨rfl,rfl⟩,⟨_,rfl,⟨#[],rfl,rfl⟩,rfl⟩,hm⟩
theorem mR:ak prog G 273 [] (.tuple []):=Au λw=>run_call_mark0 func273 be be be .disable be w
theorem pL:ak prog G 275 [] (.tuple []):=Au λw=>run_call_mark0 func275 be be be .enable be w
theorem wV (a:Addr):ak prog G 276 [.raw (.pointer (some a))] (.tuple []):=us λw=>run_call_marked func276 be be be .acquire be a w
theorem wU (a:Addr):ak prog G 278 [.raw (.pointer (some a))] (.tuple []):=us λw=>run_call_marked func278 be be be .releaseMerge be a w
attribute [local irreducible] bG au aa az aR ab ad
theorem Pt {b off:Nat}{eT:Option TypeId}{cs:List AVal}(hc:cs[off]? =some (.int .i32 0)):ad prog G 265 [.raw (pv b off)] [.cells b eT cs] (λr H=>r= .ret (.tuple [])/\H=[.cells b eT (cs.set off (.int .i32 1))]):=by
 have hGL:ab G []:=al;have e1:=WK (G:=G) (b:=b) (eT:=eT) (y:=1) hc;have hlt:=(List.getElem?_eq_some_iff.1 hc).1;refine ji 0 func265 call265 rfl rfl rfl rfl hGL rfl ?_;intro C hC;repeat' (first|(conv=>whnf);first|refine .w ?_|refine .v ?_|refine eh ?_ ?_<;>(intro hb;try exact dd hb)|apply aT|apply bM|(apply cR<;>intro hb)|(apply cX;intro hbd)|(apply bD;first|exact mR|exact pL|exact e1)|(apply aV (i:=0) rfl;first|exact mR|exact pL|exact e1)|(apply cY;intro bl)|(apply dv;intro va vk vc hva)|(apply du;intro v)|(apply dw;intro bl cap hcap)|apply dI|(apply dq<;>intro hnx)|apply d8 mixed hC hGL be|(apply cq;assumption;(first|exact mR|exact pL|exact e1);exact rfl)|(show Rt _ _ _;exact cP)|fail)
 all_goals try conv=>whnf
 refine aZ hC hGL (N4 (j:=0) rfl rfl (List.getElem?_set_self hlt) rfl rfl rfl rfl rfl rfl) rfl rfl ?_;repeat' (first|(conv=>whnf);first|refine .w ?_|refine .v ?_|refine eh ?_ ?_<;>(intro hb;try exact dd hb)|apply aT|apply bM|(apply cR<;>intro hb)|(apply cX;intro hbd)|(apply bD;exact wV _)|(apply aV (i:=0) rfl;exact wV _)|(apply cY;intro bl)|(apply dv;intro va vk vc hva)|(apply du;intro v)|(apply dw;intro bl cap hcap)|apply dI|(apply dq<;>intro hnx)|apply d8 mixed hC hGL be|(apply cq;assumption;exact wV _;exact rfl)|(show Rt _ _ _;exact cP)|fail)
 all_goals try conv=>whnf
theorem HV {b off:Nat}{eT:Option TypeId}{cs:List AVal}(hc:cs[off]? =some (.int .i32 1)):ad prog G 266 [.raw (pv b off)] [.cells b eT cs] (λr H=>r= .ret (.tuple [])/\H=[.cells b eT (cs.set off (.int .i32 0))]):=by
 have hGL:ab G []:=al;have e1:=WJ (G:=G) (b:=b) (eT:=eT) hc;refine ji 0 func266 call266 rfl rfl rfl rfl hGL rfl ?_;intro C hC;refine aK ?_;intros;erw[hc];refine aK ?_;intros;refine aZ hC hGL (N4 (j:=0) rfl rfl hc rfl rfl rfl rfl rfl rfl) rfl rfl ?_;repeat' (first|(conv=>whnf);first|refine .w ?_|refine .v ?_|refine eh ?_ ?_<;>(intro hb;try exact dd hb)|apply aT|apply bM|(apply cR<;>intro hb)|(apply cX;intro hbd)|(apply bD;first|exact wU _|exact mR|exact pL|exact e1)|(apply aV (i:=0) rfl;first|exact wU _|exact mR|exact pL|exact e1)|(apply cY;intro bl)|(apply dv;intro va vk vc hva)|(apply du;intro v)|(apply dw;intro bl cap hcap)|apply dI|(apply dq<;>intro hnx)|apply d8 mixed hC hGL be|(apply cq;assumption;(first|exact wU _|exact mR|exact pL|exact e1);exact rfl)|(show Rt _ _ _;exact cP)|fail)
 all_goals try conv=>whnf
theorem YA {b off:Nat}{eT:Option TypeId}{cs:List AVal}(hc:cs[off]? =some (.int .i32 0)):ad prog G 255 [.raw (pv b off)] [.cells b eT cs] (λr H=>r= .ret (.tuple [])/\H=[.cells b eT (cs.set off (.int .i32 1))]):=by
 have hGL:ab G []:=al;have e1:=Pt (G:=G) (b:=b) (eT:=eT) hc;refine ji 0 func255 call255 rfl rfl rfl rfl hGL rfl ?_;intro C hC;exact bB
theorem UK {b off:Nat}{eT:Option TypeId}{cs:List AVal}(hc:cs[off]? =some (.int .i32 1))(m:fD):dP prog G 256 [.own 0 (pv b off)] m [.cells b eT cs] (λr m' H=>m'=m/\r= .ret (.tuple [])/\H=[.cells b eT (cs.set off (.int .i32 0))]):=by
 have hGL:ab G []:=al;have e1:=HV (G:=G) (b:=b) (eT:=eT) hc;refine vx (rs:=[]) (GL:=[]) func256 rfl rfl rfl rfl hGL ?_;intro C hC;exact bB
theorem A6 {b off:Nat}{eT:Option TypeId}{cs:List AVal}{n:Int}(hc:cs[off]? =some (.int .u32 n)):ad prog G 245 [.raw (pv b off)] [.cells b eT cs] (λr H=>r= .ret (.bool (!bU n 0))/\H=[.cells b eT cs]):=by
 have hGL:ab G []:=al;have e1:=TA (G:=G) (b:=b) (eT:=eT) hc;refine ji 0 func245 call245 rfl rfl rfl rfl hGL rfl ?_;intro C hC;exact bB
theorem F8:ak prog G 268 [.bool true] (.int .u32 1):=by
 refine ax func268 call268 λC hC hGL=> ?_;exact bB
theorem IN {b off:Nat}{eT:Option TypeId}{cs:List AVal}{n:Int}(hc:cs[off]? =some (.int .u32 n))(m:fD):dP prog G 257 [.own 0 (pv b off),.bool true] m [.cells b eT cs] (λr m' H=>m'=m/\r= .ret (.tuple [])/\H=[.cells b eT (cs.set off (.int .u32 1))]):=by
 have hGL:ab G []:=al;have e1:=QU (G:=G) (b:=b) (eT:=eT) (y:=1) hc;refine vx (rs:=[]) (GL:=[]) func257 rfl rfl rfl rfl hGL ?_;intro C hC;refine ao ?_;intros;refine bh mixed hC hGL false (λ(_:Unit)=>[]) (λ_=>[.cells b eT (cs.set off (.int .u32 1))]) (.t 0 (.t 1 (.t 2 (.t 3 (.b 4 (.b 5 .done)))))) be ?_ ?_
 ·repeat' (first|(conv=>whnf);first|refine .w ?_|refine .v ?_|refine eh ?_ ?_<;>(intro hb;try exact dd hb)|apply aT|apply bM|(apply cR<;>intro hb)|(apply cX;intro hbd)|(apply bD;first|exact e1|exact F8)|(apply aV (i:=0) rfl;first|exact e1|exact F8)|(apply cY;intro bl)|(apply dv;intro va vk vc hva)|(apply du;intro v)|(apply dw;intro bl cap hcap)|apply dI|(apply dq<;>intro hnx)|exact True.intro|(apply pk;intro C hC)|apply pi|apply oJ|(apply oK;exact rfl)|(show Rt _ _ _;exact cP)|fail)
  all_goals try conv=>whnf
  all_goals exact⟨(),trivial,rfl⟩
 ·intro _;exact eK
end
end
section
theorem Tv {P:Program}{C:Ctx}{n:Nat}{c:Code}{env:Env}{H:Heap}{Q:List Deferred->aM->Env->Heap->Prop}{k:Nat}(i:Nat){v:Value}(hv:dc v=false)(hk:Env.get env k=some (.raw v))(h:fZ P C n c ((k,.own i v)::env) H Q):fZ P C n c env H Q:=
 λR a w hm hf=>h R a w hm (tK hv hk hf)
theorem CF {P:Program}[Tab P]{G:Glo}{f:FuncId}{avs:List AVal}{H H':Heap}{v:AVal}{K Kp:AVal->Heap->Prop}(hs:ad P G f avs H (λr H2=>r= .ret v/\H2=H'))(k:K v H'):Cx P G f avs H K Kp:=by
 refine⟨_,hs,?_,?_⟩
 ·rintro v' H2 ⟨e,rfl⟩;cases e;exact k
 ·rintro v' H2 ⟨e,rfl⟩;cases e
attribute [local irreducible] bG au aa az aR ab ad
attribute [local irreducible] dP Lv fZ To
theorem LR {G:Glo}{b off fid:Nat}{eT:Option TypeId}{cs:List AVal}{T:Heap}{Y:Type}{cs2:Y->List AVal}{T2:Y->Heap}{l1 l2:List AVal}(h0:cs[off]? =some (.int .u32 0))(h1:cs[off+1]? =some (.int .i32 0))(k0:∀y,(cs2 y)[off]? =some (.int .u32 0))(k1:∀y,(cs2 y)[off+1]? =some (.int .i32 1))
  (hf:ad prog G fid (jA (l1++([]++l2))) (.cells b eT (cs.set (off+1) (.int .i32 1))::T) (λr H=>∃y,r= .ret (.tuple [])/\H= .cells b eT (cs2 y)::T2 y)):
  ad prog G 246 [.raw (pv b off),.func (.func fid) l1 l2] (.cells b eT cs::T) (λr H=>∃y,r= .ret (.tuple [])/\H= .cells b eT (((cs2 y).set off (.int .u32 1)).set (off+1) (.int .i32 0))::T2 y):=by
 have hGL:ab G []:=al;have e1:=YA (G:=G) (b:=b) (eT:=eT) h1;have h0':(cs.set (off+1) (.int .i32 1))[off]? =some (.int .u32 0):=by rw[M_ a_];exact h0
 have e2:=A6 (G:=G) (b:=b) (eT:=eT) h0';refine SX (rs:=[]) func246 call246 rfl rfl rfl rfl ?_;intro C hC hD;refine Tv (k:=0) (v:=pv b off) 0 rfl rfl ?_;refine ff (dJ hC hGL ?_);refine aK ?_;intros;rw[bq];refine aK ?_;intros;refine ff (jN hC hGL rfl ?_);refine aK ?_;intros;refine⟨_,rfl,?_⟩;refine(λ(h:∀C2:Ctx,C2.G=G->C2.D=[{target:=.fn (.func 256) #[],args:=#[pv b (off+1)]}]->fZ prog C2 _ _ _ _ _)=>h (withD C ({target:=.fn (.func 256) #[],args:=#[pv b (off+1)]}::C.D)) hC (by show _::C.D=_;rw[hD])) ?_;clear hC hD C;intro C hC hD;refine ff (dJ hC hGL ?_);refine aK ?_;intros;rw[bq];refine aK ?_;intros;refine Ga rfl (λ_=> ?_) (λhb=>absurd hb (by simp[bU]));refine ff (jN hC hGL rfl ?_);refine aK ?_;intros;refine⟨_,rfl,?_⟩;refine dJ (P:=prog) (C:=withD C ({target:=.fn (.func 257) #[],args:=#[pv b off,.bool true]}::C.D)) (G:=G) hC hGL ?_;refine aK ?_;intros;rw[cZ];refine⟨_,hf,?_,λv' H2 ⟨y,e,_⟩=>by cases e⟩;rintro v' H2 ⟨y,e,rfl⟩;cases e;show Lv prog _ _ _ _ ({target:=.fn (.func 257) #[],args:=#[pv b off,.bool true]}::C.D) _ _ _;rw[hD];refine ig (o8 (T2 y) (IN (k0 y) .ret)) (λR=>⟨_,_,rfl,aG.2 ⟨rfl,rfl⟩,_,_,rfl,aO.2 rfl,rfl⟩) call257 ?_;have k1':((cs2 y).set off (.int .u32 1))[off+1]? =some (.int .i32 1):=by rw[M_ a_];exact k1 y
 refine ig (o8 (T2 y) (UK k1' .ret)) (λR=>⟨_,_,rfl,aG.2 ⟨rfl,rfl⟩,rfl⟩) call256 ?_;refine VE (P:=prog) ?_;exact⟨_,At _,y,rfl,rfl⟩
theorem JH {G:Glo}{b off fid:Nat}{eT:Option TypeId}{cs:List AVal}{T:Heap}{Y:Type}{cs2:Y->List AVal}{T2:Y->Heap}{l1 l2:List AVal}(h0:cs[off]? =some (.int .u32 0))(h1:cs[off+1]? =some (.int .i32 0))(k0:∀y,(cs2 y)[off]? =some (.int .u32 0))(k1:∀y,(cs2 y)[off+1]? =some (.int .i32 1))
  (hl1:jA l1=l1) (hl2:jA l2=l2)
  (hf:ad prog G fid (jA (l1++([]++l2))) (.cells b eT (cs.set (off+1) (.int .i32 1))::T) (λr H=>∃y,r= .ret (.tuple [])/\H= .cells b eT (cs2 y)::T2 y)):
  ad prog G 233 [.raw (pv b off),.func (.func fid) l1 l2] (.cells b eT cs::T) (λr H=>∃y,r= .ret (.tuple [])/\H= .cells b eT (((cs2 y).set off (.int .u32 1)).set (off+1) (.int .i32 0))::T2 y):=by
 have hGL:ab G []:=al;have e1:=A6 (G:=G) (b:=b) (eT:=eT) h0;have e2:=LR h0 h1 k0 k1 hf;refine ji 0 func233 call233 rfl rfl rfl rfl hGL rfl ?_;intro C hC;refine aK ?_;intros;rw[bq];refine aK ?_;intros;rw[show mF (.func (.func fid) l1 l2)= .func (.func fid) l1 l2 by simp[mF,hl1,hl2]];refine⟨_,e2,?_,λv' H2 ⟨y,e,_⟩=>by cases e⟩;rintro v' H2 ⟨y,e,rfl⟩;cases e;exact⟨_,At _,y,rfl,rfl⟩
end
section
attribute [local irreducible] bG au aa az aR ab ad
def Ev:Nat->List Int->List (Nat×AVal)
 |_,[]=>[]
 |k,v::vs=>(k,.int .u8 v)::Ev (k+1) vs
theorem Eu:∀(vs:List Int) (k i:Nat) (h:i<vs.length),(Ev k vs)[i]? =some (k+i,.int .u8 vs[i])
 |[],_,_,h=>absurd h (Uf _)
 |v::vs,k,0,_=>rfl
 |v::vs,k,i+1,h=>by
  have:=Eu vs (k+1) i (by simpa using h);simp only[Ev,J_,List.getElem_cons_succ];rw[this,show k+1+i=k+(i+1) by omega]
def cb (vs:List Int):List UInt8:=vs.map λv=>UInt8.ofNat v.toNat
theorem gk {P:Program}[Tab P]{C:Ctx}{H:Heap}{env:Env}(vs:List Int){S T e:TypeId}{xS xT xe:TI}{x:Operand}(hx:ai env x=some (.list 1 vs.length (bT (Ev 0 vs))))(hv:∀v,v∈vs->0<=v/\v<256)
  (h1:bi P S=some xS) (h2:xS.desc= .slice e) (h5:bi P e=some xe) (h6:xe.desc= .int .u8) (h3:bi P T=some xT) (h4:xT.desc= .string):bA P C H env (.convert S T x) (.str (cb vs)):=by
 refine DN (cb vs) hx (by simp[cb]) (λi hi=> ?_) h1 h2 h5 h6 h3 h4
 have hi:i<vs.length:=by simpa[cb] using hi
 have:=hv _ (K_ hi);unfold bT;rw[Eu vs 0 i hi];simp only[byteA,cb,List.getD,List.getElem?_map,y_ hi,YZ,Z_];generalize vs[i]=v at*
 congr 1
 have e:v.toNat<256:=by omega
 rw[UInt8.toNat_ofNat_of_lt' (by simpa using e)];omega
end
section
inductive Js where
 |mk (k:Int) (t:List UInt8) (ks:List (List UInt8)) (l:List Js)
def Js.k:Js->Int|.mk k _ _ _=>k
def Js.t:Js->List UInt8|.mk _ t _ _=>t
def Js.ks:Js->List (List UInt8)|.mk _ _ ks _=>ks
def Js.l:Js->List Js|.mk _ _ _ l=>l
def Js.z:Js:=.mk 0 [] [] []
abbrev Uy (l:List Js)(i:Nat):Js:=l.getD i Js.z
def jsF:Nat->List Js->Nat->AVal
 |0,_,_=>.bool false
 |d+1,l,i=>.agg [.int .i64 (Uy l i).k,.str (Uy l i).t,.list 1 (Uy l i).ks.length (aB (Uy l i).ks),.list 4 (Uy l i).l.length (jsF d (Uy l i).l)]
abbrev Js.C (d:Nat)(x:Js):List AVal:=[.int .i64 x.k,.str x.t,.list 1 x.ks.length (aB x.ks),.list 4 x.l.length (jsF d x.l)]
def Js.R (d:Nat)(x:Js):AVal:=.agg (Js.C d x)
def Js.le:Nat->Js->Prop
 |0,x=>x.l=[]
 |d+1,x=>∀i,i<x.l.length->Js.le d (Uy x.l i)
def Js.sz:Nat->Js->Nat
 |0,x=>x.t.length+x.ks.length+Lib.lens x.ks+1
 |d+1,x=>x.t.length+x.ks.length+Lib.lens x.ks+1+((List.range x.l.length).map λi=>Js.sz d (Uy x.l i)).sum
end
section
theorem H4 {R:Seal}{t:TypeId}{a a':AVal}(h:∀v,bx R a v->bx R a' v){u:Value}:bJ R (.iface t a) [u]->bJ R (.iface t a') [u]:=by
 rintro⟨w,e,h1,h2⟩;have:=h w ⟨h1,h2⟩;exact⟨w,e,this.1,this.2⟩
theorem OA {R:Seal}{j:Nat}{x:Value}{a:AVal}(h:bx R a x):∀v,bx R (.own j x) v->bx R a v:=λv hv=>by rw[(aG.1 hv).1];exact h
theorem S8 {P:Program}{G:Glo}{f:FuncId}{avs:List AVal}{m m':fD}{H H':Heap}{v:AVal}{Y:Type}{H1:Y->Heap}(h:dP P G f avs m H (λr2 m2 H2=>m2=m'/\r2= .ret v/\∃y,H2=H1 y))
  (hto:∀y (C:Ctx) R w,MS C R (H1 y) w->∃R',R.le R'/\MS C R' H' w):dP P G f avs m H (λr2 m2 H2=>m2=m'/\r2= .ret v/\H2=H'):=by
 intro R w args u hG hm ha hu;refine(h R w args u hG hm ha hu).mono ?_
 rintro e u' w' ⟨res,m2,H2,R',⟨rfl,rfl,y,rfl⟩,⟨x,rfl,hr⟩,hu',hm'⟩
 obtain⟨R2,hle,hm2⟩:=hto y _ _ _ hm'
 exact⟨_,_,_,R2,⟨rfl,rfl,rfl⟩,⟨x,rfl,fm hle hr⟩,hu'.mono hle,hm2⟩
theorem PO {P:Program}[Tab P]{G:Glo}{f:FuncId}{avs:List AVal}{H:Heap}{i:Nat}{x:HEnt}{Qf:ct->Heap->Prop}(hi:H[i]? =some x)(hs:ad P G f avs [x] Qf)(hne:∀r H1,Qf r H1->H1≠[]):
  ad P G f avs H (λr H'=>∃y t,Qf r (y::t)/\H'=H.set i y++t):=by
 have hp:=fG hi;refine im (il (H1:=[x]++H.eraseIdx i) (by simpa using hp.symm) (dH (H.eraseIdx i) hs)) ?_;rintro r H' ⟨H1',q,rfl⟩;cases H1' with
 |nil=>exact absurd rfl (hne _ _ q)
 |cons y t=>
  refine⟨H.set i y++t,?_,y,t,q,rfl⟩;have h1:=j5 y hi;exact((Mp (l₁:=t) (l₂:=H.eraseIdx i)).cons y).trans (h1.append_right t)
def xd:List Nat->Heap->Heap
 |[],_=>[]
 |i::is,H=>match H[i]? with
  |some x=>x::xd is (H.eraseIdx i)
  |none=>[]
def um:List Nat->Heap->Heap
 |[],H=>H
 |i::is,H=>match H[i]? with
  |some _=>um is (H.eraseIdx i)
  |none=>H
theorem pN:∀(is:List Nat) (H:Heap),H.Perm (xd is H++um is H)
 |[],H=>N_ _
 |i::is,H=>by
  unfold xd um;cases h:H[i]? with
  |none=>exact N_ _
  |some x=>
   have h1:=fG h;exact h1.trans ((pN is (H.eraseIdx i)).cons x)
theorem CD (is:List Nat){P:Program}[Tab P]{G:Glo}{f:FuncId}{avs:List AVal}{H H1:Heap}{K Kp:AVal->Heap->Prop}{Qf:ct->Heap->Prop}(hs:ad P G f avs H1 Qf)(e1:xd is H=H1)
  (kr:∀v H1',Qf (.ret v) H1'->∃H2,xd is H2=H1'/\um is H2=um is H/\K v H2) (kp:∀v H1',Qf (.panic v) H1'->∃H2,xd is H2=H1'/\um is H2=um is H/\Kp v H2):Cx P G f avs H K Kp:=by
 subst e1;have h1:=il (pN is H).symm (dH (um is H) hs);refine⟨λr H'=>match r with|.ret v=>K v H'|.panic v=>Kp v H',im h1 ?_,λv H' h=>h,λv H' h=>h⟩;rintro r H' ⟨H1',q,rfl⟩;cases r with
 |ret v=>
  obtain⟨H2,g1,g2,k⟩:=kr v H1' q;refine⟨H2,?_,k⟩;have:=pN is H2;rw[g1,g2] at this;exact this.symm
 |panic v=>
  obtain⟨H2,g1,g2,k⟩:=kp v H1' q;refine⟨H2,?_,k⟩;have:=pN is H2;rw[g1,g2] at this;exact this.symm
theorem gz {R R':Seal}{a a' b:AVal}{x:Value}(hle:R.le R')(h:bx R (.tuple [a,b]) x)(ht:∀v,bx R a v->bx R' a' v):bx R' (.tuple [a',b]) x:=by
 obtain⟨⟨ws,e,u,t,e1,hu,u2,t2,e2,hu2,rfl⟩,h2⟩:=h;have k:=ht u ⟨hu.1,hu.2⟩;have k2:=fm hle (show bx R b u2 from⟨hu2.1,hu2.2⟩);exact⟨⟨ws,e,_,_,e1,⟨k.1,k.2⟩,_,_,e2,⟨k2.1,k2.2⟩,rfl⟩,h2⟩
theorem jn {R R':Seal}{cs:List AVal}{p:Nat}{a a':AVal}{v:Value}(hle:R.le R')(h:bx R (.agg cs) v)(hp:cs[p]? =some a)(ht:∀v,bJ R' a [v]->bJ R' a' [v]):bx R' (.agg (cs.set p a')) v:=
 ⟨rO ht (dZ hle _ _ h.1) hp,h.2⟩
section
variable {P:Program} [Tab P] {C:Ctx} {n:Nat} {env:Env} {H:Heap} {Q:List Deferred->aM->Env->Heap->Prop} {G:Glo} {GL:List (Nat×List AVal)}
theorem cf {a b:Code}{X:Type}(hC:C.G=G)(hGL:ab G GL)(I:X->Env)(J:X->Heap)(Inv:X->Prop)(h1:gK P C n G GL a env H (iG (λe h=>Cy I J Inv e h) (Q C.D)))(h2:∀x,Inv x->fZ P C n b (I x) (J x) Q):fZ P C n (.seq a b) env H Q:=by
 refine ff (QO ((dg hC hGL _ _ _ _ h1).mono λx e h q=> ?_));cases x with
 |normal=>
  obtain⟨y,hy,hs,rfl⟩:=q.h
  exact λR a w hm hf=>h2 y hy R a w hm (hf.sub hs)
 |exit i=>exact q
 |goto i=>exact q
 |ret=>exact q
 |panic v=>exact q
theorem T5 {rs:List ResultVar}{Qf:ct->Heap->Prop}(h:TL P rs Qf .ret env H):Lv P G n rs env [] .ret H Qf:=by
 unfold Lv;rintro C R a w fn u D0 hC hrs hm hf rfl;obtain⟨vs,H'',hv,hs,q⟩:=h;obtain⟨y,hy,hr⟩:=dT (fn:=fn) hm hf (by rw[hrs];exact hv);exact⟨y,hy,_,H'',R,q,⟨y,rfl,hr⟩,hm.drop hs⟩
end
end
section
def Q6 (res:ct)(H:Heap)(Qf:ct->Heap->Prop):Prop:=∀(C:Ctx) (R:Seal) (w:World) (e:Ending),MS C R H w->iD R res e->∃r2 H2 R',Qf r2 H2/\MS C R' H2 w/\iD R' r2 e
theorem Fw {P:Program}{G:Glo}{f:FuncId}{avs:List AVal}{H:Heap}{Qf Qf':ct->Heap->Prop}(h:ad P G f avs H Qf)(hq:∀r H',Qf r H'->Q6 r H' Qf'):ad P G f avs H Qf':=by
 intro R w args hG hm ha;rcases h R w args hG hm ha with⟨h1,h2⟩|⟨x,w',h1,res,H',R',q,er,hm'⟩
 ·exact .inl ⟨h1,h2.mono λe w' ⟨res,H',R',q,er,hm'⟩=>let ⟨r2,H2,R2,q2,m2,e2⟩:=hq _ _ q _ _ _ _ hm' er;⟨r2,H2,R2,q2,e2,m2⟩⟩
 ·obtain⟨r2,H2,R2,q2,m2,e2⟩:=hq _ _ q _ _ _ _ hm' er;exact .inr ⟨x,w',h1,r2,H2,R2,q2,e2,m2⟩
end
section
theorem v6 {t:TypeId}{a a':AVal}{H H':Heap}(hto:∀C:Ctx,To C 1 [(0,a)] H [(0,a')] H'):Q6 (.ret (.iface t a)) H (λr H2=>r= .ret (.iface t a')/\H2=H'):=by
 rintro C R w e hm ⟨x,rfl,hx⟩;obtain⟨u,hu,h1,h2⟩:=bE hx rfl;have hu:x= .iface t u:=(List.cons.inj hu).1;subst hu;have hf:FS C.D 1 R [(0,a)] ⟨#[u],C.D⟩:=by
  refine⟨λk v hk=> ?_,rfl,rfl⟩;cases k with
  |zero=>cases hk;exact⟨u,rfl,h1,h2⟩
  |succ k=>cases hk
 obtain⟨R',hle,hm',hf'⟩:=hto C R _ w hm hf;obtain⟨y,hy,hr⟩:=hf'.fr 0 a' rfl;cases hy;exact⟨_,_,R',⟨rfl,rfl⟩,hm',_,rfl,wJ ⟨u,rfl,hr.1,hr.2⟩ rfl rfl⟩
attribute [local irreducible] bG au aa az aR ab ad
attribute [local irreducible] dP Lv fZ To
def fH (u:Value):List AVal:=[.int .u32 0,.int .i32 0,.int .u32 0,.raw .nilIface,.own 0 u]
theorem kF {G:Glo}(m:Nat)(f:Nat->AVal)(hm:m<=1000)(h2:m%2=0)(hs:az 1 m f):ad prog G 211 [.list 1 m f] [] (λr H=>∃bl va vk vc,Gj m va vk/\r= .ret (.own 1 (pv bl 0))/\H=[.row (.slice va vk vc) none 1 m (eP m f),.cells bl (some 319) (fH (.slice va vk vc))]):=by
 refine ax func211 call211 λC hC hGL=> ?_;repeat' (first|(conv=>whnf);first|refine .w ?_|refine .v ?_|refine eh ?_ ?_<;>(intro hb;try exact dd hb)|apply aT|apply bM|(apply cR<;>intro hb)|(apply cX;intro hbd)|(apply cY;intro bl)|(apply dv;intro va vk vc hva)|(apply du;intro v)|(apply dw;intro bl cap hcap)|apply WC|(apply dq<;>intro hnx)|exact True.intro|(apply pk;intro C hC)|apply pi|apply oJ|(apply oK;exact rfl)|(show Rt _ _ _;exact cP)|fail)
 all_goals try conv=>whnf
 exact⟨_,At _,bl,va,vk,vc,hva,rfl,rfl⟩
abbrev QI (br m vc:Nat)(cs:List AVal):HEnt:=.row (.slice (some ⟨br,0,none⟩) m vc) none 1 m cs
abbrev X6 (br m vc:Nat):List AVal:=fH (.slice (some ⟨br,0,none⟩) m vc)
abbrev W3 (br m vc:Nat):List AVal:=(X6 br m vc).set 1 (.int .i32 1)
abbrev YH (bi:List AVal):AVal:=.iface 370 (.rop bi 0)
def Gn (G:Glo)(m:Nat)(cs:List AVal)(Fn:UInt8->List UInt8)(ks:List UInt8):Prop:=∀br bl vc,ad prog G 247 [.raw (pv bl 0)] [QI br m vc cs,.cells bl (some 319) (W3 br m vc)]
 (λr H=>∃bi,TN Fn ks bi/\r= .ret (YH bi)/\H=[QI br m vc cs,.cells bl (some 319) (W3 br m vc)])
theorem XF (a:AVal):∀R v,bx R a v→∀w,∃u,(Go.method (prog.types.size+Made.depth) 370 v "Replace").run prog w= .ok (336,u) w∧bx R a u:=by
 intro R v hv w
 exact⟨v,be,hv⟩
section
variable {G:Glo} {m:Nat} {cs:List AVal} {Fn:UInt8->List UInt8} {ks:List UInt8}
abbrev brR (bi:List AVal):List AVal:=[.int .u32 0,.int .i32 1,.int .u32 0,YH bi,.raw (.slice none 0 0)]
abbrev brQ (bi:List AVal):List AVal:=[.int .u32 1,.int .i32 0,.int .u32 0,YH bi,.raw (.slice none 0 0)]
theorem OI (hB:Gn G m cs Fn ks)(br bl vc:Nat):ad prog G 234 [.raw (pv bl 0)] [QI br m vc cs,.cells bl (some 319) (W3 br m vc)]
  (λr H=>∃y:{bi//TN Fn ks bi},r= .ret (.tuple [])/\H=[QI br m vc cs,.cells bl (some 319) (brR y.1)]):=by
 have hGL:ab G []:=al;have e1:=hB br bl vc;unfold W3 X6 fH at*
 refine ji 1 func234 call234 rfl rfl rfl rfl hGL rfl ?_;intro C hC;refine ao ?_;intros;refine⟨_,e1,?_,?_⟩
 ·rintro v' H2 ⟨bi,ht,e,rfl⟩;cases e;refine ao ?_;intros
  exact⟨_,At _,⟨bi,ht⟩,rfl,rfl⟩
 ·rintro v' H2 ⟨bi,ht,e,rfl⟩
  cases e
theorem Wb (hB:Gn G m cs Fn ks)(br bl vc:Nat):ad prog G 233 [.raw (pv bl 0),.func (.func 234) [.raw (pv bl 0)] []] [QI br m vc cs,.cells bl (some 319) (X6 br m vc)]
  (λr H=>∃y:{bi//TN Fn ks bi},r= .ret (.tuple [])/\H=[QI br m vc cs,.cells bl (some 319) (brQ y.1)]):=by
 have e1:=OI hB br bl vc;have e2:=JH (G:=G) (b:=bl) (off:=0) (fid:=234) (eT:=some 319) (cs:=X6 br m vc) (T:=[QI br m vc cs]) (Y:={bi//TN Fn ks bi}) (cs2:=λy=>brR y.1) (T2:=λ_=>[QI br m vc cs]) (l1:=[.raw (pv bl 0)]) (l2:=[]) rfl rfl (λ_=>rfl) (λ_=>rfl) rfl rfl
  (by
   refine im (il (List.Perm.swap _ _ _) e1) ?_;rintro r H ⟨y,rfl,rfl⟩;exact⟨_,List.Perm.swap _ _ _,y,rfl,rfl⟩)
 refine im (il (List.Perm.swap _ _ _) e2) ?_;rintro r H ⟨y,rfl,rfl⟩;exact⟨_,List.Perm.swap _ _ _,y,rfl,rfl⟩
theorem un (hB:Gn G m cs Fn ks)(hk:ks.length<=100)(br bl vc:Nat)(s:List UInt8)(hl:s.length<=2000000)(hct:∀c,ak prog G 223 [.str s,.str [c]] (.int .i64 (s.countP (· ==c):Nat))):
  ad prog G 212 [.raw (pv bl 0),.str s] [QI br m vc cs,.cells bl (some 319) (X6 br m vc)] (λr H=>r= .ret (.str (s.flatMap Fn))/\H=[]):=by
 have hGL:ab G []:=al;have e1:=Wb hB br bl vc;refine ji 1 func212 call212 rfl rfl rfl rfl hGL rfl ?_;intro C hC;refine ao ?_;intros;refine⟨_,e1,?_,λv' H' ⟨y,e,_⟩=>by cases e⟩;rintro v' H' ⟨⟨bi,ht⟩,e,rfl⟩;cases e;have e3:=Tp (G:=G) ht hk s hl hct;refine ao ?_;intros;refine iv 336 (.rop bi 0) (XF _) (bD e3 ?_);exact eK
end
end
section
attribute [local irreducible] bG au az aR ab ad
attribute [local irreducible] dP Lv fZ To
def ru (i j k:Nat)(a b c t:AVal):List AVal:=(((List.replicate 256 (.raw (.slice none 0 0))).set i a).set j b).set k c++[t]
theorem MD {G:Glo}(br bl vc:Nat):ad prog G 247 [.raw (pv bl 0)] [.row (.slice (some ⟨br,0,none⟩) 6 vc) none 1 6 [.str [94],.str [94,94],.str [10],.str [94,110],.str [34],.str [94,39]],.cells bl (some 319) ((fH (.slice (some ⟨br,0,none⟩) 6 vc)).set 1 (.int .i32 1))]
  (λr H=>∃va vk vt bz b1 c1 b2 c2 b3 c3,Gj 3 va vk/\r= .ret (.iface 370 (.own 3 (pv bz 0)))/\H=[.row (.slice (some ⟨br,0,none⟩) 6 vc) none 1 6 [.str [94],.str [94,94],.str [10],.str [94,110],.str [34],.str [94,39]],.cells bl (some 319) ((fH (.slice (some ⟨br,0,none⟩) 6 vc)).set 1 (.int .i32 1)),
   .row (.slice va vk vt) (some 9) 1 3 [.str [34],.str [10],.str [94]],.cells bz (some 369) (ru 34 10 94 (.own 4 (.slice (some ⟨b1,0,none⟩) 2 c1)) (.own 5 (.slice (some ⟨b2,0,none⟩) 2 c2)) (.own 6 (.slice (some ⟨b3,0,none⟩) 2 c3)) (.own 2 (.slice va vk vt))),.buf b1 [94,39] c1,.buf b2 [94,110] c2,.buf b3 [94,94] c3]):=by
 have hGL:ab G []:=al;unfold fH;refine ji 1 func247 call247 rfl rfl rfl rfl hGL rfl ?_;intro C hC;refine ao ?_;intros;have c0:([.str [94],.str [94,94],.str [10],.str [94,110],.str [34],.str [94,39]]:List AVal)[0]? =some (.str [94]):=rfl;have r0:cd (.slice (some ⟨br,0,none⟩) 6 vc) br 6/\0<6*1:=⟨⟨_,rfl⟩,b_⟩;have c1:([.str [94],.str [94,94],.str [10],.str [94,110],.str [34],.str [94,39]]:List AVal)[1]? =some (.str [94,94]):=rfl;have r1:cd (.slice (some ⟨br,0,none⟩) 6 vc) br 6/\1<6*1:=⟨⟨_,rfl⟩,b_⟩;have c2:([.str [94],.str [94,94],.str [10],.str [94,110],.str [34],.str [94,39]]:List AVal)[2]? =some (.str [10]):=rfl;have r2:cd (.slice (some ⟨br,0,none⟩) 6 vc) br 6/\2<6*1:=⟨⟨_,rfl⟩,b_⟩;have c3:([.str [94],.str [94,94],.str [10],.str [94,110],.str [34],.str [94,39]]:List AVal)[3]? =some (.str [94,110]):=rfl
 have r3:cd (.slice (some ⟨br,0,none⟩) 6 vc) br 6/\3<6*1:=⟨⟨_,rfl⟩,b_⟩
 have c4:([.str [94],.str [94,94],.str [10],.str [94,110],.str [34],.str [94,39]]:List AVal)[4]? =some (.str [34]):=rfl
 have r4:cd (.slice (some ⟨br,0,none⟩) 6 vc) br 6/\4<6*1:=⟨⟨_,rfl⟩,b_⟩
 have c5:([.str [94],.str [94,94],.str [10],.str [94,110],.str [34],.str [94,39]]:List AVal)[5]? =some (.str [94,39]):=rfl
 have r5:cd (.slice (some ⟨br,0,none⟩) 6 vc) br 6/\5<6*1:=⟨⟨_,rfl⟩,b_⟩
 refine mQ hC hGL 4 ?_
 refine ao ?_
 intros
 refine tq (m:=3) hC hGL rfl rfl a_ rfl rfl rfl rfl rfl rfl rfl (λbt=> ?_)
 refine ao ?_
 intros
 refine mQ hC hGL 4 ?_
 refine ao ?_
 intros
 refine aZ hC hGL (gk [34] rfl (by intro v hv;simp only[p_,t_,or_false] at hv;omega) rfl rfl rfl rfl rfl rfl) rfl rfl ?_
 refine ao ?_
 intros
 refine aZ hC hGL (gk [10] rfl (by intro v hv;simp only[p_,t_,or_false] at hv;omega) rfl rfl rfl rfl rfl rfl) rfl rfl ?_
 refine ao ?_
 intros
 refine aZ hC hGL (gk [94] rfl (by intro v hv;simp only[p_,t_,or_false] at hv;omega) rfl rfl rfl rfl rfl rfl) rfl rfl ?_
 refine ao ?_
 intros
 exact⟨_,At _,_,_,_,_,_,_,_,_,_,_,by assumption,rfl,rfl⟩
end
section
theorem fI {s:List UInt8}{j:Nat}(h:j<s.length):aa s j=s[j].toNat:=by
 simp[aa,List.getD,h]
def encF (c:UInt8):List UInt8:=if c=94 then[94,94] else if c=10 then[94,110] else if c=34 then[94,39] else[c]
def fQ (s:List UInt8):List UInt8:=s.flatMap encF
theorem V7:encF 94=[94,94]:=rfl
theorem V9:encF 10=[94,110]:=rfl
theorem V8:encF 34=[94,39]:=rfl
theorem FG {c:UInt8}(h1:c.toNat≠94)(h2:c.toNat≠10)(h3:c.toNat≠34):encF c=[c]:=by
 unfold encF;rw[if_neg (by rintro rfl;exact h1 rfl),if_neg (by rintro rfl;exact h2 rfl),if_neg (by rintro rfl;exact h3 rfl)]
theorem P1:fQ []=[]:=rfl
theorem Mi (c:UInt8)(s:List UInt8):fQ (c::s)=encF c++fQ s:=rfl
theorem P3 (s t:List UInt8):fQ (s++t)=fQ s++fQ t:=by simp[fQ]
theorem P4 (c:UInt8):1<=(encF c).length/\(encF c).length<=2:=by
 unfold encF
 (repeat' split)<;>simp
theorem sn (s:List UInt8):s.length<=(fQ s).length/\(fQ s).length<=2*s.length:=by
 induction s with
 |nil=>exact⟨Nat.le_refl _,Nat.le_refl _⟩
 |cons c t ih=>
  have:=P4 c;rw[Mi,d_,j_];omega
def vC (N:Nat)(v:AVal)(i j k:Nat)(a b c t:AVal):List AVal:=(((List.replicate N v).set i a).set j b).set k c++[t]
theorem FZ (N:Nat)(v:AVal)(i j k:Nat)(a b c t:AVal):(vC N v i j k a b c t)[N]? =some t:=by
 unfold vC;rw[G_ (by simp)];simp
theorem FY {N:Nat}{v:AVal}{i j k n:Nat}{a b c t:AVal}(hn:n<N):(vC N v i j k a b c t)[n]? =some (if n=k then c else if n=j then b else if n=i then a else v):=by
 unfold vC;rw[H_ (by simpa using hn)];by_cases h1:n=k
 ·subst h1;rw[List.getElem?_set_self (by simpa using hn),if_pos rfl]
 ·rw[if_neg h1,M_ (Ne.symm h1)];by_cases h2:n=j
  ·subst h2;rw[List.getElem?_set_self (by simpa using hn),if_pos rfl]
  ·rw[if_neg h2,M_ (Ne.symm h2)];by_cases h3:n=i
   ·subst h3;rw[List.getElem?_set_self (by simpa using hn),if_pos rfl]
   ·rw[if_neg h3,M_ (Ne.symm h3)];simp[hn]
theorem Dy (i j k:Nat)(a b c t:AVal):(ru i j k a b c t)[256]? =some t:=FZ 256 _ i j k a b c t
theorem ou {i j k n:Nat}{a b c t:AVal}(hn:n<256):(ru i j k a b c t)[n]? =some (if n=k then c else if n=j then b else if n=i then a else .raw (.slice none 0 0)):=FY (N:=256) hn
end
section
structure Pr where
 n:List UInt8
 vs:List (List UInt8)
def Pr.z:Pr:=⟨[],[]⟩
instance:Inhabited Pr:=⟨Pr.z⟩
structure Ln where
 g:List UInt8
 n:List UInt8
 ps:List Pr
 v:List UInt8
def fU (ps:List Pr)(i:Nat):AVal:=.agg [.str (ps.getD i Pr.z).n,.list 1 (ps.getD i Pr.z).vs.length (aB (ps.getD i Pr.z).vs)]
def Ln.A (p:Ln):AVal:=.agg [.str p.g,.str p.n,.list 2 p.ps.length (fU p.ps),.str p.v]
structure Ln.OK (N:Nat) (p:Ln):Prop where
 g:p.g.length<=N
 n:p.n.length<=N
 v:p.v.length<=N
 ps:p.ps.length<=N
 q:∀k,(p.ps.getD k Pr.z).n.length<=1100000/\(p.ps.getD k Pr.z).vs.length<=N/\Lib.lens (p.ps.getD k Pr.z).vs<=N
structure Ln.Fit (p:Ln):Prop where
 g:p.g.length<=10000
 n:p.n.length<=10000
 v:p.v.length<=140737488355328
 ps:p.ps.length<=10000
 q:∀k,(p.ps.getD k Pr.z).n.length<=1100000/\(p.ps.getD k Pr.z).vs.length<=10000/\Lib.lens (p.ps.getD k Pr.z).vs<=10000
theorem Ln.OK.fit {p:Ln}(h:p.OK 10000):p.Fit:=⟨h.g,h.n,by have:=h.v;omega,h.ps,h.q⟩
theorem Ln.OK.mono {N M:Nat}(hN:N<=M){p:Ln}(h:p.OK N):p.OK M:=⟨YX h.g hN,YX h.n hN,YX h.v hN,YX h.ps hN,λk=>⟨(h.q k).1,YX (h.q k).2.1 hN,YX (h.q k).2.2 hN⟩⟩
theorem bO {p:Nat->Prop}{k:Nat}(h:∀j,j<k->p j)(hk:p k):∀j,j<k+1->p j:=λj hj=>by
 rcases YY j k with g|g
 ·exact h j g
 ·rw[show j=k by omega];exact hk
end
section
def q9 (c:Bool)(s:List UInt8):List UInt8:=if c then fQ s else s
def kx (c:Bool)(s:List UInt8):Bool:=fd false (q9 c s)&&decide (aS (q9 c s) 34<0)
def tk (c:Bool)(q:Pr):Int:=if isS q.n=false then 5 else if q.vs.length=0 then 8 else if q.vs.all (kx c) then 0 else 3
def lF (c:Bool):List Pr->Nat->Err
 |[],_=>.none
 |q::l,i=>if tk c q=0 then lF c l (i+1) else .at (tk c q) i
def Ln.E (c:Bool)(p:Ln):Err:=if isS p.n=false\/(p.g.length≠0/\isS p.g=false) then .errno 5
 else if 20<p.ps.length then .errno 4
 else match lF c p.ps 0 with
  |.none=>if fd false p.v then .none else .errno 3
  |x=>x
def rT (c:Int):Bool:=decide (c=44\/c=59\/c=58)
def fN (c:Bool)(s:List UInt8):List UInt8:=if fX rT (q9 c s)<0 then q9 c s else 34::q9 c s++[34]
def Sh (c:Bool)(q:Pr):List UInt8:=59::q.n++[61]++Lib.join (q.vs.map (fN c)) [44]
def oU (p:Ln):List UInt8:=if p.g.length=0 then p.n else p.g++[46]++p.n
def Ln.txt (c:Bool)(p:Ln):List UInt8:=oU p++p.ps.flatMap (Sh c)++[58]++p.v
def Ln.T (c:Bool)(p:Ln):List UInt8:=match p.E c with
 |.none=>p.txt c
 |_=>[]
theorem tN {c:Bool}:∀{l:List Pr} (i k:Nat),(∀j,j<k->j<l.length->tk c (l.getD j Pr.z)=0)->(k<l.length->tk c (l.getD k Pr.z)≠0)->lF c l i=if k<l.length then .at (tk c (l.getD k Pr.z)) ((i+k:Nat):Int) else .none
 |[],i,k,_,_=>by simp[lF]
 |q::l,i,0,_,h=>by
  have h:=h (by simp);rw[if_pos (by simp)];simp only[lF];rw[if_neg (by simpa using h)];simp
 |q::l,i,k+1,h1,h2=>by
  have h0:tk c q=0:=by simpa using h1 0 a_ (by simp)
  simp only[lF];rw[if_pos h0,tN (i+1) k (λj hj hl=>by simpa using h1 (j+1) a_ (by simpa using hl)) (λh=>by simpa using h2 (by simpa using h))];have e:i+1+k=i+(k+1):=by omega
  simp only[j_,List.getD_cons_succ,Nat.add_lt_add_iff_right,e]
theorem SY {c:Bool}{l:List Pr}{k:Nat}(hk:k<l.length)(h:∀j,j<k->tk c (l.getD j Pr.z)=0)(hb:tk c (l.getD k Pr.z)≠0):lF c l 0= .at (tk c (l.getD k Pr.z)) k:=by
 rw[tN 0 k (λj hj _=>h j hj) (λ_=>hb),if_pos hk];simp
theorem AT {c:Bool}{l:List Pr}{k:Nat}(hk:l.length<=k)(h:∀j,j<k->tk c (l.getD j Pr.z)=0):lF c l 0= .none:=by
 rw[tN 0 k (λj hj _=>h j hj) (λh=>absurd h a_),if_neg a_]
def O1 (c:Bool)(l:List (List UInt8))(j:Nat):Prop:=∀i,i<j->kx c (l.getD i [])=true
theorem Aq {c:Bool}{l:List (List UInt8)}{j:Nat}(h:O1 c l j)(k:kx c (l.getD j [])=true):O1 c l (j+1):=λi hi=>by
 rcases YY i j with g|g
 ·exact h i g
 ·rw[show i=j by omega];exact k
theorem EO {c:Bool}{l:List (List UInt8)}{j:Nat}(hj:l.length<=j)(h:O1 c l j):l.all (kx c)=true:=by
 rw[Bw];intro x hx
 obtain⟨i,hi,rfl⟩:=D_ hx
 have:=h i a_
 rwa [f_,y_ hi] at this
theorem EN {c:Bool}{l:List (List UInt8)}{j:Nat}(hj:j<l.length)(h:kx c (l.getD j [])=false):l.all (kx c)=false:=by
 rw[List.all_eq_false];refine⟨l[j],K_ hj,?_⟩;rw[f_,y_ hj] at h;simpa using h
theorem El {c:Bool}{q:Pr}(h:isS q.n=false):tk c q=5:=by unfold tk;rw[if_pos h]
theorem JD {c:Bool}{q:Pr}(h:isS q.n=true)(k:q.vs.length=0):tk c q=8:=by unfold tk;rw[if_neg (by rw[h];decide),if_pos k]
theorem TZ {c:Bool}{q:Pr}(h:isS q.n=true)(k:q.vs.length≠0)(m:q.vs.all (kx c)=false):tk c q=3:=by unfold tk;rw[if_neg (by rw[h];decide),if_neg k,if_neg (by rw[m];decide)]
theorem T0 {c:Bool}{q:Pr}(h:isS q.n=true)(k:q.vs.length≠0)(m:q.vs.all (kx c)=true):tk c q=0:=by unfold tk;rw[if_neg (by rw[h];decide),if_neg k,if_pos m]
theorem LW {l:List (List UInt8)}(h:l≠[])(x sep:List UInt8):Lib.join (l++[x]) sep=Lib.join l sep++sep++x:=by
 cases l with
 |nil=>exact absurd rfl h
 |cons y r=>
  rw[Lu,Lib.join_cons,Lib.join_cons];simp[Lib.joinTail]
def zK (c:Bool)(vs:List (List UInt8))(j:Nat):List UInt8:=match j with
 |0=>[]
 |j+1=>61::Lib.join ((vs.take (j+1)).map (fN c)) [44]
theorem Dn {c:Bool}{vs:List (List UInt8)}{j:Nat}(hj:j<vs.length):zK c vs (j+1)=zK c vs j++(if j=0 then[61] else[44])++fN c (vs.getD j []):=by
 have e:vs.take (j+1)=vs.take j++[vs.getD j []]:=by
  rw[x_ hj,f_,y_ hj];rfl
 cases j with
 |zero=>
  simp only[zK,e,YP,L_,S_,YN,Lib.join_one,Zc]
  rfl
 |succ j=>
  simp only[zK]
  rw[e,Nm,S_,YN,LW (λh=>by
   have:=congrArg List.length h
   simp only[C_,i_,E_] at this
   omega),if_neg a_]
  simp only[Lu,An]
theorem Rp {c:Bool}{q:Pr}(h:q.vs.length≠0):Sh c q=59::q.n++zK c q.vs q.vs.length:=by
 unfold Sh;cases hv:q.vs with
 |nil=>rw[hv] at h;exact absurd rfl h
 |cons x r=>
  have e:(x::r).take (r.length+1)=x::r:=u_ (by simp);simp only[j_,zK,e,An];rfl
theorem CA (c:Bool)(s:List UInt8):(q9 c s).length<=2*s.length:=by
 unfold q9;split
 ·exact(sn s).2
 ·omega
theorem Ei (c:Bool)(s:List UInt8):(fN c s).length<=2*s.length+2:=by
 have:=CA c s;unfold fN;split
 ·omega
 ·simp only[Lu,j_,d_,E_];omega
theorem r9 (c:Bool):∀l:List (List UInt8),Lib.lens (l.map (fN c))<=2*Lib.lens l+2*l.length
 |[]=>by simp[Lib.lens]
 |x::r=>by
  have h1:=r9 c r;have h2:=Ei c x;have e1:Lib.lens ((x::r).map (fN c))=(fN c x).length+Lib.lens (r.map (fN c)):=by simp[Lib.lens]
  have e2:Lib.lens (x::r)=x.length+Lib.lens r:=by simp[Lib.lens]
  rw[e1,e2,j_];omega
theorem xK (l:List (List UInt8)):(Lib.join l [44]).length<=Lib.lens l+l.length:=by
 cases l with
 |nil=>simp[Lib.join_nil]
 |cons x r=>
  have e2:Lib.lens (x::r)=x.length+Lib.lens r:=by simp[Lib.lens]
  rw[Lib.join_cons,d_,Lib.joinTail_length,e2,j_];simp only[j_,E_];omega
theorem Ro (c:Bool)(vs:List (List UInt8))(j:Nat):(zK c vs j).length<=1+2*Lib.lens vs+3*vs.length:=by
 cases j with
 |zero=>simp[zK]
 |succ j=>
  simp only[zK,j_];have h1:=xK ((vs.take (j+1)).map (fN c));have h2:=r9 c (vs.take (j+1));have h3:=Lib.lens_take_le vs (j+1);rw[C_,i_] at h1;rw[i_] at h2;omega
theorem JC (c:Bool)(q:Pr):(Sh c q).length<=2+q.n.length+2*Lib.lens q.vs+3*q.vs.length:=by
 unfold Sh;have h1:=xK (q.vs.map (fN c));have h2:=r9 c q.vs;rw[C_] at h1;simp only[j_,d_,E_,Lu];omega
def qw (c:Bool)(ps:List Pr)(k:Nat):List UInt8:=(ps.take k).flatMap (Sh c)
theorem wW {c:Bool}{ps:List Pr}{k:Nat}(hk:k<ps.length):qw c ps (k+1)=qw c ps k++Sh c (ps.getD k Pr.z):=by
 have e:ps.take (k+1)=ps.take k++[ps.getD k Pr.z]:=by
  rw[x_ hk,f_,y_ hk];rfl
 unfold qw;rw[e,List.flatMap_append];simp
theorem BW {c:Bool}{ps:List Pr}{N:Nat}(h:∀k,(ps.getD k Pr.z).n.length<=N/\(ps.getD k Pr.z).vs.length<=N/\Lib.lens (ps.getD k Pr.z).vs<=N):∀k,k<=ps.length->(qw c ps k).length<=k*(2+6*N)
 |0,_=>by simp[qw]
 |k+1,hk=>by
  have ih:=BW (c:=c) h k a_;have h1:=JC c (ps.getD k Pr.z);have h2:=h k;rw[wW a_,d_,U_];omega
theorem I7 (c:Bool)(p:Ln):p.txt c=oU p++qw c p.ps p.ps.length++[58]++p.v:=by
 unfold Ln.txt qw;rw[u_ (Nat.le_refl _)]
theorem Ln.E_5 {c:Bool}{p:Ln}(h:isS p.n=false\/(p.g.length≠0/\isS p.g=false)):p.E c= .errno 5:=by unfold Ln.E;rw[if_pos h]
theorem Ln.E_4 {c:Bool}{p:Ln}(h1:isS p.n=true)(h2:p.g.length=0\/isS p.g=true)(h:20<p.ps.length):p.E c= .errno 4:=by
 unfold Ln.E;rw[if_neg (by rintro(k|⟨k1,k2⟩);rw[h1] at k;cases k;rcases h2 with h2|h2;exact k1 h2;rw[h2] at k2;cases k2),if_pos h]
theorem Ln.E_f {c:Bool}{p:Ln}(h1:isS p.n=true)(h2:p.g.length=0\/isS p.g=true)(h:p.ps.length<=20):p.E c=match lF c p.ps 0 with
  |.none=>if fd false p.v then .none else .errno 3
  |x=>x:=by
 unfold Ln.E;rw[if_neg (by rintro(k|⟨k1,k2⟩);rw[h1] at k;cases k;rcases h2 with h2|h2;exact k1 h2;rw[h2] at k2;cases k2),if_neg a_]
theorem Ln.E_at {c:Bool}{p:Ln}(h1:isS p.n=true)(h2:p.g.length=0\/isS p.g=true)(h:p.ps.length<=20){k:Nat}(hk:k<p.ps.length)(hj:∀j,j<k->tk c (p.ps.getD j Pr.z)=0)(hb:tk c (p.ps.getD k Pr.z)≠0):p.E c= .at (tk c (p.ps.getD k Pr.z)) k:=by
 rw[Ln.E_f h1 h2 h,SY hk hj hb]
theorem Ln.E_3 {c:Bool}{p:Ln}(h1:isS p.n=true)(h2:p.g.length=0\/isS p.g=true)(h:p.ps.length<=20){k:Nat}(hk:p.ps.length<=k)(hj:∀j,j<k->tk c (p.ps.getD j Pr.z)=0)(hv:fd false p.v=false):p.E c= .errno 3:=by
 rw[Ln.E_f h1 h2 h,AT hk hj]
 simp only[hv,Bu,Zd]
theorem Ln.E_0 {c:Bool}{p:Ln}(h1:isS p.n=true)(h2:p.g.length=0\/isS p.g=true)(h:p.ps.length<=20){k:Nat}(hk:p.ps.length<=k)(hj:∀j,j<k->tk c (p.ps.getD j Pr.z)=0)(hv:fd false p.v=true):p.E c= .none:=by
 rw[Ln.E_f h1 h2 h,AT hk hj];simp only[hv,Zc]
def Rc (c:Bool)(q:Pr)(j:Nat)(e:Int):Prop:=(isS q.n=false/\e=5)\/(isS q.n=true/\q.vs.length=0/\e=8)\/(isS q.n=true/\q.vs.length≠0/\((e=0/\O1 c q.vs j)\/(e=3/\q.vs.all (kx c)=false)))
theorem pM {c:Bool}{q:Pr}{j:Nat}{e:Int}(h:Rc c q j e)(hj:q.vs.length<=j):e=tk c q:=by
 rcases h with⟨h1,h2⟩|⟨h1,h2,h3⟩|⟨h1,h2,⟨h3,h4⟩|⟨h3,h4⟩⟩
 ·rw[El h1,h2]
 ·rw[JD h1 h2,h3]
 ·rw[T0 h1 h2 (EO hj h4),h3]
 ·rw[TZ h1 h2 h4,h3]
theorem wZ {c:Bool}{q:Pr}{j:Nat}{e:Int}(h:Rc c q j e)(he:e≠0):Rc c q (j+1) e:=by
 rcases h with h|h|⟨h1,h2,⟨h3,h4⟩|h3⟩
 ·exact .inl h
 ·exact .inr (.inl h)
 ·exact absurd h3 he
 ·exact .inr (.inr ⟨h1,h2,.inr h3⟩)
theorem Hr {c:Bool}{q:Pr}{j:Nat}{e:Int}(h:Rc c q j e)(he:e=0)(hm:kx c (q.vs.getD j [])=true):Rc c q (j+1) e:=by
 rcases h with h|h|⟨h1,h2,⟨h3,h4⟩|h3⟩
 ·exact absurd (he.symm.trans h.2) b_
 ·exact absurd (he.symm.trans h.2.2) b_
 ·exact .inr (.inr ⟨h1,h2,.inl ⟨h3,Aq h4 hm⟩⟩)
 ·exact absurd (he.symm.trans h3.1) b_
theorem BY {c:Bool}{q:Pr}{j:Nat}{e:Int}(h:Rc c q j e)(he:e=0)(hj:j<q.vs.length)(hm:kx c (q.vs.getD j [])=false):Rc c q (j+1) 3:=by
 rcases h with h|h|⟨h1,h2,⟨h3,h4⟩|h3⟩
 ·exact absurd (he.symm.trans h.2) b_
 ·exact absurd (he.symm.trans h.2.2) b_
 ·exact .inr (.inr ⟨h1,h2,.inr ⟨rfl,EN hj hm⟩⟩)
 ·exact absurd (he.symm.trans h3.1) b_
end
section
def Ml (d:UInt8):Option UInt8:=if d=94 then some 94 else if d=110 then some 10 else if d=39 then some 34 else none
def cx:List UInt8->List UInt8
 |[]=>[]
 |[c]=>[c]
 |c::d::t=>match (if c=94 then Ml d else none) with
  |some e=>e::cx t
  |none=>c::cx (d::t)
theorem FJ:cx []=[]:=rfl
theorem Mn {c d:UInt8}{t:List UInt8}(h:c≠94\/Ml d=none):cx (c::d::t)=c::cx (d::t):=by
 have:(if c=94 then Ml d else none)=none:=by
  rcases h with h|h
  ·rw[if_neg h]
  ·rw[h];split<;>rfl
 rw[cx,this]
theorem Mm {d e:UInt8}{t:List UInt8}(h:Ml d=some e):cx (94::d::t)=e::cx t:=by
 have:(if(94:UInt8)=94 then Ml d else none)=some e:=by rw[if_pos rfl,h]
 rw[cx,this]
theorem I5 {c:UInt8}{k:Nat}(hk:k<256):c=UInt8.ofNat k↔c.toNat=k:=by
 constructor
 ·rintro rfl;rw[UInt8.toNat_ofNat_of_lt' hk]
 ·intro h;rw[<-h,UInt8.ofNat_toNat]
theorem nN {s:List UInt8}{i:Nat}(h:i<s.length)(hn:aa s i≠94\/s.length<=i+1\/(aa s (i+1)≠94/\aa s (i+1)≠110/\aa s (i+1)≠39)):
  cx (s.drop i)=(s.drop i).take 1++cx (s.drop (i+1)):=by
 rw[A_ h];rcases YY (i+1) s.length with h2|h2
 ·rw[A_ h2];rw[fI h,fI h2] at hn;rw[Mn]
  ·rfl
  ·rcases hn with hn|hn|⟨h3,h4,h5⟩
   ·left;intro e;rw[e] at hn;exact hn rfl
   ·omega
   ·right;unfold Ml;rw[if_neg (λe=>h3 (by rw[e];rfl)),if_neg (λe=>h4 (by rw[e];rfl)),if_neg (λe=>h5 (by rw[e];rfl))]
 ·rw[List.drop_eq_nil_of_le h2];rfl
theorem vz {s:List UInt8}{i:Nat}(h:i+1<s.length)(h0:aa s i=94){e:UInt8}(h1:(aa s (i+1)=94/\e=94)\/(aa s (i+1)=110/\e=10)\/(aa s (i+1)=39/\e=34)):
  cx (s.drop i)=e::cx (s.drop (i+2)):=by
 rw[A_ (by omega:i<s.length),A_ h];rw[fI a_] at h0;rw[fI h] at h1;have e0:s[i]=94:=(I5 b_).2 h0;rw[e0];refine Mm ?_;rcases h1 with⟨h1,rfl⟩|⟨h1,rfl⟩|⟨h1,rfl⟩
 ·rw[show s[i+1]=94 from(I5 b_).2 h1];rfl
 ·rw[show s[i+1]=110 from(I5 b_).2 h1];rfl
 ·rw[show s[i+1]=39 from(I5 b_).2 h1];rfl
theorem sq:∀s:List UInt8,(cx s).length<=s.length
 |[]=>Nat.le_refl _
 |[_]=>Nat.le_refl _
 |c::d::t=>by
  have h1:=sq t;have h2:=sq (d::t);rw[cx];split
  ·simp only[j_] at*;omega
  ·simp only[j_] at*;omega
end
section
inductive PR (α:Type) where
 |ok (v:α)
 |bad (e:Int) (p:Nat)
def eO (p:Int->Bool)(s:List UInt8)(a:Nat):Nat:=
 if a<s.length/\p (aa s a:Int)=true then eO p s (a+1) else a
termination_by s.length-a
section
variable {p:Int->Bool} {s:List UInt8}
theorem rA {a:Nat}(h:a<s.length)(k:p (aa s a:Int)=true):eO p s a=eO p s (a+1):=by
 rw[eO,if_pos ⟨h,k⟩]
theorem oz {a:Nat}(h:s.length<=a):eO p s a=a:=by
 rw[eO,if_neg a_]
theorem nl {a:Nat}(h:p (aa s a:Int)=false):eO p s a=a:=by
 rw[eO,if_neg (by rw[h];simp)]
theorem wn:∀(n a:Nat),s.length-a<=n->a<=eO p s a/\(a<=s.length->eO p s a<=s.length)/\(∀j,a<=j->j<eO p s a->p (aa s j:Int)=true)/\(eO p s a<s.length->p (aa s (eO p s a):Int)=false)
 |n,a,hn=>by
  by_cases h:a<s.length
  ·cases k:p (aa s a:Int) with
   |true=>
    cases n with
    |zero=>omega
    |succ n=>
     have ih:=wn n (a+1) a_;rw[rA h k];refine⟨a_,λ_=>ih.2.1 a_,λj h1 h2=> ?_,ih.2.2.2⟩;rcases YY a j with g|g
     ·exact ih.2.2.1 j a_ h2
     ·rw[show j=a by omega];exact k
   |false=>
    rw[nl k];exact⟨Nat.le_refl _,id,λj h1 h2=>by omega,λ_=>k⟩
  ·rw[oz a_];exact⟨Nat.le_refl _,id,λj h1 h2=>by omega,λh2=>absurd h2 h⟩
theorem Jf (a:Nat):a<=eO p s a:=(wn _ a (Nat.le_refl _)).1
theorem Bv {a:Nat}(h:a<=s.length):eO p s a<=s.length:=(wn _ a (Nat.le_refl _)).2.1 h
end
def ez (s:List UInt8)(a:Nat)(c:Int):Bool:=decide (a<s.length/\(aa s a:Int)=c)
theorem cG {s:List UInt8}{a:Nat}{c:Int}:ez s a c=true↔a<s.length/\(aa s a:Int)=c:=by simp[ez]
theorem KK {s:List UInt8}{a:Nat}{c:Int}:ez s a c=false↔¬(a<s.length/\(aa s a:Int)=c):=by simp only[ez,YU]
def bC (s:List UInt8)(a:Nat):PR (List UInt8×Nat):=
 if isS ((s.take (eO aU s a)).drop a) then .ok ((s.take (eO aU s a)).drop a,eO aU s a) else .bad 5 a
def M0 (c:Bool)(s:List UInt8):List UInt8:=if c then cx s else s
def zz (q:Bool)(c:Int):Bool:=decide (c=34\/(q=false/\(c=44\/c=59\/c=58)))
theorem Io {q:Bool}{c:Int}:zz q c=true↔(c=34\/(q=false/\(c=44\/c=59\/c=58))):=by simp[zz]
theorem V5 {q:Bool}{c:Int}:zz q c=false↔¬(c=34\/(q=false/\(c=44\/c=59\/c=58))):=by simp only[zz,YU]
def MY (q:Bool)(c:Int):Bool:= !zz q c&& !iw false c
def gL (s:List UInt8)(a:Nat):Nat:=if ez s a 34 then a+1 else a
def lR (s:List UInt8)(a:Nat):Nat:=eO (MY (ez s a 34)) s (gL s a)
def cp (c:Bool)(s:List UInt8)(a:Nat):PR (List UInt8×Nat):=
 if lR s a<s.length/\zz (ez s a 34) (aa s (lR s a):Int)=false then .bad 3 (lR s a)
 else if ez s a 34=false then .ok (M0 c ((s.take (lR s a)).drop (gL s a)),lR s a)
 else if lR s a<s.length then .ok (M0 c ((s.take (lR s a)).drop (gL s a)),lR s a+1)
 else .bad 7 (lR s a)
theorem rm (s:List UInt8)(a:Nat):a<=gL s a/\gL s a<=a+1/\(a<=s.length->gL s a<=s.length):=by
 unfold gL;split
 ·rename_i h;have:=(cG.1 h).1;omega
 ·omega
theorem iU {c:Bool}{s v:List UInt8}{a b:Nat}(h:cp c s a= .ok (v,b)):a<=b/\(a<=s.length->b<=s.length):=by
 have h1:=rm s a;have h2:gL s a<=lR s a:=Jf _;have h3:gL s a<=s.length->lR s a<=s.length:=Bv;unfold cp at h;split at h
 ·cases h
 ·split at h
  ·cases h;omega
  ·split at h
   ·cases h;omega
   ·cases h
def ea (c:Bool)(s:List UInt8)(a:Nat)(acc:List (List UInt8)):PR (List (List UInt8)×Nat):=
 match cp c s a with
 |.bad e p=>.bad e p
 |.ok (v,b)=>if h:a<=b/\b<s.length/\aa s b=44 then ea c s (b+1) (acc++[v]) else .ok (acc++[v],b)
termination_by s.length-a
theorem gw {c:Bool}{s:List UInt8}{a:Nat}{acc:List (List UInt8)}{e:Int}{p:Nat}(h:cp c s a= .bad e p):ea c s a acc= .bad e p:=by
 rw[ea,h]
theorem mE {c:Bool}{s v:List UInt8}{a b:Nat}{acc:List (List UInt8)}(h:cp c s a= .ok (v,b))(hb:ez s b 44=true):ea c s a acc=ea c s (b+1) (acc++[v]):=by
 have h1:=iU h;have h2:=cG.1 hb;rw[ea,h];dsimp only
 rw[dif_pos ⟨h1.1,h2.1,a_⟩]
theorem la {c:Bool}{s v:List UInt8}{a b:Nat}{acc:List (List UInt8)}(h:cp c s a= .ok (v,b))(hb:ez s b 44=false):ea c s a acc= .ok (acc++[v],b):=by
 have h2:=KK.1 hb;rw[ea,h];dsimp only
 rw[dif_neg a_]
theorem jY {c:Bool}{s:List UInt8}:∀(n:Nat) {a b:Nat} {acc vs:List (List UInt8)},s.length-a<=n->ea c s a acc= .ok (vs,b)->a<=b/\(a<=s.length->b<=s.length)/\acc.length<vs.length/\vs.length<=acc.length+1+(b-a)
 |n,a,b,acc,vs,hn,h=>by
  cases hv:cp c s a with
  |bad e p=>rw[gw hv] at h;cases h
  |ok x=>
   obtain⟨v,d⟩:=x;have h1:=iU hv;cases hb:ez s d 44 with
   |true=>
    have h2:=cG.1 hb;rw[mE hv hb] at h;cases n with
    |zero=>omega
    |succ n=>
     have ih:=jY n a_ h;rw[d_,Rf] at ih;omega
   |false=>
    rw[la hv hb] at h;cases h;rw[d_,Rf];omega
def cD (c:Bool)(s:List UInt8)(a:Nat)(acc:List Pr):PR (List Pr×Nat):=
 if h:a<s.length/\aa s a=59 then
  match bC s (a+1) with
  |.bad e p=>.bad e p
  | .ok (w,j)=>if ez s j 61 then
    match ea c s (j+1) [] with
    |.bad e p=>.bad e p
    |.ok (vs,b)=>if acc.length=20 then .bad 4 (a+1) else if g:a<b then cD c s b (acc++[⟨w,vs⟩]) else .bad 0 0
   else .bad 7 j
 else .ok (acc,a)
termination_by s.length-a
theorem de {s w:List UInt8}{a j:Nat}(h:bC s a= .ok (w,j)):a<=j/\(a<=s.length->j<=s.length)/\w=(s.take j).drop a/\w.length<=40/\isS w=true:=by
 unfold bC at h;split at h
 ·rename_i hi;cases h;refine⟨Jf _,Bv,rfl,?_,hi⟩;unfold isS at hi;rw[l_,l_,n_,n_] at hi;exact hi.2.2
 ·cases h
section
variable {c:Bool} {s w:List UInt8} {a j b p:Nat} {acc:List Pr} {vs:List (List UInt8)} {e:Int}
theorem iJ (h:ez s a 59=false):cD c s a acc= .ok (acc,a):=by
 have h:=KK.1 h;rw[cD,dif_neg a_]
theorem gm (h:ez s a 59=true)(hw:bC s (a+1)= .bad e p):cD c s a acc= .bad e p:=by
 have h:=cG.1 h;rw[cD,dif_pos a_,hw]
theorem kb (h:ez s a 59=true)(hw:bC s (a+1)= .ok (w,j))(hj:ez s j 61=false):cD c s a acc= .bad 7 j:=by
 have h:=cG.1 h;rw[cD,dif_pos a_,hw];dsimp only
 rw[hj];rfl
theorem eR (h:ez s a 59=true)(hw:bC s (a+1)= .ok (w,j))(hj:ez s j 61=true)(hv:ea c s (j+1) []= .bad e p):cD c s a acc= .bad e p:=by
 have h:=cG.1 h;rw[cD,dif_pos a_,hw];dsimp only
 rw[hj,if_pos rfl,hv]
theorem iI (h:ez s a 59=true)(hw:bC s (a+1)= .ok (w,j))(hj:ez s j 61=true)(hv:ea c s (j+1) []= .ok (vs,b))(hl:acc.length=20):cD c s a acc= .bad 4 (a+1):=by
 have h:=cG.1 h;rw[cD,dif_pos a_,hw];dsimp only
 rw[hj,if_pos rfl,hv];dsimp only
 rw[if_pos hl]
theorem ka (h:ez s a 59=true)(hw:bC s (a+1)= .ok (w,j))(hj:ez s j 61=true)(hv:ea c s (j+1) []= .ok (vs,b))(hl:acc.length≠20):cD c s a acc=cD c s b (acc++[⟨w,vs⟩]):=by
 have h:=cG.1 h;have h1:=de hw;have h2:=jY _ (Nat.le_refl _) hv;rw[cD,dif_pos a_,hw];dsimp only
 rw[hj,if_pos rfl,hv];dsimp only
 rw[if_neg hl,dif_pos a_]
end
def fy (s:List UInt8):PR ((List UInt8×List UInt8)×Nat):=
 match bC s 0 with
 |.bad e p=>.bad e p
 | .ok (w,j)=>if ez s j 46 then
   match bC s (j+1) with
   |.bad e p=>.bad e p
   |.ok (n,k)=>.ok ((w,n),k)
  else .ok (([],w),j)
def iX (s g n:List UInt8)(ps:List Pr)(b:Nat):PR Ln:=
 if ez s b 58 then
  if fX (iw false) (s.drop (b+1))<0 then .ok ⟨g,n,ps,s.drop (b+1)⟩ else .bad 3 (b+1+(fX (iw false) (s.drop (b+1))).toNat)
 else .bad 7 b
def dF (c:Bool)(s:List UInt8):PR Ln:=
 if dm s<0 then
  match fy s with
  |.bad e p=>.bad e p
  |.ok ((g,n),a)=>match cD c s a [] with
   |.bad e p=>.bad e p
   |.ok (ps,b)=>iX s g n ps b
 else .bad 3 (dm s).toNat
def Ln.no:Ln:=⟨[],[],[],[]⟩
def iQ (c:Bool)(s:List UInt8):Ln:=match dF c s with
 |.ok l=>l
 |.bad _ _=>Ln.no
def rk (c:Bool)(s:List UInt8):Err:=match dF c s with
 |.ok _=>.none
 |.bad e p=>.at e p
end
section
section
variable {P:Program} [Tab P] {C:Ctx} {n:Nat} {H:Heap} {env:Env} {x y:Operand} {T:TypeId} {xT:TI} {e:TypeId} {xe:TI}
theorem mN {len i:Nat}{k0:IntKind}{cs:List AVal}{av:AVal}(hx:ai env x=some (.agg cs))(hy:ai env y=some (.int k0 (i:Int)))(h1:bi P T=some xT)(h2:xT.desc= .array len e)(h3:bi P e=some xe)(h4:xe.size=1)(h5:co xe.desc=false)(hi:i<len)(hc:cs[i]? =some av)(ha:av.isAgg=false):
  bA P C H env (.index T x y) av:=by
 intro R ρ w hm hf dst t p af g;have hr:=hf _ _ hx;obtain⟨vs,hvs⟩:∃vs,ρ x= .agg vs:=by
  have:=hr.2;cases hv:ρ x<;>rw[hv] at this<;>simp[AVal.isAgg,dc] at this
  exact⟨_,rfl⟩
 rw[hvs] at hr;obtain⟨v,hv,hrv⟩:=fo (R:=R) (cs:=cs) (vs:=vs.toList) hr.1 hc;refine⟨v,?_,cT hrv ha⟩;have hv':vs[i]? =some v:=by simpa using hv
 have hn:(0:Int)<=i/\(i:Int)<len:=⟨a_,a_⟩;have hil:i<vs.size:=by
  rcases YY i vs.size with h|h
  ·exact h
  ·rw[Array.getElem?_eq_none h] at hv';cases hv'
 simp only[execOp,hvs,aq.1 (hf _ _ hy),Instr.index,asIntOf,e_,h_,c_,ap h1,h2,hn,part,B_];simp[aN h3,dS h3,h5,h4,hv']
end
end
section
theorem Fv {P:Program}[Tab P]{G:Glo}{GL:List (Nat×List AVal)}{n:Nat}{H:Heap}{v1 v2:Value}(i s1 j s2:Nat){f:FuncId}{fn:Func}{c:Code}{avs:List AVal}{Qf:ct->Heap->Prop}{rs:List ResultVar}(hf:P.funcs[f]? =some fn)
  (hc:∀args w,(callFunc f args).run P w= .ok (.enter f args) w) (hb:fn.body=some c) (hn:fn.ntmps=n) (hrs:fn.results=rs.toArray) (hlen:Nat.ble avs.length n=true) (hGL:ab G GL) (hv1:dc v1=false) (hv2:dc v2=false)
  (hk1:Env.get (eY 0 avs) s1=some (.raw v1)) (hk2:Env.get ((s1,.own i v1)::eY 0 avs) s2=some (.raw v2))
  (h:∀C:Ctx,C.G=G->gK P C n G GL c ((s2,.own j v2)::(s1,.own i v1)::eY 0 avs) H (ue P rs Qf)):ad P G f avs H Qf:=
 p7 hf hb hc hn hrs hlen λw0 R0 hG=>(CQ (λ_ _ hf=>tK (i:=i) hv1 hk1 hf) (xi (C:=⟨w0,R0,eG H,G,hG,[]⟩) (k:=s2) j rfl hGL hv2 hk2 (h ⟨w0,R0,eG H,G,hG,[]⟩ rfl))).mono λ_ _ _ q=>jX q
section
variable {P:Program} [Tab P] {C:Ctx} {n:Nat} {env:Env} {H:Heap} {Q:aM->Env->Heap->Prop} {ops:Array Oper} {rest:List Oper} {G:Glo} {GL:List (Nat×List AVal)}
variable {d:Nat} {t:TypeId} {p:String} {af:Array Edge} {g:Option (Nat×Bool)} {b:Bool}
variable {x y:Operand} {T e:TypeId} {xT xe:TI}
theorem Ah {k1 k2:IntKind}{m:Nat}(hC:C.G=G)(hGL:ab G GL)(hx:ai env x=some (.int k1 (m:Int)))(hy:ai env y=some (.int k2 (m:Int)))(hm0:m<=1000000000)(ht:bi P T=some xT)(hd:xT.desc= .slice e)(he:bi P e=some xe)(hz:xe.zero=some (.pointer none))(hs:xe.size=1)(hb:Nat.ble xe.bytes 1024=true)
  (hg:aQ ops env g=some (b,b)) (hdn:Nat.ble (d+1) n=true)
  (k:∀bl,mt P C n G GL ops Q rest ((d,.own H.length (.slice (some ⟨bl,0,none⟩) m m))::env) (H++[.row (.slice (some ⟨bl,0,none⟩) m m) (some e) 1 m (List.replicate m (.raw (.pointer none)))])):
  uf P C n ops ({dst:=some d,op:=.makeSlice T x y,type:=t,pos:=p,after:=af,guard:=g}::rest) env H Q:=by
 refine⟨gF (X:=Nat) (av:=λbl=>.raw (.slice (some ⟨bl,0,none⟩) m m)) (H':=λbl=>.row (.slice (some ⟨bl,0,none⟩) m m) (some e) 1 m (List.replicate m (.raw (.pointer none)))::H) hg rfl hdn (λR ρ w hm hf=> ?_)
  (λbl=>mw (fL (i:=H.length) rfl (fc hC hGL _ _ _ (k bl))))⟩
 obtain⟨i,hi,his,hib,hiz,_⟩:=gQ he;have hb:=v_ hb;have hmul:xe.bytes*m<=1024*1000000000:=Nat.mul_le_mul hb hm0;have hr:=run_make (P:=P) w T e i (.pointer none) (by rw[bN ht,hd]) hi (by rw[hiz,hz]) k1 k2 (m:Int) (m:Int) a_ a_ (by rw[hib,<-Int.natCast_mul];omega) a_;simp only[B_] at hr;have hrun:=oB (d:=d) (t:=t) (p:=p) (af:=af) (g:=g) (aq.1 (hf _ _ hx)) (aq.1 (hf _ _ hy)) hr;refine⟨w.heap.size,_,_,R,hrun,Seal.le_refl R,ar.2 rfl,?_⟩
 ·rw[lD];refine hm.alloc _ _ rfl ⟨by simp,.inr ⟨_,_,_,_,_,rfl,gf w _,?_,Nat.le_refl _,?_,.inl (Nat.le_refl _),λt ht=>by cases ht;rfl⟩⟩
  ·rw[size_madeCells,his,hs]
  ·rw[his,hs,Nat.mul_one,show(Value.pointer none).cells=#[.pointer none] from rfl,ER,u_ (by simp)];exact jb (show bJ R (.raw (.pointer none)) [.pointer none] from rfl) _
end
end
section
attribute [local irreducible] bG au az aR ab ad
def od (t:AVal)(n:Int)(m:List AVal):List AVal:=[.str [],.int .i64 0,.str [],.raw (.pointer none),t,.int .i64 n]++m
def mapD:List AVal:=(((List.replicate 256 (.int .u8 3)).set 39 (.int .u8 0)).set 94 (.int .u8 1)).set 110 (.int .u8 2)
abbrev vr (bg bt:Nat):HEnt:=.cells bg (some 387) (od (.own 3 (.slice (some ⟨bt,0,none⟩) 3 3)) 3 mapD)
abbrev Yk (n:Nat)(v:List UInt8)(k:Int)(p:List UInt8)(x y:AVal):HEnt:=.cells n (some 385) [.str v,.int .i64 k,.str p,x,y]
abbrev qk (n:Nat)(v:List UInt8)(k:Int):HEnt:=Yk n v k [] (.raw (.pointer none)) (.raw (.slice none 0 0))
abbrev Rb (n b:Nat):HEnt:=Yk n [] 0 [] (.raw (.pointer none)) (.own 7 (.slice (some ⟨b,0,none⟩) 3 3))
abbrev UP (n n2:Nat):HEnt:=Yk n [] 0 [94] (.own 5 (pv n2 0)) (.raw (.slice none 0 0))
abbrev tnQ (n n2 b:Nat):HEnt:=Yk n [] 0 [94] (.own 5 (pv n2 0)) (.own 7 (.slice (some ⟨b,0,none⟩) 3 3))
abbrev MW (b:Nat)(l:List AVal):HEnt:=.row (.slice (some ⟨b,0,none⟩) 3 3) (some 382) 1 3 l
theorem xE {G:Glo}(b:Nat)(v:List UInt8)(p:Int)(c2 c3 c4:AVal)(u:Value):ad prog G 270 [.raw (pv b 0),.str [],.str v,.int .i64 p,.raw u] [.cells b (some 385) [.str [],.int .i64 0,c2,c3,c4]]
  (λr H=>r= .ret (.tuple [])/\H=[.cells b (some 385) [.str v,.int .i64 p,c2,c3,c4]]):=by
 have hGL:ab G []:=al;refine ji 0 func270 call270 rfl rfl rfl rfl hGL rfl ?_;intro C hC;exact eK
theorem Yf {G:Glo}(bg bt n1:Nat)(x0 x1 x2 x3:HEnt)(u:Value):ad prog G 270 [.raw (pv n1 0),.str [94],.str [94],.int .i64 6,.raw u] [x0,x1,x2,x3,.cells n1 (some 385) [.str [],.int .i64 0,.str [],.raw (.pointer none),.raw (.slice none 0 0)]]
  (λr H=>∃n2,r= .ret (.tuple [])/\H=[x0,x1,x2,x3,UP n1 n2,qk n2 [94] 6]):=by
 have hGL:ab G []:=al;refine ji 4 func270 call270 rfl rfl rfl rfl hGL rfl ?_;intro C hC;refine ao ?_;intros;refine aV (i:=5) rfl (xE _ _ _ _ _ _ _) ?_;refine ao ?_;intros;exact⟨_,At _,_,rfl,rfl⟩
theorem Ye {G:Glo}(bg bt n1 n2:Nat)(x0 x1 x3:HEnt):ad prog G 270 [.raw (pv n1 0),.str [110],.str [10],.int .i64 4,.raw (pv bg 0)] [x0,x1,vr bg bt,x3,UP n1 n2,qk n2 [94] 6]
  (λr H=>∃n3 b7,r= .ret (.tuple [])/\H=[x0,x1,vr bg bt,x3,Rb n1 b7,qk n2 [94] 6,qk n3 [10] 4,MW b7 [.raw (.pointer none),.own 5 (pv n2 0),.own 6 (pv n3 0)]]):=by
 have hGL:ab G []:=al;refine Fv 4 0 2 4 func270 call270 rfl rfl rfl rfl hGL rfl rfl rfl rfl ?_;intro C hC;refine ao ?_;intros;refine mQ hC hGL 1 ?_;refine ao ?_;intros;refine bh mixed hC hGL false (λ(_:Unit)=>[(0,.own 4 (pv n1 0)),(1,.str [110]),(2,.str [10]),(3,.int .i64 4),(4,.own 2 (pv bg 0)),(10,.int .i64 0),(59,.bool (!bU ((aa [94] 0:Nat):Int) ((aa [110] 0:Nat):Int)))]) (λ_=>[x0,x1,vr bg bt,x3,UP n1 n2,qk n2 [94] 6]) (.t 0 (.t 1 (.t 2 (.t 4 (.t 6 (.t 7 (.t 8 (.b 3 (.t 5 (.t 9 .done)))))))))) be ?_ ?_
 ·refine ao ?_;intros;exact⟨(),⟨rfl,rfl,rfl,rfl,rfl,rfl,rfl,trivial⟩,rfl⟩
 intro _;refine ao ?_;intros;rename Nat=>n3
 refine Ah (m:=3) hC hGL rfl rfl a_ rfl rfl rfl rfl rfl rfl rfl rfl (λb7=> ?_);have w1:cd (.slice (some ⟨b7,0,none⟩) 3 3) b7 3/\1+1<=3*1/\0<3:=⟨⟨_,rfl⟩,b_,b_⟩;have w2:cd (.slice (some ⟨b7,0,none⟩) 3 3) b7 3/\2+1<=3*1/\0<3:=⟨⟨_,rfl⟩,b_,b_⟩;refine ao ?_;intros;refine bh mixed hC hGL false (λ(_:Unit)=>[(0,.own 4 (pv n1 0)),(1,.str [110]),(2,.str [10]),(3,.int .i64 4),(4,.own 2 (pv bg 0)),(12,.own 6 (pv n3 0))]) (λ_=>[x0,x1,vr bg bt,x3,tnQ n1 n2 b7,qk n2 [94] 6,.cells n3 (some 385) [.str [],.int .i64 0,.str [],.raw (.pointer none),.raw (.slice none 0 0)],MW b7 [.raw (.pointer none),.own 5 (pv n2 0),.raw (.pointer none)]]) (.t 0 (.t 1 (.t 2 (.t 4 (.t 5 (.t 6 (.t 7 (.t 10 (.t 11 (.t 14 (.br 3 (.b 8 (.t 9 (.t 12 (.b 13 (.t 15 (.b 16 .done)))))) (.b 8 (.t 9 (.t 12 (.br 3 (.b 13 (.t 15 (.b 16 .done))) (.b 13 (.b 3 (.t 15 (.b 16 .done))))))))))))))))))) be ?_ ?_
 ·refine xn ?_;repeat' first|exact .n|apply Lc.mk
  all_goals intros
  all_goals exact⟨(),⟨rfl,rfl,rfl,rfl,rfl,rfl,trivial⟩,rfl⟩
 intro _;refine ao ?_;intros;refine bh mixed hC hGL false (λ(_:Unit)=>[(0,.own 4 (pv n1 0)),(1,.str [110]),(2,.str [10]),(3,.int .i64 4),(4,.own 2 (pv bg 0)),(12,.own 6 (pv n3 0))]) (λ_=>[x0,x1,vr bg bt,x3,tnQ n1 n2 b7,qk n2 [94] 6,.cells n3 (some 385) [.str [],.int .i64 0,.str [],.raw (.pointer none),.raw (.slice none 0 0)],MW b7 [.raw (.pointer none),.own 5 (pv n2 0),.own 6 (pv n3 0)]]) (.t 0 (.t 1 (.t 2 (.t 4 (.t 5 (.t 6 (.t 7 (.t 8 (.t 9 (.t 11 (.br 3 (.b 10 (.t 12 (.b 13 .done))) (.b 10 (.b 3 (.t 12 (.b 13 .done))))))))))))))) be ?_ ?_
 ·refine xn ?_;repeat' first|exact .n|apply Lc.mk
  all_goals intros
  all_goals exact⟨(),⟨rfl,rfl,rfl,rfl,rfl,rfl,trivial⟩,rfl⟩
 intro _;refine ao ?_;intros;refine aV (i:=6) rfl (xE _ _ _ _ _ _ _) ?_;refine ao ?_;intros;exact⟨_,At _,_,_,rfl,rfl⟩
theorem Yd {G:Glo}(bg bt n1 n2 n3 b7:Nat)(x0 x1 x3:HEnt):ad prog G 270 [.raw (pv n1 0),.str [39],.str [34],.int .i64 2,.raw (pv bg 0)] [x0,x1,vr bg bt,x3,Rb n1 b7,qk n2 [94] 6,qk n3 [10] 4,MW b7 [.raw (.pointer none),.own 5 (pv n2 0),.own 6 (pv n3 0)]]
  (λr H=>∃n4,r= .ret (.tuple [])/\H=[x0,x1,vr bg bt,x3,Rb n1 b7,qk n2 [94] 6,qk n3 [10] 4,MW b7 [.own 8 (pv n4 0),.own 5 (pv n2 0),.own 6 (pv n3 0)],.cells n4 (some 385) [.str [34],.int .i64 2,.str [],.raw (.pointer none),.raw (.slice none 0 0)]]):=by
 have hGL:ab G []:=al;refine Fv 4 0 2 4 func270 call270 rfl rfl rfl rfl hGL rfl rfl rfl rfl ?_;intro C hC;have q7:cd (.slice (some ⟨b7,0,none⟩) 3 3) b7 3:=⟨_,rfl⟩;have w0:cd (.slice (some ⟨b7,0,none⟩) 3 3) b7 3/\0+1<=3*1/\0<3:=⟨⟨_,rfl⟩,b_,b_⟩;have g0:([.raw (.pointer none),.own 5 (pv n2 0),.own 6 (pv n3 0)]:List AVal)[0]? =some (.raw (.pointer none)):=rfl;refine ao ?_;intros;refine bh mixed hC hGL false (λ(_:Unit)=>[(0,.own 4 (pv n1 0)),(1,.str [39]),(2,.str [34]),(3,.int .i64 2),(4,.own 2 (pv bg 0)),(14,.int .u8 0)]) (λ_=>[x0,x1,vr bg bt,x3,Rb n1 b7,qk n2 [94] 6,qk n3 [10] 4,MW b7 [.raw (.pointer none),.own 5 (pv n2 0),.own 6 (pv n3 0)]]) .p4 be ?_ ?_
 ·refine ao ?_;intros;exact⟨(),⟨rfl,rfl,rfl,rfl,rfl,rfl,trivial⟩,rfl⟩
 intro _;refine ao ?_;intros;rename Nat=>n4
 refine bh mixed hC hGL false (λ(_:Unit)=>[]) (λ_=>[x0,x1,vr bg bt,x3,Rb n1 b7,qk n2 [94] 6,qk n3 [10] 4,MW b7 [.own 8 (pv n4 0),.own 5 (pv n2 0),.own 6 (pv n3 0)],.cells n4 (some 385) [.str [34],.int .i64 2,.str [],.raw (.pointer none),.raw (.slice none 0 0)]]) .p5 be ?_ ?_
 ·refine ao ?_;intros;refine k7 rfl rfl ?_;refine ao ?_;intros;refine aV (i:=8) rfl (xE _ _ _ _ _ _ _) ?_;refine ao ?_;intros;exact⟨(),trivial,rfl⟩
 intro _;refine ao ?_;intros;exact⟨_,At _,_,rfl,rfl⟩
theorem Oc {G:Glo}(bg bt:Nat)(x0 x1:HEnt):ad prog G 270 [.raw (pv bg 0),.str [94,94],.str [94],.int .i64 6,.raw (pv bg 0)] [x0,x1,vr bg bt,.row (.slice (some ⟨bt,0,none⟩) 3 3) (some 382) 1 3 [.raw (.pointer none),.raw (.pointer none),.raw (.pointer none)]]
  (λr H=>∃n1 n2,r= .ret (.tuple [])/\H=[x0,x1,vr bg bt,.row (.slice (some ⟨bt,0,none⟩) 3 3) (some 382) 1 3 [.raw (.pointer none),.own 4 (pv n1 0),.raw (.pointer none)],UP n1 n2,qk n2 [94] 6]):=by
 have hGL:ab G []:=al;refine Fv 2 0 2 4 func270 call270 rfl rfl rfl rfl hGL rfl rfl rfl rfl ?_;intro C hC;have q7:cd (.slice (some ⟨bt,0,none⟩) 3 3) bt 3:=⟨_,rfl⟩;have w0:cd (.slice (some ⟨bt,0,none⟩) 3 3) bt 3/\1+1<=3*1/\0<3:=⟨⟨_,rfl⟩,b_,b_⟩;refine ao ?_;intros;refine bh mixed hC hGL false (λ(_:Unit)=>[(0,.own 2 (pv bg 0)),(1,.str [94,94]),(2,.str [94]),(3,.int .i64 6),(4,.own 2 (pv bg 0)),(14,.int .u8 1)]) (λ_=>[x0,x1,vr bg bt,.row (.slice (some ⟨bt,0,none⟩) 3 3) (some 382) 1 3 [.raw (.pointer none),.raw (.pointer none),.raw (.pointer none)]]) .p4 be ?_ ?_
 ·refine ao ?_;intros;exact⟨(),⟨rfl,rfl,rfl,rfl,rfl,rfl,trivial⟩,rfl⟩
 intro _;refine ao ?_;intros;refine k7 rfl rfl ?_;refine ao ?_;intros;rename Nat=>n1
 refine bh mixed hC hGL false (λ(_:Nat)=>[]) (λn2=>[x0,x1,vr bg bt,.row (.slice (some ⟨bt,0,none⟩) 3 3) (some 382) 1 3 [.raw (.pointer none),.own 4 (pv n1 0),.raw (.pointer none)],UP n1 n2,qk n2 [94] 6]) .p5 be ?_ ?_
 ·refine ao ?_;intros;refine k7 rfl rfl ?_;refine ao ?_;intros;refine⟨_,Yf bg bt n1 _ _ _ _ _,?_,?_⟩
  ·rintro v H ⟨n2,e,rfl⟩;cases e;refine ao ?_;intros;exact⟨n2,trivial,rfl⟩
  ·rintro v H ⟨n2,e,rfl⟩;cases e
 intro y;refine ao ?_;intros;exact⟨_,At _,n1,y,rfl,rfl⟩
theorem Ob {G:Glo}(bg bt n1 n2:Nat)(x0 x1:HEnt):ad prog G 270 [.raw (pv bg 0),.str [94,110],.str [10],.int .i64 4,.raw (pv bg 0)] [x0,x1,vr bg bt,.row (.slice (some ⟨bt,0,none⟩) 3 3) (some 382) 1 3 [.raw (.pointer none),.own 4 (pv n1 0),.raw (.pointer none)],UP n1 n2,qk n2 [94] 6]
  (λr H=>∃n3 b7,r= .ret (.tuple [])/\H=[x0,x1,vr bg bt,.row (.slice (some ⟨bt,0,none⟩) 3 3) (some 382) 1 3 [.raw (.pointer none),.own 4 (pv n1 0),.raw (.pointer none)],Rb n1 b7,qk n2 [94] 6,qk n3 [10] 4,MW b7 [.raw (.pointer none),.own 5 (pv n2 0),.own 6 (pv n3 0)]]):=by
 have hGL:ab G []:=al;refine Fv 2 0 2 4 func270 call270 rfl rfl rfl rfl hGL rfl rfl rfl rfl ?_;intro C hC;have q7:cd (.slice (some ⟨bt,0,none⟩) 3 3) bt 3:=⟨_,rfl⟩;have w0:cd (.slice (some ⟨bt,0,none⟩) 3 3) bt 3/\1+1<=3*1/\0<3:=⟨⟨_,rfl⟩,b_,b_⟩;refine ao ?_;intros;refine bh mixed hC hGL false (λ(_:Unit)=>[(0,.own 2 (pv bg 0)),(1,.str [94,110]),(2,.str [10]),(3,.int .i64 4),(4,.own 2 (pv bg 0)),(14,.int .u8 1)]) (λ_=>[x0,x1,vr bg bt,.row (.slice (some ⟨bt,0,none⟩) 3 3) (some 382) 1 3 [.raw (.pointer none),.own 4 (pv n1 0),.raw (.pointer none)],UP n1 n2,qk n2 [94] 6]) .p4 be ?_ ?_
 ·refine ao ?_;intros;exact⟨(),⟨rfl,rfl,rfl,rfl,rfl,rfl,trivial⟩,rfl⟩
 intro _;refine ao ?_;intros;refine k7 rfl rfl ?_;refine ao ?_;intros;refine bh mixed hC hGL false (λ(_:Nat×Nat)=>[]) (λy=>[x0,x1,vr bg bt,.row (.slice (some ⟨bt,0,none⟩) 3 3) (some 382) 1 3 [.raw (.pointer none),.own 4 (pv n1 0),.raw (.pointer none)],.cells n1 (some 385) [.str [],.int .i64 0,.str [],.raw (.pointer none),.own 7 (.slice (some ⟨y.2,0,none⟩) 3 3)],qk n2 [94] 6,.cells y.1 (some 385) [.str [10],.int .i64 4,.str [],.raw (.pointer none),.raw (.slice none 0 0)],.row (.slice (some ⟨y.2,0,none⟩) 3 3) (some 382) 1 3 [.raw (.pointer none),.own 5 (pv n2 0),.own 6 (pv y.1 0)]]) .p5 be ?_ ?_
 ·refine ao ?_;intros;refine k7 rfl rfl ?_;refine ao ?_;intros;refine⟨_,Ye bg bt n1 n2 _ _ _,?_,?_⟩
  ·rintro v H ⟨n3,b7,e,rfl⟩;cases e;refine ao ?_;intros;exact⟨(n3,b7),trivial,rfl⟩
  ·rintro v H ⟨n3,b7,e,rfl⟩;cases e
 intro y;refine ao ?_;intros;exact⟨_,At _,y.1,y.2,rfl,rfl⟩
theorem Oa {G:Glo}(bg bt n1 n2 n3 b7:Nat)(x0 x1:HEnt):ad prog G 270 [.raw (pv bg 0),.str [94,39],.str [34],.int .i64 2,.raw (pv bg 0)] [x0,x1,vr bg bt,.row (.slice (some ⟨bt,0,none⟩) 3 3) (some 382) 1 3 [.raw (.pointer none),.own 4 (pv n1 0),.raw (.pointer none)],Rb n1 b7,qk n2 [94] 6,qk n3 [10] 4,MW b7 [.raw (.pointer none),.own 5 (pv n2 0),.own 6 (pv n3 0)]]
  (λr H=>∃n4,r= .ret (.tuple [])/\H=[x0,x1,vr bg bt,.row (.slice (some ⟨bt,0,none⟩) 3 3) (some 382) 1 3 [.raw (.pointer none),.own 4 (pv n1 0),.raw (.pointer none)],Rb n1 b7,qk n2 [94] 6,qk n3 [10] 4,MW b7 [.own 8 (pv n4 0),.own 5 (pv n2 0),.own 6 (pv n3 0)],.cells n4 (some 385) [.str [34],.int .i64 2,.str [],.raw (.pointer none),.raw (.slice none 0 0)]]):=by
 have hGL:ab G []:=al;refine Fv 2 0 2 4 func270 call270 rfl rfl rfl rfl hGL rfl rfl rfl rfl ?_;intro C hC;have q7:cd (.slice (some ⟨bt,0,none⟩) 3 3) bt 3:=⟨_,rfl⟩;have w0:cd (.slice (some ⟨bt,0,none⟩) 3 3) bt 3/\1+1<=3*1/\0<3:=⟨⟨_,rfl⟩,b_,b_⟩;refine ao ?_;intros;refine bh mixed hC hGL false (λ(_:Unit)=>[(0,.own 2 (pv bg 0)),(1,.str [94,39]),(2,.str [34]),(3,.int .i64 2),(4,.own 2 (pv bg 0)),(14,.int .u8 1)]) (λ_=>[x0,x1,vr bg bt,.row (.slice (some ⟨bt,0,none⟩) 3 3) (some 382) 1 3 [.raw (.pointer none),.own 4 (pv n1 0),.raw (.pointer none)],Rb n1 b7,qk n2 [94] 6,qk n3 [10] 4,MW b7 [.raw (.pointer none),.own 5 (pv n2 0),.own 6 (pv n3 0)]]) .p4 be ?_ ?_
 ·refine ao ?_;intros;exact⟨(),⟨rfl,rfl,rfl,rfl,rfl,rfl,trivial⟩,rfl⟩
 intro _;refine ao ?_;intros;refine k7 rfl rfl ?_;refine ao ?_;intros;refine bh mixed hC hGL false (λ(_:Nat)=>[]) (λn4=>[x0,x1,vr bg bt,.row (.slice (some ⟨bt,0,none⟩) 3 3) (some 382) 1 3 [.raw (.pointer none),.own 4 (pv n1 0),.raw (.pointer none)],Rb n1 b7,qk n2 [94] 6,qk n3 [10] 4,MW b7 [.own 8 (pv n4 0),.own 5 (pv n2 0),.own 6 (pv n3 0)],.cells n4 (some 385) [.str [34],.int .i64 2,.str [],.raw (.pointer none),.raw (.slice none 0 0)]]) .p5 be ?_ ?_
 ·refine ao ?_;intros;refine k7 rfl rfl ?_;refine ao ?_;intros;refine⟨_,Yd bg bt n1 n2 n3 b7 _ _ _,?_,?_⟩
  ·rintro v H ⟨n4,e,rfl⟩;cases e;refine ao ?_;intros;exact⟨n4,trivial,rfl⟩
  ·rintro v H ⟨n4,e,rfl⟩;cases e
 intro y;refine ao ?_;intros;exact⟨_,At _,y,rfl,rfl⟩
end
section
theorem iS {P Q:Prop}(hQ:Q)(h:Lf Q->P:=by
  intro ww;repeat' (first
   |(conv=>whnf);first
    |refine .w ?_|refine Ix.v ?_|refine Sd.v ?_|refine Sl.v ?_|apply ja|apply ef
    |refine eh ?_ ?_<;>(intro wb;try exact dd wb)
    |apply aT|(apply cR<;>intro wb)|(apply cX;intro wb)|(apply k7;assumption;exact rfl)
    |(apply bD;first|assumption|(apply k1<;>omega))|(apply cY;intro wl)|(apply aj;exact rfl)|(show Rt _ _ _;exact cP)
    |exact True.intro|(apply pk;intro wC whC)|apply pi|apply oJ|(apply oK;exact rfl))
  all_goals (try conv=>whnf)
  all_goals (repeat (first|revert wb|revert wl|revert whC|revert wC))
  all_goals (apply Lf.h;apply ww)):P:=h ⟨hQ⟩
theorem xm {P Q:Prop}(hQ:Q)(h:Lf Q->P:=by
  intro ww;repeat' (first
   |(conv=>whnf);first
    |refine .w ?_|refine Ix.v ?_|refine Sd.v ?_|refine Sl.v ?_|apply ja|apply ef
    |refine eh ?_ ?_<;>(intro wb;try exact dd wb)
    |apply aT|(apply cR<;>intro wb)|(apply cX;intro wb)|(apply k7;assumption;exact rfl)
    |(apply bD;first|assumption|(apply k1<;>omega))|(apply cY;intro wl)|(apply aj;exact rfl)|(show Rt _ _ _;exact cP)
    |exact True.intro|(apply pk;intro wC whC)|apply pi|apply oJ|(apply oK;exact rfl))
  all_goals (try conv=>whnf)
  all_goals (repeat (first|revert wb|revert wl|revert whC|revert wC))
  all_goals (apply Lf.l;with_reducible (repeat (first|apply ww|apply Lf.r)))) (e:Lz Q:=by repeat (first|exact Lz.n|apply Lz.c)):P:=h ⟨hQ⟩
end
end Go.Proofs.YtnbaflecdkgihaaGreatDoor
