/- Parts of the proof of streamCards_card. -/
import Derived.Laws.LoneSync
import Derived.Test.YtgpjhbhdbjdlgaaGreatDoorBaf
set_option linter.unusedVariables false
set_option linter.unusedSimpArgs false
set_option linter.unusedSectionVars false
namespace Go.Proofs.YtgpjhbhdbjdlgaaGreatDoor
open Go Go.RowKit
open Tryz
set_option maxRecDepth 20000
set_option maxHeartbeats 4000000
section
theorem Zj (s:ω){i:Nat}(h:i<s.length):aa s i=s[i].toNat:=by
 unfold aa
 rw[f_,y_ h]
 rfl
theorem Zl {A e:ω}{N j:Nat}{c:UInt8}(hj:j=A.length)(h:A.length+e.length<=N):(A++List.replicate (N-A.length) c).take j++e++(A++List.replicate (N-A.length) c).drop (j+e.length)=A++e++List.replicate (N-(A++e).length) c:=by
 subst hj;rw[List.take_left,List.drop_append,List.drop_eq_nil_of_le a_,L_,List.drop_replicate,d_];congr 2
 omega
theorem Zk {A:ω}{N j:Nat}{c d:UInt8}(hj:j=A.length)(h:A.length<N):(A++List.replicate (N-A.length) c).set j d=A++[d]++List.replicate (N-(A++[d]).length) c:=by
 subst hj;rw[List.set_append_right _ _ (Nat.le_refl _),Nat.sub_self,show N-A.length=(N-(A++[d]).length)+1 by rw[d_,Rf];omega,List.replicate_succ,List.set_cons_zero,An];rfl
attribute [local irreducible] bJ au aa ax aR ab ad qv
theorem UE {G:Glo}{Fn:UInt8->ω}{ks:ω}{cs:List AVal}(hT:U1 Fn ks cs)(hk:ks.length<=100)(s:ω)(hl:s.length<=2000000)(hct:∀c,ai prog G 224 [.str s,.str [c]] (.int .i64 (s.countP (· ==c):Nat))):
  ai prog G 337 [.rop cs 0,.str s] (.str (s.flatMap Fn)):=by
 have hL:=XM hT s;have hI:=λh=>Zg hT (s:=s) h;have hcn:=List.countP_le_length (p:=λc=>decide (c∈ks)) (l:=s);refine k7 func337 call337 λC hC hGL=> ?_;refine cut hC hGL [(0,.rop cs 0),(1,.str s)] [] True eK λ_=> ?_;refine cut hC hGL [(0,.rop cs 0),(1,.str s),(5,.int .i64 (s.length:Nat))] [] True eK λ_=> ?_;refine cut hC hGL [(0,.rop cs 0),(1,.str s),(5,.int .i64 (s.length:Nat)),(6,.bool false)] [] True eK λ_=> ?_;refine Dp (λ_:Unit=>[(0,.rop cs 0),(1,.str s),(5,.int .i64 ((s.flatMap Fn).length:Nat)),(6,.bool (decide ((s.countP λc=>decide (c∈ks))≠0)))]) (λ_=>[]) (λ_=>True) (ar hC hGL ?_) ?_
 ·by_cases hc:(ks.length:Int)*8<=s.length
  ·refine an ?_;intros;erw[hT.last];refine an ?_;intros;erw[hT.last];refine an ?_;intros;refine lp hC hGL (λi:Nat=>[(0,.rop cs 0),(1,.str s),(5,.int .i64 ((s.length+qv ks s i:Nat):Int)),(6,.bool (decide (qv ks s i≠0))),(30,.list 1 ks.length (λi=>.str [ks.getD i 0])),(31,.int .i64 (ks.length:Nat)),(32,.int .i64 (i:Nat))]) (λ_=>[]) (λi=>i<=ks.length) (λi=>ks.length-i) 0 (Nat.zero_le _) (by rw[XK];exact ae) rfl ?_;intro i hi;by_cases hik:i<ks.length
   ·have hs:=Ns (s:=s) hik hT.nd;have hq:=hct (ks.getD i 0);have hmem:ks.getD i 0∈ks:=by rw[f_,y_ hik];exact K_ hik
    have hy:=(hT.yes _ hmem).1;have hy2:cs[0+0+aa [ks.getD i 0] 0*1]? =some (.list 1 2 (kX (Fn (ks.getD i 0)))):=by
     rw[show 0+0+aa [ks.getD i 0] 0*1=(ks.getD i 0).toNat by unfold aa;simp];exact hy
    have hle:s.countP (· ==ks.getD i 0)<=s.length:=List.countP_le_length;have hle2:qv ks s i<=s.length:=by unfold qv;exact List.countP_le_length
    generalize s.countP (· ==ks.getD i 0)=m at*
    by_cases hm:m=0
    ·subst hm;rw[Nat.add_zero] at hs;refine an ?_;intros;exact fG (i+1) hik a_ (by rw[hs];exact ae) aA
    ·refine an ?_;intros;refine a7 mixed hC hGL true (λ_:Unit=>[(0,.rop cs 0),(1,.str s),(5,.int .i64 ((s.length+qv ks s (i+1):Nat):Int)),(30,.list 1 ks.length (λi=>.str [ks.getD i 0])),(31,.int .i64 (ks.length:Nat)),(32,.int .i64 (i:Nat))]) (λ_=>[]) (.t 0 (.t 1 (.t 2 (.t 3 (.t 4 (.t 5 (.t 6 (.t 7 (.t 8 (.t 9 (.t 10 (.t 11 (.t 12 (.t 13 .done)))))))))))))) be ?_ ?_
     ·refine an ?_;intros;erw[hy2];refine an ?_;intros;refine⟨(),⟨rfl,rfl,?_,rfl,rfl,rfl,trivial⟩,rfl⟩;show some (AVal.int .i64 _)=some (AVal.int .i64 ((s.length+qv ks s (i+1):Nat):Int));congr 2
      rw[hs];show((s.length+qv ks s i:Nat):Int)+(m:Nat)*1=_;omega
     intro _;refine an ?_;intros;refine fG (i+1) hik a_ ⟨rfl,rfl,rfl,?_,rfl,rfl,rfl,trivial⟩ aA;show some (AVal.bool true)=some (AVal.bool (decide (qv ks s (i+1)≠0)));rw[decide_eq_true a_]
   ·obtain rfl:i=ks.length:=by omega
    have e:qv ks s ks.length=s.countP λc=>decide (c∈ks):=by unfold qv;rw[List.take_length]
    rw[e];refine an ?_;intros;exact Hf () trivial (bi (by rw[hL];exact ae) aA)
  ·refine an ?_;intros;erw[hT.last];refine an ?_;intros;refine lp hC hGL (λi:Nat=>[(0,.rop cs 0),(1,.str s),(5,.int .i64 ((s.length+(s.take i).countP (λc=>decide (c∈ks)):Nat):Int)),(6,.bool (decide ((s.take i).countP (λc=>decide (c∈ks))≠0))),(10,.int .i64 (i:Nat))]) (λ_=>[]) (λi=>i<=s.length) (λi=>s.length-i) 0 (Nat.zero_le _) ae rfl ?_;intro i hi;by_cases hik:i<s.length
   ·have hs:=XN (ks:=ks) hik;have hb:=Zj s hik;have hle:(s.take i).countP (λc=>decide (c∈ks))<=s.length:=aai List.countP_le_length (by rw[i_];omega);generalize (s.take i).countP (λc=>decide (c∈ks))=m at*
    have ho:0+0+aa s i*1=(s[i]).toNat:=by rw[hb];omega
    by_cases hm:s[i]∈ks
    ·have hy2:cs[0+0+aa s i*1]? =some (.list 1 2 (kX (Fn s[i]))):=by rw[ho];exact(hT.yes _ hm).1
     rw[if_pos hm] at hs;refine an ?_;intros;erw[hy2];refine an ?_;intros;refine aY hC hGL (jR (m:=1) rfl rfl rfl) rfl rfl ?_;refine an ?_;intros;erw[hy2];refine an ?_;intros;refine fG (i+1) hik a_ ⟨rfl,rfl,?_,?_,rfl,trivial⟩ aA
     ·show some (AVal.int .i64 _)=some (AVal.int .i64 ((s.length+(s.take (i+1)).countP (λc=>decide (c∈ks)):Nat):Int));congr 2
      rw[hs];show((s.length+m:Nat):Int)+1=_;omega
     ·show some (AVal.bool true)=some (AVal.bool (decide ((s.take (i+1)).countP (λc=>decide (c∈ks))≠0)));rw[decide_eq_true a_]
    ·have hy2:cs[0+0+aa s i*1]? =some (.raw (.slice none 0 0)):=by rw[ho];exact(hT.no _ hm).1
     rw[if_neg hm,Nat.add_zero] at hs;refine an ?_;intros;erw[hy2];refine an ?_;intros;exact fG (i+1) hik a_ (by rw[hs];exact ae) aA
   ·obtain rfl:i=s.length:=by omega
    rw[List.take_length];refine an ?_;intros;exact Hf () trivial (bi (by rw[hL];exact ae) aA)
 intro _ _;by_cases h0:(s.countP λc=>decide (c∈ks))=0
 ·rw[hI h0,decide_eq_false (λh=>h h0)];exact ar hC hGL eK
 rw[decide_eq_true h0];refine cut hC hGL [(0,.rop cs 0),(1,.str s),(5,.int .i64 ((s.flatMap Fn).length:Nat))] [] True eK λ_=> ?_;refine ar hC hGL (an ?_);intros;have hN:(s.flatMap Fn).length<=4000000:=by omega
 refine p6 (m:=(s.flatMap Fn).length) (by assumption) hGL rfl rfl a_ rfl rfl rfl rfl rfl rfl rfl rfl (λbo=> ?_);refine an ?_;intros;refine lp hC hGL (λx:Nat×ω=>[(0,.rop cs 0),(1,.str s),(12,.own 0 (.slice (some ⟨bo,0,none⟩) (s.flatMap Fn).length (s.flatMap Fn).length)),(13,.int .i64 (((s.take x.1).flatMap Fn).length:Nat)),(14,.int .i64 (x.1:Nat))]) (λx=>[.buf bo x.2 (s.flatMap Fn).length]) (λx=>x.1<=s.length/\x.2=(s.take x.1).flatMap Fn++List.replicate ((s.flatMap Fn).length-((s.take x.1).flatMap Fn).length) 0) (λx=>s.length-x.1) (0,List.replicate (s.flatMap Fn).length 0) ⟨Nat.zero_le _,rfl⟩ ae rfl ?_;rintro⟨i,t⟩ ⟨hi,ht⟩;have hi:i<=s.length:=hi;have ht:t=((s.take i).flatMap Fn)++List.replicate ((s.flatMap Fn).length-((s.take i).flatMap Fn).length) 0:=ht;dsimp only
 have e0:=VK (F:=Fn) (s:=s) (i:=i);have hl2:t.length=(s.flatMap Fn).length:=by rw[ht,d_,List.length_replicate];omega
 by_cases hik:i<s.length;case neg=>
  obtain rfl:i=s.length:=by omega
  rw[List.take_length,Nat.sub_self,List.replicate_zero,Dc] at ht;subst ht;exact eK
 have et:=UF (F:=Fn) hik;have e1:=VK (F:=Fn) (s:=s) (i:=i+1);have hb:=Zj s hik;have ho:0+0+aa s i*1=(s[i]).toNat:=by rw[hb];omega
 rw[et,d_] at e1;by_cases hm:s[i]∈ks
 ·obtain⟨hy,h2⟩:=hT.yes _ hm;have hy2:cs[0+0+aa s i*1]? =some (.list 1 2 (kX (Fn s[i]))):=by rw[ho];exact hy
  rw[h2] at e1;refine an ?_;intros;erw[hy2];refine an ?_;intros;refine aY hC hGL (jR (m:=1) rfl rfl rfl) rfl rfl ?_;refine an ?_;intros;refine a7 mixed hC hGL false (λ_:Unit=>[(0,.rop cs 0),(1,.str s),(12,.own 0 (.slice (some ⟨bo,0,none⟩) (s.flatMap Fn).length (s.flatMap Fn).length)),(13,.int .i64 ((((s.take i).flatMap Fn).length:Nat)+2)),(14,.int .i64 (i:Nat))]) (λ_=>[.buf bo (t.take ((s.take i).flatMap Fn).length++Fn s[i]++t.drop (((s.take i).flatMap Fn).length+(Fn s[i]).length)) (s.flatMap Fn).length]) (.t 0 (.t 1 (.t 2 (.t 4 (.t 5 (.t 6 (.t 7 (.t 8 (.t 9 (.b 3 (.b 10 (.t 11 (.t 12 .done))))))))))))) be ?_ ?_
  ·refine an ?_;intros;erw[hy2];refine an ?_;intros;refine Im (i:=0) (o:=((s.take i).flatMap Fn).length) (l:=(s.flatMap Fn).length) (c:=(s.flatMap Fn).length) (by assumption) hGL rfl rfl a_ a_ rfl rfl rfl rfl rfl rfl ?_;refine an ?_;intros;refine MI (i:=0) (bl:=bo) (o:=((s.take i).flatMap Fn).length) (l:=(s.flatMap Fn).length-((s.take i).flatMap Fn).length) (s:=t) (s2:=Fn s[i]) (by assumption) hGL rfl (by rw[h2];rfl) a_ rfl a_ a_ rfl rfl rfl rfl rfl rfl ?_;rw[h2];refine an ?_;intros;exact⟨(),⟨rfl,rfl,rfl,rfl,rfl,trivial⟩,rfl⟩
  intro _;refine an ?_;intros;refine fG (i+1,t.take ((s.take i).flatMap Fn).length++Fn s[i]++t.drop (((s.take i).flatMap Fn).length+(Fn s[i]).length)) ⟨hik,?_⟩ (by show s.length-(i+1)<s.length-i;omega) ⟨rfl,rfl,rfl,?_,rfl,trivial⟩ aA
  ·show t.take ((s.take i).flatMap Fn).length++Fn s[i]++t.drop (((s.take i).flatMap Fn).length+(Fn s[i]).length)=(s.take (i+1)).flatMap Fn++List.replicate ((s.flatMap Fn).length-((s.take (i+1)).flatMap Fn).length) 0;rw[ht,et];exact Zl rfl a_
  ·show some (AVal.int .i64 ((((s.take i).flatMap Fn).length:Nat)+2))=some (AVal.int .i64 (((s.take (i+1)).flatMap Fn).length:Nat));rw[et,d_,h2];rfl
 ·obtain⟨hy,h2⟩:=hT.no _ hm;have hy2:cs[0+0+aa s i*1]? =some (.raw (.slice none 0 0)):=by rw[ho];exact hy
  rw[h2] at e1 et;rw[Rf] at e1;refine an ?_;intros;erw[hy2];have h7:((s.take i).flatMap Fn).length<t.length:=by omega
  refine an ?_;intros;refine fG (i+1,t.set ((s.take i).flatMap Fn).length (UInt8.ofNat (aa s i))) ⟨hik,?_⟩ (by show s.length-(i+1)<s.length-i;omega) ⟨rfl,rfl,rfl,?_,rfl,trivial⟩ aA
  ·show t.set ((s.take i).flatMap Fn).length (UInt8.ofNat (aa s i))=(s.take (i+1)).flatMap Fn++List.replicate ((s.flatMap Fn).length-((s.take (i+1)).flatMap Fn).length) 0;rw[ht,et,hb,UInt8.ofNat_toNat];exact Zk rfl a_
  ·show some (AVal.int .i64 ((((s.take i).flatMap Fn).length:Nat)+1))=some (AVal.int .i64 (((s.take (i+1)).flatMap Fn).length:Nat));rw[et,d_];rfl
end
section
theorem nF {P:Program}[Tab P]{G:Glo}{f:FuncId}{avs:List AVal}{b:Nat}{eT:Option TypeId}{cs cs':List AVal}{v:AVal}
  (hrun:∀R w Cs e fz args,w.heap[b]? =some (.cells Cs e fz)->cb R cs Cs.toList->ow fz Cs.size->dy R avs args.toList->∃x w' Cs',(callFunc f args).run P w= .ok (.value x) w'/\bn R v x/\oj w b (.cells Cs' e fz) w'/\cb R cs' Cs'.toList/\Cs'.size=Cs.size):
  ad P G f avs [.cells b eT cs] (λr H=>r= .ret v/\H=[.cells b eT cs']):=by
 intro R w args hG hm ha;obtain⟨Cs,e,fz,hb,hl,hfz,het⟩:=hm.heap.holds _ (z_ ..);obtain⟨x,w',Cs',h1,h2,h3,h4,h5⟩:=hrun R w Cs e fz args hb hl hfz ha;refine .inr ⟨x,w',h1,.ret v,[.cells b eT cs'],R,⟨rfl,rfl⟩,⟨x,rfl,h2⟩,?_⟩;exact hm.write (i:=0) rfl rfl h3 rfl ⟨Cs',e,fz,h3.at_,h4,by rw[h5];exact hfz,het⟩
theorem Fj {w:World}{b:Nat}{o:Obj}(h:w.heap[b]? =some o):oj w b o w:=⟨rfl,rfl,rfl,rfl,h,λ_ _=>rfl⟩
theorem rf {w:World}{b off e:Nat}{Cs:Array Value}{fz:Nat×Nat}{v:Value}(h:w.heap[b]? =some (.cells Cs e fz))(ho:off<Cs.size):oj w b (.cells (Cs.setIfInBounds off v) e fz) (w.setCell ⟨b,off,none⟩ v):=by
 have hlt:b<w.heap.size:=by
  rcases aaj b w.heap.size with h1|h1
  ·exact h1
  ·simp[Array.getElem?_eq_none h1] at h
 refine⟨rfl,rfl,rfl,by simp[World.setCell],?_,λk hk=> ?_⟩
 ·simp only[World.setCell,Array.getElem?_modify,aap,h,aal,Option.isSome_none,Bu,aaq]
 ·simp only[World.setCell,Array.getElem?_modify]
  rw[if_neg (λe=>hk e.symm)]
theorem sc {R:Seal}{a:AVal}{v:Value}(ha:bI R a [v]):∀{cs:List AVal} {vs:List Value} {p:Nat},cb R cs vs->p<cs.length->cb R (cs.set p a) (vs.set p v)
 |[],_,_,_,h=>absurd h (Uf _)
 |c::cs,_,0,⟨u,t,rfl,h1,h2⟩,_=>⟨v,t,rfl,ha,h2⟩
 |c::cs,_,p+1,⟨u,t,rfl,h1,h2⟩,hp=>⟨u,_,rfl,h1,sc ha h2 (by simpa using hp)⟩
theorem Zo {R:Seal}{v:Value}{args:Array Value}(h:dy R [.raw v] args.toList):args=#[v]:=by
 obtain⟨x,t,e,hx,rfl⟩:=h
 obtain rfl:=aq.1 (show bn R (.raw v) x from hx);exact Array.ext' e
theorem Zn {R:Seal}{v:Value}{k:IntKind}{n:Int}{args:Array Value}(h:dy R [.raw v,.int k n] args.toList):args=#[v,.int k n]:=by
 obtain⟨x,t,e,hx,y,t2,rfl,hy,rfl⟩:=h;obtain rfl:=aq.1 (show bn R (.raw v) x from hx);obtain rfl:=ap.1 (show bn R (.int k n) y from hy);exact Array.ext' e
theorem ZW {R:Seal}{v:Value}{k k2:IntKind}{n m:Int}{args:Array Value}(h:dy R [.raw v,.int k n,.int k2 m] args.toList):args=#[v,.int k n,.int k2 m]:=by
 obtain⟨x,t,e,hx,y,t2,rfl,hy,z,t3,rfl,hz,rfl⟩:=h;obtain rfl:=aq.1 (show bn R (.raw v) x from hx);obtain rfl:=ap.1 (show bn R (.int k n) y from hy);obtain rfl:=ap.1 (show bn R (.int k2 m) z from hz);exact Array.ext' e
section
variable {G:Glo} {b off:Nat} {eT:Option TypeId} {cs:List AVal}
abbrev pv (b off:Nat):Value:=.pointer (some ⟨b,off,none⟩)
theorem sW {R:Seal}{w:World}{Cs:Array Value}{e:Nat}{fz:Nat×Nat}{k:IntKind}{n:Int}(hb:w.heap[b]? =some (.cells Cs e fz))(hl:cb R cs Cs.toList)(hc:cs[off]? =some (.int k n)):w.cell? ⟨b,off,none⟩=some (.int k n)/\off<Cs.size:=by
 obtain⟨v,hv,hr⟩:=fy hl hc;simp only[bI,o_,and_true] at hr;subst hr;refine⟨by simp only[World.cell?,hb];simpa using hv,?_⟩;have:=(List.getElem?_eq_some_iff.1 hv).1
 simpa using this
theorem rg {w:World}{Cs:Array Value}{e:Nat}{fz:Nat×Nat}(hb:w.heap[b]? =some (.cells Cs e fz))(hfz:ow fz Cs.size)(ho:off<Cs.size):w.frozen? ⟨b,off,none⟩=false:=by
 obtain⟨lo,hi⟩:=fz;simp only[World.frozen?,hb,ow] at hfz ⊢;simp;omega
theorem UP {n:Int}(hc:cs[off]? =some (.int .u32 n)):ad prog G 255 [.raw (pv b off)] [.cells b eT cs] (λr H=>r= .ret (.int .u32 n)/\H=[.cells b eT cs]):=by
 refine nF λR w Cs e fz args hb hl hfz ha=> ?_;obtain rfl:=Zo ha;obtain⟨h1,_⟩:=sW hb hl hc;exact⟨_,_,Cs,run_call_load func255 be be be .u32 be h1,ap.2 rfl,Fj hb,hl,rfl⟩
theorem RW {n y:Int}(hc:cs[off]? =some (.int .u32 n)):ad prog G 268 [.raw (pv b off),.int .u32 y] [.cells b eT cs] (λr H=>r= .ret (.tuple [])/\H=[.cells b eT (cs.set off (.int .u32 y))]):=by
 refine nF λR w Cs e fz args hb hl hfz ha=> ?_;obtain rfl:=Zn ha;obtain⟨h1,ho⟩:=sW hb hl hc;have hlen:=aJ hl;rw[r_] at hlen;refine⟨_,_,Cs.setIfInBounds off (.int .u32 y),run_call_store func268 be be be be h1 (rg hb hfz ho),⟨⟨#[],rfl,rfl⟩,rfl⟩,rf hb ho,?_,by simp⟩;rw[Array.toList_setIfInBounds];exact sc (show bI R (.int .u32 y) [.int .u32 y] from rfl) hl a_
theorem XY {n y:Int}(hc:cs[off]? =some (.int .i32 n)):ad prog G 275 [.raw (pv b off),.int .i32 n,.int .i32 y] [.cells b eT cs] (λr H=>r= .ret (.bool true)/\H=[.cells b eT (cs.set off (.int .i32 y))]):=by
 refine nF λR w Cs e fz args hb hl hfz ha=> ?_;obtain rfl:=ZW ha;obtain⟨h1,ho⟩:=sW hb hl hc;have hlen:=aJ hl;rw[r_] at hlen;refine⟨_,_,Cs.setIfInBounds off (.int .i32 y),run_call_cas_hit func275 be be be .i32 be h1 (rg hb hfz ho),aO.2 rfl,rf hb ho,?_,by simp⟩;rw[Array.toList_setIfInBounds];exact sc (show bI R (.int .i32 y) [.int .i32 y] from rfl) hl a_
theorem XX (hc:cs[off]? =some (.int .i32 1)):ad prog G 280 [.raw (pv b off),.int .i32 (-1)] [.cells b eT cs] (λr H=>r= .ret (.int .i32 0)/\H=[.cells b eT (cs.set off (.int .i32 0))]):=by
 refine nF λR w Cs e fz args hb hl hfz ha=> ?_;obtain rfl:=Zn ha;obtain⟨h1,ho⟩:=sW hb hl hc;have hlen:=aJ hl;rw[r_] at hlen;refine⟨_,_,Cs.setIfInBounds off (.int .i32 0),run_call_add func280 be be be .i32 be (s:=0) h1 (rg hb hfz ho) (by simp[go_sem];rfl),ap.2 rfl,rf hb ho,?_,by simp⟩;rw[Array.toList_setIfInBounds];exact sc (show bI R (.int .i32 0) [.int .i32 0] from rfl) hl a_
end
end
section
theorem jx {P:Program}[Tab P]{G:Glo}{GL:List (Nat×List AVal)}{n:Nat}{H:Heap}{v:Value}(i:Nat){f:FuncId}{fn:Func}{c:Code}{avs:List AVal}{Qf:co->Heap->Prop}{rs:List ResultVar}(hf:P.funcs[f]? =some fn)
  (hc:∀args w,(callFunc f args).run P w= .ok (.enter f args) w) (hb:fn.body=some c) (hn:fn.ntmps=n) (hrs:fn.results=rs.toArray) (hlen:Nat.ble (AVal.raw v::avs).length n=true) (hGL:ab G GL) (hv:dc v=false)
  (h:∀C:Ctx,C.G=G->gV P C n G GL c ((0,.own i v)::fg 0 (.raw v::avs)) H (uC P rs Qf)):ad P G f (.raw v::avs) H Qf:=
 qk hf hb hc hn hrs hlen λw0 R0 hG=>(xR (C:=⟨w0,R0,eR H,G,hG,[]⟩) (k:=0) i rfl hGL hv rfl (h ⟨w0,R0,eR H,G,hG,[]⟩ rfl)).mono λ_ _ _ q=>kh q
section
variable {P:Program} [Tab P] {C:Ctx} {n:Nat} {env:Env} {H:Heap} {G:Glo} {x:Operand} {S T u:TypeId} {xS xT xu:TI}
theorem O1 {i j b off:Nat}{eT:Option TypeId}{cs:List AVal}{a:AVal}(hx:ah env x=some (.own i (pv b off)))(hj:H[j]? =some (.cells b eT cs))(hc:cs[off]? =some a)(h1:bj P S=some xS)(h2:xS.desc= .pointer u)(h3:bj P T=some xT)(h4:xT.desc= .unsafePointer)(h5:bj P u=some xu)(h6:Nat.ble 1 xu.size=true):
  bE P C H env (.convert S T x) (.raw (pv b off)):=by
 intro R ρ w hm hf dst t p af g;obtain⟨Cs,el,fz,hb,hl,_⟩:=lB hm hj;obtain⟨v,hv,_⟩:=fy hl hc;have hcell:w.cell? ⟨b,off,none⟩=some v:=by simp only[World.cell?,hb];simpa using hv
 obtain⟨iu,hiu,his,_⟩:=ii h5;have h6:=v_ h6;have hr:=run_convert_to_unsafe (P:=P) (src:=S) (dst:=T) (by rw[bR h1,h2]) (by rw[bR h3,h4]) (by rw[hiu];simp[his];omega) hcell
 exact⟨_,by simp only[execOp,(aE.1 (hf _ _ hx)).1,e_,hr,c_,h_],aq.2 rfl⟩
end
section
variable {G:Glo}
theorem A1 {f:FuncId}(h:∀w,(callFunc f #[]).run prog w= .ok (.value (.tuple #[])) w):ai prog G f [] (.tuple []):=by
 intro R w args hG hm ha;have e:args=#[]:=by
  have:args.toList=[]:=ha;exact Array.ext' this
 subst e;exact .inr ⟨_,w,h w,_,[],R,⟨rfl,rfl⟩,⟨_,rfl,⟨#[],rfl,rfl⟩,rfl⟩,hm⟩
theorem uO {f:FuncId}{a:Addr}(h:∀w,(callFunc f #[.pointer (some a)]).run prog w= .ok (.value (.tuple #[])) w):ai prog G f [.raw (.pointer (some a))] (.tuple []):=by
 intro R w args hG hm ha;obtain rfl:=Zo ha;exact .inr ⟨_,w,h w,_,[],R,⟨rfl,rfl⟩,⟨_,rfl,⟨#[],rfl,rfl⟩,rfl⟩,hm⟩
theorem nf:ai prog G 274 [] (.tuple []):=A1 λw=>run_call_mark0 func274 be be be .disable be w
theorem pZ:ai prog G 276 [] (.tuple []):=A1 λw=>run_call_mark0 func276 be be be .enable be w
theorem xH (a:Addr):ai prog G 277 [.raw (.pointer (some a))] (.tuple []):=uO λw=>run_call_marked func277 be be be .acquire be a w
theorem xG (a:Addr):ai prog G 279 [.raw (.pointer (some a))] (.tuple []):=uO λw=>run_call_marked func279 be be be .releaseMerge be a w
attribute [local irreducible] bJ au aa ax aR ab ad
theorem Qq {b off:Nat}{eT:Option TypeId}{cs:List AVal}(hc:cs[off]? =some (.int .i32 0)):ad prog G 266 [.raw (pv b off)] [.cells b eT cs] (λr H=>r= .ret (.tuple [])/\H=[.cells b eT (cs.set off (.int .i32 1))]):=by
 have hGL:ab G []:=al;have e1:=XY (G:=G) (b:=b) (eT:=eT) (y:=1) hc;have hlt:=(List.getElem?_eq_some_iff.1 hc).1;refine jx 0 func266 call266 rfl rfl rfl rfl hGL rfl ?_;intro C hC;repeat' (first|(conv=>whnf);first|refine .w ?_|refine .v ?_|refine ez ?_ ?_<;>(intro hb;try exact dd hb)|apply aT|apply bP|(apply cR<;>intro hb)|(apply cX;intro hbd)|(apply bG;first|exact nf|exact pZ|exact e1)|(apply aV (i:=0) rfl;first|exact nf|exact pZ|exact e1)|(apply cY;intro bl)|(apply dv;intro va vk vc hva)|(apply du;intro v)|(apply dw;intro bl cap hcap)|apply dP|(apply dq<;>intro hnx)|apply ef mixed hC hGL be|(apply cq;assumption;(first|exact nf|exact pZ|exact e1);exact rfl)|(show Rt _ _ _;exact cP)|fail)
 all_goals try conv=>whnf
 refine aY hC hGL (O1 (j:=0) rfl rfl (List.getElem?_set_self hlt) rfl rfl rfl rfl rfl rfl) rfl rfl ?_;repeat' (first|(conv=>whnf);first|refine .w ?_|refine .v ?_|refine ez ?_ ?_<;>(intro hb;try exact dd hb)|apply aT|apply bP|(apply cR<;>intro hb)|(apply cX;intro hbd)|(apply bG;exact xH _)|(apply aV (i:=0) rfl;exact xH _)|(apply cY;intro bl)|(apply dv;intro va vk vc hva)|(apply du;intro v)|(apply dw;intro bl cap hcap)|apply dP|(apply dq<;>intro hnx)|apply ef mixed hC hGL be|(apply cq;assumption;exact xH _;exact rfl)|(show Rt _ _ _;exact cP)|fail)
 all_goals try conv=>whnf
theorem IQ {b off:Nat}{eT:Option TypeId}{cs:List AVal}(hc:cs[off]? =some (.int .i32 1)):ad prog G 267 [.raw (pv b off)] [.cells b eT cs] (λr H=>r= .ret (.tuple [])/\H=[.cells b eT (cs.set off (.int .i32 0))]):=by
 have hGL:ab G []:=al;have e1:=XX (G:=G) (b:=b) (eT:=eT) hc;refine jx 0 func267 call267 rfl rfl rfl rfl hGL rfl ?_;intro C hC;refine aH ?_;intros;erw[hc];refine aH ?_;intros;refine aY hC hGL (O1 (j:=0) rfl rfl hc rfl rfl rfl rfl rfl rfl) rfl rfl ?_;repeat' (first|(conv=>whnf);first|refine .w ?_|refine .v ?_|refine ez ?_ ?_<;>(intro hb;try exact dd hb)|apply aT|apply bP|(apply cR<;>intro hb)|(apply cX;intro hbd)|(apply bG;first|exact xG _|exact nf|exact pZ|exact e1)|(apply aV (i:=0) rfl;first|exact xG _|exact nf|exact pZ|exact e1)|(apply cY;intro bl)|(apply dv;intro va vk vc hva)|(apply du;intro v)|(apply dw;intro bl cap hcap)|apply dP|(apply dq<;>intro hnx)|apply ef mixed hC hGL be|(apply cq;assumption;(first|exact xG _|exact nf|exact pZ|exact e1);exact rfl)|(show Rt _ _ _;exact cP)|fail)
 all_goals try conv=>whnf
theorem ZO {b off:Nat}{eT:Option TypeId}{cs:List AVal}(hc:cs[off]? =some (.int .i32 0)):ad prog G 256 [.raw (pv b off)] [.cells b eT cs] (λr H=>r= .ret (.tuple [])/\H=[.cells b eT (cs.set off (.int .i32 1))]):=by
 have hGL:ab G []:=al;have e1:=Qq (G:=G) (b:=b) (eT:=eT) hc;refine jx 0 func256 call256 rfl rfl rfl rfl hGL rfl ?_;intro C hC;exact bq
theorem VX {b off:Nat}{eT:Option TypeId}{cs:List AVal}(hc:cs[off]? =some (.int .i32 1))(m:fL):dS prog G 257 [.own 0 (pv b off)] m [.cells b eT cs] (λr m' H=>m'=m/\r= .ret (.tuple [])/\H=[.cells b eT (cs.set off (.int .i32 0))]):=by
 have hGL:ab G []:=al;have e1:=IQ (G:=G) (b:=b) (eT:=eT) hc;refine vY (rs:=[]) (GL:=[]) func257 rfl rfl rfl rfl hGL ?_;intro C hC;exact bq
theorem BH {b off:Nat}{eT:Option TypeId}{cs:List AVal}{n:Int}(hc:cs[off]? =some (.int .u32 n)):ad prog G 246 [.raw (pv b off)] [.cells b eT cs] (λr H=>r= .ret (.bool (!bV n 0))/\H=[.cells b eT cs]):=by
 have hGL:ab G []:=al;have e1:=UP (G:=G) (b:=b) (eT:=eT) hc;refine jx 0 func246 call246 rfl rfl rfl rfl hGL rfl ?_;intro C hC;exact bq
theorem GW:ai prog G 269 [.bool true] (.int .u32 1):=by
 refine aw func269 call269 λC hC hGL=> ?_;exact bq
theorem JG {b off:Nat}{eT:Option TypeId}{cs:List AVal}{n:Int}(hc:cs[off]? =some (.int .u32 n))(m:fL):dS prog G 258 [.own 0 (pv b off),.bool true] m [.cells b eT cs] (λr m' H=>m'=m/\r= .ret (.tuple [])/\H=[.cells b eT (cs.set off (.int .u32 1))]):=by
 have hGL:ab G []:=al;have e1:=RW (G:=G) (b:=b) (eT:=eT) (y:=1) hc;refine vY (rs:=[]) (GL:=[]) func258 rfl rfl rfl rfl hGL ?_;intro C hC;refine an ?_;intros;refine a7 mixed hC hGL false (λ(_:Unit)=>[]) (λ_=>[.cells b eT (cs.set off (.int .u32 1))]) (.t 0 (.t 1 (.t 2 (.t 3 (.b 4 (.b 5 .done)))))) be ?_ ?_
 ·repeat' (first|(conv=>whnf);first|refine .w ?_|refine .v ?_|refine ez ?_ ?_<;>(intro hb;try exact dd hb)|apply aT|apply bP|(apply cR<;>intro hb)|(apply cX;intro hbd)|(apply bG;first|exact e1|exact GW)|(apply aV (i:=0) rfl;first|exact e1|exact GW)|(apply cY;intro bl)|(apply dv;intro va vk vc hva)|(apply du;intro v)|(apply dw;intro bl cap hcap)|apply dP|(apply dq<;>intro hnx)|exact True.intro|(apply pB;intro C hC)|apply pz|apply oY|(apply oZ;exact rfl)|(show Rt _ _ _;exact cP)|fail)
  all_goals try conv=>whnf
  all_goals exact⟨(),trivial,rfl⟩
 ·intro _;exact eK
end
end
section
theorem UK {P:Program}{C:Ctx}{n:Nat}{c:Code}{env:Env}{H:Heap}{Q:List Deferred->aL->Env->Heap->Prop}{k:Nat}(i:Nat){v:Value}(hv:dc v=false)(hk:Env.get env k=some (.raw v))(h:gj P C n c ((k,.own i v)::env) H Q):gj P C n c env H Q:=
 λR a w hm hf=>h R a w hm (uj hv hk hf)
theorem Do {P:Program}[Tab P]{G:Glo}{f:FuncId}{avs:List AVal}{H H':Heap}{v:AVal}{K Kp:AVal->Heap->Prop}(hs:ad P G f avs H (λr H2=>r= .ret v/\H2=H'))(k:K v H'):Cx P G f avs H K Kp:=by
 refine⟨_,hs,?_,?_⟩
 ·rintro v' H2 ⟨e,rfl⟩;cases e;exact k
 ·rintro v' H2 ⟨e,rfl⟩;cases e
attribute [local irreducible] bJ au aa ax aR ab ad dS Lv gj To
theorem MJ {G:Glo}{b off fid:Nat}{eT:Option TypeId}{cs:List AVal}{T:Heap}{Y:Type}{cs2:Y->List AVal}{T2:Y->Heap}{l1 l2:List AVal}(h0:cs[off]? =some (.int .u32 0))(h1:cs[off+1]? =some (.int .i32 0))(k0:∀y,(cs2 y)[off]? =some (.int .u32 0))(k1:∀y,(cs2 y)[off+1]? =some (.int .i32 1))
  (hf:ad prog G fid (jN (l1++([]++l2))) (.cells b eT (cs.set (off+1) (.int .i32 1))::T) (λr H=>∃y,r= .ret (.tuple [])/\H= .cells b eT (cs2 y)::T2 y)):
  ad prog G 247 [.raw (pv b off),.func (.func fid) l1 l2] (.cells b eT cs::T) (λr H=>∃y,r= .ret (.tuple [])/\H= .cells b eT (((cs2 y).set off (.int .u32 1)).set (off+1) (.int .i32 0))::T2 y):=by
 have hGL:ab G []:=al;have e1:=ZO (G:=G) (b:=b) (eT:=eT) h1;have h0':(cs.set (off+1) (.int .i32 1))[off]? =some (.int .u32 0):=by rw[M_ a_];exact h0
 have e2:=BH (G:=G) (b:=b) (eT:=eT) h0';refine Ua (rs:=[]) func247 call247 rfl rfl rfl rfl ?_;intro C hC hD;refine UK (k:=0) (v:=pv b off) 0 rfl rfl ?_;refine fq (dQ hC hGL ?_);refine aH ?_;intros;rw[bA];refine aH ?_;intros;refine fq (j5 hC hGL rfl ?_);refine aH ?_;intros;refine⟨_,rfl,?_⟩;refine(λ(h:∀C2:Ctx,C2.G=G->C2.D=[{target:=.fn (.func 257) #[],args:=#[pv b (off+1)]}]->gj prog C2 _ _ _ _ _)=>h (withD C ({target:=.fn (.func 257) #[],args:=#[pv b (off+1)]}::C.D)) hC (by show _::C.D=_;rw[hD])) ?_;clear hC hD C;intro C hC hD;refine fq (dQ hC hGL ?_);refine aH ?_;intros;rw[bA];refine aH ?_;intros;refine GY rfl (λ_=> ?_) (λhb=>absurd hb (by simp[bV]));refine fq (j5 hC hGL rfl ?_);refine aH ?_;intros;refine⟨_,rfl,?_⟩;refine dQ (P:=prog) (C:=withD C ({target:=.fn (.func 258) #[],args:=#[pv b off,.bool true]}::C.D)) (G:=G) hC hGL ?_;refine aH ?_;intros;rw[cZ];refine⟨_,hf,?_,λv' H2 ⟨y,e,_⟩=>by cases e⟩;rintro v' H2 ⟨y,e,rfl⟩;cases e;show Lv prog _ _ _ _ ({target:=.fn (.func 258) #[],args:=#[pv b off,.bool true]}::C.D) _ _ _;rw[hD];refine iz (pr (T2 y) (JG (k0 y) .ret)) (λR=>⟨_,_,rfl,aE.2 ⟨rfl,rfl⟩,_,_,rfl,aO.2 rfl,rfl⟩) call258 ?_;have k1':((cs2 y).set off (.int .u32 1))[off+1]? =some (.int .i32 1):=by rw[M_ a_];exact k1 y
 refine iz (pr (T2 y) (VX k1' .ret)) (λR=>⟨_,_,rfl,aE.2 ⟨rfl,rfl⟩,rfl⟩) call257 ?_;refine WS (P:=prog) ?_;exact⟨_,At _,y,rfl,rfl⟩
theorem KA {G:Glo}{b off fid:Nat}{eT:Option TypeId}{cs:List AVal}{T:Heap}{Y:Type}{cs2:Y->List AVal}{T2:Y->Heap}{l1 l2:List AVal}(h0:cs[off]? =some (.int .u32 0))(h1:cs[off+1]? =some (.int .i32 0))(k0:∀y,(cs2 y)[off]? =some (.int .u32 0))(k1:∀y,(cs2 y)[off+1]? =some (.int .i32 1))
  (hl1:jN l1=l1) (hl2:jN l2=l2)
  (hf:ad prog G fid (jN (l1++([]++l2))) (.cells b eT (cs.set (off+1) (.int .i32 1))::T) (λr H=>∃y,r= .ret (.tuple [])/\H= .cells b eT (cs2 y)::T2 y)):
  ad prog G 234 [.raw (pv b off),.func (.func fid) l1 l2] (.cells b eT cs::T) (λr H=>∃y,r= .ret (.tuple [])/\H= .cells b eT (((cs2 y).set off (.int .u32 1)).set (off+1) (.int .i32 0))::T2 y):=by
 have hGL:ab G []:=al;have e1:=BH (G:=G) (b:=b) (eT:=eT) h0;have e2:=MJ h0 h1 k0 k1 hf;refine jx 0 func234 call234 rfl rfl rfl rfl hGL rfl ?_;intro C hC;refine aH ?_;intros;rw[bA];refine aH ?_;intros;rw[show mY (.func (.func fid) l1 l2)= .func (.func fid) l1 l2 by simp[mY,hl1,hl2]];refine⟨_,e2,?_,λv' H2 ⟨y,e,_⟩=>by cases e⟩;rintro v' H2 ⟨y,e,rfl⟩;cases e;exact⟨_,At _,y,rfl,rfl⟩
end
section
attribute [local irreducible] bJ au aa ax aR ab ad
def Fc:Nat->List Int->List (Nat×AVal)
 |_,[]=>[]
 |k,v::vs=>(k,.int .u8 v)::Fc (k+1) vs
theorem Fb:∀(vs:List Int) (k i:Nat) (h:i<vs.length),(Fc k vs)[i]? =some (k+i,.int .u8 vs[i])
 |[],_,_,h=>absurd h (Uf _)
 |v::vs,k,0,_=>rfl
 |v::vs,k,i+1,h=>by
  have:=Fb vs (k+1) i (by simpa using h);simp only[Fc,J_,List.getElem_cons_succ];rw[this,show k+1+i=k+(i+1) by omega]
def cf (vs:List Int):ω:=vs.map λv=>UInt8.ofNat v.toNat
theorem gv {P:Program}[Tab P]{C:Ctx}{H:Heap}{env:Env}(vs:List Int){S T e:TypeId}{xS xT xe:TI}{x:Operand}(hx:ah env x=some (.list 1 vs.length (dH (Fc 0 vs))))(hv:∀v,v∈vs->0<=v/\v<256)
  (h1:bj P S=some xS) (h2:xS.desc= .slice e) (h5:bj P e=some xe) (h6:xe.desc= .int .u8) (h3:bj P T=some xT) (h4:xT.desc= .string):bE P C H env (.convert S T x) (.str (cf vs)):=by
 refine Ex (cf vs) hx (by simp[cf]) (λi hi=> ?_) h1 h2 h5 h6 h3 h4
 have hi:i<vs.length:=by simpa[cf] using hi
 have:=hv _ (K_ hi);unfold dH;rw[Fb vs 0 i hi];simp only[byteA,cf,List.getD,List.getElem?_map,y_ hi,aal,aam];generalize vs[i]=v at*
 congr 1
 have e:v.toNat<256:=by omega
 rw[UInt8.toNat_ofNat_of_lt' (by simpa using e)];omega
end
section
inductive Js where
 |mk (k:Int) (t:ω) (ks:List ω) (l:List Js)
def Js.k:Js->Int|.mk k _ _ _=>k
def Js.t:Js->ω|.mk _ t _ _=>t
def Js.ks:Js->List ω|.mk _ _ ks _=>ks
def Js.l:Js->List Js|.mk _ _ _ l=>l
def Js.z:Js:=.mk 0 [] [] []
abbrev VL (l:List Js)(i:Nat):Js:=l.getD i Js.z
def jsF:Nat->List Js->Nat->AVal
 |0,_,_=>.bool false
 |d+1,l,i=>.agg [.int .i64 (VL l i).k,.str (VL l i).t,.list 1 (VL l i).ks.length (aB (VL l i).ks),.list 4 (VL l i).l.length (jsF d (VL l i).l)]
abbrev Js.C (d:Nat)(x:Js):List AVal:=[.int .i64 x.k,.str x.t,.list 1 x.ks.length (aB x.ks),.list 4 x.l.length (jsF d x.l)]
def Js.R (d:Nat)(x:Js):AVal:=.agg (Js.C d x)
def Js.le:Nat->Js->Prop
 |0,x=>x.l=[]
 |d+1,x=>∀i,i<x.l.length->Js.le d (VL x.l i)
def Js.sz:Nat->Js->Nat
 |0,x=>x.t.length+x.ks.length+Lib.lens x.ks+1
 |d+1,x=>x.t.length+x.ks.length+Lib.lens x.ks+1+((List.range x.l.length).map λi=>Js.sz d (VL x.l i)).sum
end
section
theorem IV {R:Seal}{t:TypeId}{a a':AVal}(h:∀v,bn R a v->bn R a' v){u:Value}:bI R (.iface t a) [u]->bI R (.iface t a') [u]:=by
 rintro⟨w,e,h1,h2⟩;have:=h w ⟨h1,h2⟩;exact⟨w,e,this.1,this.2⟩
theorem Px {R:Seal}{j:Nat}{x:Value}{a:AVal}(h:bn R a x):∀v,bn R (.own j x) v->bn R a v:=λv hv=>by rw[(aE.1 hv).1];exact h
theorem Up {P:Program}{G:Glo}{f:FuncId}{avs:List AVal}{m m':fL}{H H':Heap}{v:AVal}{Y:Type}{H1:Y->Heap}(h:dS P G f avs m H (λr2 m2 H2=>m2=m'/\r2= .ret v/\∃y,H2=H1 y))
  (hto:∀y (C:Ctx) R w,MS C R (H1 y) w->∃R',R.le R'/\MS C R' H' w):dS P G f avs m H (λr2 m2 H2=>m2=m'/\r2= .ret v/\H2=H'):=by
 intro R w args u hG hm ha hu;refine(h R w args u hG hm ha hu).mono ?_
 rintro e u' w' ⟨res,m2,H2,R',⟨rfl,rfl,y,rfl⟩,⟨x,rfl,hr⟩,hu',hm'⟩
 obtain⟨R2,hle,hm2⟩:=hto y _ _ _ hm'
 exact⟨_,_,_,R2,⟨rfl,rfl,rfl⟩,⟨x,rfl,fx hle hr⟩,hu'.mono hle,hm2⟩
theorem QM {P:Program}[Tab P]{G:Glo}{f:FuncId}{avs:List AVal}{H:Heap}{i:Nat}{x:HEnt}{Qf:co->Heap->Prop}(hi:H[i]? =some x)(hs:ad P G f avs [x] Qf)(hne:∀r H1,Qf r H1->H1≠[]):
  ad P G f avs H (λr H'=>∃y t,Qf r (y::t)/\H'=H.set i y++t):=by
 have hp:=fd hi;refine iE (iD (H1:=[x]++H.eraseIdx i) (by simpa using hp.symm) (dO (H.eraseIdx i) hs)) ?_;rintro r H' ⟨H1',q,rfl⟩;cases H1' with
 |nil=>exact absurd rfl (hne _ _ q)
 |cons y t=>
  refine⟨H.set i y++t,?_,y,t,q,rfl⟩;have h1:=kq y hi;exact((Mp (l₁:=t) (l₂:=H.eraseIdx i)).cons y).trans (h1.append_right t)
def xO:List Nat->Heap->Heap
 |[],_=>[]
 |i::is,H=>match H[i]? with
  |some x=>x::xO is (H.eraseIdx i)
  |none=>[]
def uJ:List Nat->Heap->Heap
 |[],H=>H
 |i::is,H=>match H[i]? with
  |some _=>uJ is (H.eraseIdx i)
  |none=>H
theorem p5:∀(is:List Nat) (H:Heap),H.Perm (xO is H++uJ is H)
 |[],H=>N_ _
 |i::is,H=>by
  unfold xO uJ;cases h:H[i]? with
  |none=>exact N_ _
  |some x=>
   have h1:=fd h;exact h1.trans ((p5 is (H.eraseIdx i)).cons x)
theorem Dm (is:List Nat){P:Program}[Tab P]{G:Glo}{f:FuncId}{avs:List AVal}{H H1:Heap}{K Kp:AVal->Heap->Prop}{Qf:co->Heap->Prop}(hs:ad P G f avs H1 Qf)(e1:xO is H=H1)
  (kr:∀v H1',Qf (.ret v) H1'->∃H2,xO is H2=H1'/\uJ is H2=uJ is H/\K v H2) (kp:∀v H1',Qf (.panic v) H1'->∃H2,xO is H2=H1'/\uJ is H2=uJ is H/\Kp v H2):Cx P G f avs H K Kp:=by
 subst e1;have h1:=iD (p5 is H).symm (dO (uJ is H) hs);refine⟨λr H'=>match r with|.ret v=>K v H'|.panic v=>Kp v H',iE h1 ?_,λv H' h=>h,λv H' h=>h⟩;rintro r H' ⟨H1',q,rfl⟩;cases r with
 |ret v=>
  obtain⟨H2,g1,g2,k⟩:=kr v H1' q;refine⟨H2,?_,k⟩;have:=p5 is H2;rw[g1,g2] at this;exact this.symm
 |panic v=>
  obtain⟨H2,g1,g2,k⟩:=kp v H1' q;refine⟨H2,?_,k⟩;have:=p5 is H2;rw[g1,g2] at this;exact this.symm
theorem gL {R R':Seal}{a a' b:AVal}{x:Value}(hle:R.le R')(h:bn R (.tuple [a,b]) x)(ht:∀v,bn R a v->bn R' a' v):bn R' (.tuple [a',b]) x:=by
 obtain⟨⟨ws,e,u,t,e1,hu,u2,t2,e2,hu2,rfl⟩,h2⟩:=h;have k:=ht u ⟨hu.1,hu.2⟩;have k2:=fx hle (show bn R b u2 from⟨hu2.1,hu2.2⟩);exact⟨⟨ws,e,_,_,e1,⟨k.1,k.2⟩,_,_,e2,⟨k2.1,k2.2⟩,rfl⟩,h2⟩
theorem jB {R R':Seal}{cs:List AVal}{p:Nat}{a a':AVal}{v:Value}(hle:R.le R')(h:bn R (.agg cs) v)(hp:cs[p]? =some a)(ht:∀v,bI R' a [v]->bI R' a' [v]):bn R' (.agg (cs.set p a')) v:=
 ⟨sb ht (ec hle _ _ h.1) hp,h.2⟩
section
variable {P:Program} [Tab P] {C:Ctx} {n:Nat} {env:Env} {H:Heap} {Q:List Deferred->aL->Env->Heap->Prop} {G:Glo} {GL:List (Nat×List AVal)}
theorem ci {a b:Code}{X:Type}(hC:C.G=G)(hGL:ab G GL)(I:X->Env)(J:X->Heap)(Inv:X->Prop)(h1:gV P C n G GL a env H (iT (λe h=>Cy I J Inv e h) (Q C.D)))(h2:∀x,Inv x->gj P C n b (I x) (J x) Q):gj P C n (.seq a b) env H Q:=by
 refine fq (RS ((dg hC hGL _ _ _ _ h1).mono λx e h q=> ?_));cases x with
 |normal=>
  obtain⟨y,hy,hs,rfl⟩:=q.h
  exact λR a w hm hf=>h2 y hy R a w hm (hf.sub hs)
 |exit i=>exact q
 |goto i=>exact q
 |ret=>exact q
 |panic v=>exact q
theorem Vj {rs:List ResultVar}{Qf:co->Heap->Prop}(h:UZ P rs Qf .ret env H):Lv P G n rs env [] .ret H Qf:=by
 unfold Lv;rintro C R a w fn u D0 hC hrs hm hf rfl;obtain⟨vs,H'',hv,hs,q⟩:=h;obtain⟨y,hy,hr⟩:=dZ (fn:=fn) hm hf (by rw[hrs];exact hv);exact⟨y,hy,_,H'',R,q,⟨y,rfl,hr⟩,hm.drop hs⟩
end
end
section
def Sa (res:co)(H:Heap)(Qf:co->Heap->Prop):Prop:=∀(C:Ctx) (R:Seal) (w:World) (e:Ending),MS C R H w->iQ R res e->∃r2 H2 R',Qf r2 H2/\MS C R' H2 w/\iQ R' r2 e
theorem Gf {P:Program}{G:Glo}{f:FuncId}{avs:List AVal}{H:Heap}{Qf Qf':co->Heap->Prop}(h:ad P G f avs H Qf)(hq:∀r H',Qf r H'->Sa r H' Qf'):ad P G f avs H Qf':=by
 intro R w args hG hm ha;rcases h R w args hG hm ha with⟨h1,h2⟩|⟨x,w',h1,res,H',R',q,er,hm'⟩
 ·exact .inl ⟨h1,h2.mono λe w' ⟨res,H',R',q,er,hm'⟩=>let ⟨r2,H2,R2,q2,m2,e2⟩:=hq _ _ q _ _ _ _ hm' er;⟨r2,H2,R2,q2,e2,m2⟩⟩
 ·obtain⟨r2,H2,R2,q2,m2,e2⟩:=hq _ _ q _ _ _ _ hm' er;exact .inr ⟨x,w',h1,r2,H2,R2,q2,e2,m2⟩
end
section
theorem wM {t:TypeId}{a a':AVal}{H H':Heap}(hto:∀C:Ctx,To C 1 [(0,a)] H [(0,a')] H'):Sa (.ret (.iface t a)) H (λr H2=>r= .ret (.iface t a')/\H2=H'):=by
 rintro C R w e hm ⟨x,rfl,hx⟩;obtain⟨u,hu,h1,h2⟩:=bC hx rfl;have hu:x= .iface t u:=(List.cons.inj hu).1;subst hu;have hf:FS C.D 1 R [(0,a)] ⟨#[u],C.D⟩:=by
  refine⟨λk v hk=> ?_,rfl,rfl⟩;cases k with
  |zero=>cases hk;exact⟨u,rfl,h1,h2⟩
  |succ k=>cases hk
 obtain⟨R',hle,hm',hf'⟩:=hto C R _ w hm hf;obtain⟨y,hy,hr⟩:=hf'.fr 0 a' rfl;cases hy;exact⟨_,_,R',⟨rfl,rfl⟩,hm',_,rfl,q8 ⟨u,rfl,hr.1,hr.2⟩ rfl rfl⟩
attribute [local irreducible] bJ au aa ax aR ab ad dS Lv gj To
def fO (u:Value):List AVal:=[.int .u32 0,.int .i32 0,.int .u32 0,.raw .nilIface,.own 0 u]
theorem kW {G:Glo}(m:Nat)(f:Nat->AVal)(hm:m<=1000)(h2:m%2=0)(hs:ax 1 m f):ad prog G 212 [.list 1 m f] [] (λr H=>∃bl va vk vc,G6 m va vk/\r= .ret (.own 1 (pv bl 0))/\H=[.row (.slice va vk vc) none 1 m (fa m f),.cells bl (some 324) (fO (.slice va vk vc))]):=by
 refine aw func212 call212 λC hC hGL=> ?_;repeat' (first|(conv=>whnf);first|refine .w ?_|refine .v ?_|refine ez ?_ ?_<;>(intro hb;try exact dd hb)|apply aT|apply bP|(apply cR<;>intro hb)|(apply cX;intro hbd)|(apply cY;intro bl)|(apply dv;intro va vk vc hva)|(apply du;intro v)|(apply dw;intro bl cap hcap)|apply XQ|(apply dq<;>intro hnx)|exact True.intro|(apply pB;intro C hC)|apply pz|apply oY|(apply oZ;exact rfl)|(show Rt _ _ _;exact cP)|fail)
 all_goals try conv=>whnf
 exact⟨_,At _,bl,va,vk,vc,hva,rfl,rfl⟩
abbrev RN (br m vc:Nat)(cs:List AVal):HEnt:=.row (.slice (some ⟨br,0,none⟩) m vc) none 1 m cs
abbrev Zi (br m vc:Nat):List AVal:=fO (.slice (some ⟨br,0,none⟩) m vc)
abbrev Yh (br m vc:Nat):List AVal:=(Zi br m vc).set 1 (.int .i32 1)
abbrev ZV (bj:List AVal):AVal:=.iface 375 (.rop bj 0)
def G9 (G:Glo)(m:Nat)(cs:List AVal)(Fn:UInt8->ω)(ks:ω):Prop:=∀br bl vc,ad prog G 248 [.raw (pv bl 0)] [RN br m vc cs,.cells bl (some 324) (Yh br m vc)]
 (λr H=>∃bj,U1 Fn ks bj/\r= .ret (ZV bj)/\H=[RN br m vc cs,.cells bl (some 324) (Yh br m vc)])
theorem YR (a:AVal):∀R v,bn R a v→∀w,∃u,(Go.method (prog.types.size+Made.depth) 375 v "Replace").run prog w= .ok (337,u) w∧bn R a u:=by
 intro R v hv w
 exact⟨v,be,hv⟩
section
variable {G:Glo} {m:Nat} {cs:List AVal} {Fn:UInt8->ω} {ks:ω}
abbrev brR (bj:List AVal):List AVal:=[.int .u32 0,.int .i32 1,.int .u32 0,ZV bj,.raw (.slice none 0 0)]
abbrev brQ (bj:List AVal):List AVal:=[.int .u32 1,.int .i32 0,.int .u32 0,ZV bj,.raw (.slice none 0 0)]
theorem PF (hB:G9 G m cs Fn ks)(br bl vc:Nat):ad prog G 235 [.raw (pv bl 0)] [RN br m vc cs,.cells bl (some 324) (Yh br m vc)]
  (λr H=>∃y:{bj//U1 Fn ks bj},r= .ret (.tuple [])/\H=[RN br m vc cs,.cells bl (some 324) (brR y.1)]):=by
 have hGL:ab G []:=al;have e1:=hB br bl vc;unfold Yh Zi fO at*
 refine jx 1 func235 call235 rfl rfl rfl rfl hGL rfl ?_;intro C hC;refine an ?_;intros;refine⟨_,e1,?_,?_⟩
 ·rintro v' H2 ⟨bj,ht,e,rfl⟩;cases e;refine an ?_;intros
  exact⟨_,At _,⟨bj,ht⟩,rfl,rfl⟩
 ·rintro v' H2 ⟨bj,ht,e,rfl⟩
  cases e
theorem Xr (hB:G9 G m cs Fn ks)(br bl vc:Nat):ad prog G 234 [.raw (pv bl 0),.func (.func 235) [.raw (pv bl 0)] []] [RN br m vc cs,.cells bl (some 324) (Zi br m vc)]
  (λr H=>∃y:{bj//U1 Fn ks bj},r= .ret (.tuple [])/\H=[RN br m vc cs,.cells bl (some 324) (brQ y.1)]):=by
 have e1:=PF hB br bl vc;have e2:=KA (G:=G) (b:=bl) (off:=0) (fid:=235) (eT:=some 324) (cs:=Zi br m vc) (T:=[RN br m vc cs]) (Y:={bj//U1 Fn ks bj}) (cs2:=λy=>brR y.1) (T2:=λ_=>[RN br m vc cs]) (l1:=[.raw (pv bl 0)]) (l2:=[]) rfl rfl (λ_=>rfl) (λ_=>rfl) rfl rfl
  (by
   refine iE (iD (List.Perm.swap _ _ _) e1) ?_;rintro r H ⟨y,rfl,rfl⟩;exact⟨_,List.Perm.swap _ _ _,y,rfl,rfl⟩)
 refine iE (iD (List.Perm.swap _ _ _) e2) ?_;rintro r H ⟨y,rfl,rfl⟩;exact⟨_,List.Perm.swap _ _ _,y,rfl,rfl⟩
theorem uK (hB:G9 G m cs Fn ks)(hk:ks.length<=100)(br bl vc:Nat)(s:ω)(hl:s.length<=2000000)(hct:∀c,ai prog G 224 [.str s,.str [c]] (.int .i64 (s.countP (· ==c):Nat))):
  ad prog G 213 [.raw (pv bl 0),.str s] [RN br m vc cs,.cells bl (some 324) (Zi br m vc)] (λr H=>r= .ret (.str (s.flatMap Fn))/\H=[]):=by
 have hGL:ab G []:=al;have e1:=Xr hB br bl vc;refine jx 1 func213 call213 rfl rfl rfl rfl hGL rfl ?_;intro C hC;refine an ?_;intros;refine⟨_,e1,?_,λv' H' ⟨y,e,_⟩=>by cases e⟩;rintro v' H' ⟨⟨bj,ht⟩,e,rfl⟩;cases e;have e3:=UE (G:=G) ht hk s hl hct;refine an ?_;intros;refine iv 337 (.rop bj 0) (YR _) (bG e3 ?_);exact eK
end
end
section
attribute [local irreducible] bJ au ax aR ab ad dS Lv gj To
def rL (i j k:Nat)(a b c t:AVal):List AVal:=(((List.replicate 256 (.raw (.slice none 0 0))).set i a).set j b).set k c++[t]
theorem Nz {G:Glo}(br bl vc:Nat):ad prog G 248 [.raw (pv bl 0)] [.row (.slice (some ⟨br,0,none⟩) 6 vc) none 1 6 [.str [94],.str [94,94],.str [10],.str [94,110],.str [34],.str [94,39]],.cells bl (some 324) ((fO (.slice (some ⟨br,0,none⟩) 6 vc)).set 1 (.int .i32 1))]
  (λr H=>∃va vk vt bz b1 c1 b2 c2 b3 c3,G6 3 va vk/\r= .ret (.iface 375 (.own 3 (pv bz 0)))/\H=[.row (.slice (some ⟨br,0,none⟩) 6 vc) none 1 6 [.str [94],.str [94,94],.str [10],.str [94,110],.str [34],.str [94,39]],.cells bl (some 324) ((fO (.slice (some ⟨br,0,none⟩) 6 vc)).set 1 (.int .i32 1)),
   .row (.slice va vk vt) (some 9) 1 3 [.str [34],.str [10],.str [94]],.cells bz (some 374) (rL 34 10 94 (.own 4 (.slice (some ⟨b1,0,none⟩) 2 c1)) (.own 5 (.slice (some ⟨b2,0,none⟩) 2 c2)) (.own 6 (.slice (some ⟨b3,0,none⟩) 2 c3)) (.own 2 (.slice va vk vt))),.buf b1 [94,39] c1,.buf b2 [94,110] c2,.buf b3 [94,94] c3]):=by
 have hGL:ab G []:=al;unfold fO;refine jx 1 func248 call248 rfl rfl rfl rfl hGL rfl ?_;intro C hC;refine an ?_;intros;have c0:([.str [94],.str [94,94],.str [10],.str [94,110],.str [34],.str [94,39]]:List AVal)[0]? =some (.str [94]):=rfl;have r0:bZ (.slice (some ⟨br,0,none⟩) 6 vc) br 6/\0<6*1:=⟨⟨_,rfl⟩,b_⟩;have c1:([.str [94],.str [94,94],.str [10],.str [94,110],.str [34],.str [94,39]]:List AVal)[1]? =some (.str [94,94]):=rfl;have r1:bZ (.slice (some ⟨br,0,none⟩) 6 vc) br 6/\1<6*1:=⟨⟨_,rfl⟩,b_⟩;have c2:([.str [94],.str [94,94],.str [10],.str [94,110],.str [34],.str [94,39]]:List AVal)[2]? =some (.str [10]):=rfl;have r2:bZ (.slice (some ⟨br,0,none⟩) 6 vc) br 6/\2<6*1:=⟨⟨_,rfl⟩,b_⟩;have c3:([.str [94],.str [94,94],.str [10],.str [94,110],.str [34],.str [94,39]]:List AVal)[3]? =some (.str [94,110]):=rfl
 have r3:bZ (.slice (some ⟨br,0,none⟩) 6 vc) br 6/\3<6*1:=⟨⟨_,rfl⟩,b_⟩
 have c4:([.str [94],.str [94,94],.str [10],.str [94,110],.str [34],.str [94,39]]:List AVal)[4]? =some (.str [34]):=rfl
 have r4:bZ (.slice (some ⟨br,0,none⟩) 6 vc) br 6/\4<6*1:=⟨⟨_,rfl⟩,b_⟩
 have c5:([.str [94],.str [94,94],.str [10],.str [94,110],.str [34],.str [94,39]]:List AVal)[5]? =some (.str [94,39]):=rfl
 have r5:bZ (.slice (some ⟨br,0,none⟩) 6 vc) br 6/\5<6*1:=⟨⟨_,rfl⟩,b_⟩
 refine rds hC hGL 4 ?_
 refine an ?_
 intros
 refine tQ (m:=3) hC hGL rfl rfl a_ rfl rfl rfl rfl rfl rfl rfl (λbt=> ?_)
 refine an ?_
 intros
 refine rds hC hGL 4 ?_
 refine an ?_
 intros
 refine aY hC hGL (gv [34] rfl (by intro v hv;simp only[p_,t_,or_false] at hv;omega) rfl rfl rfl rfl rfl rfl) rfl rfl ?_
 refine an ?_
 intros
 refine aY hC hGL (gv [10] rfl (by intro v hv;simp only[p_,t_,or_false] at hv;omega) rfl rfl rfl rfl rfl rfl) rfl rfl ?_
 refine an ?_
 intros
 refine aY hC hGL (gv [94] rfl (by intro v hv;simp only[p_,t_,or_false] at hv;omega) rfl rfl rfl rfl rfl rfl) rfl rfl ?_
 refine an ?_
 intros
 exact⟨_,At _,_,_,_,_,_,_,_,_,_,_,by assumption,rfl,rfl⟩
end
section
theorem fP {s:ω}{j:Nat}(h:j<s.length):aa s j=s[j].toNat:=by
 simp[aa,List.getD,h]
def encF (c:UInt8):ω:=if c=94 then[94,94] else if c=10 then[94,110] else if c=34 then[94,39] else[c]
def fX (s:ω):ω:=s.flatMap encF
theorem Xn:encF 94=[94,94]:=rfl
theorem Xp:encF 10=[94,110]:=rfl
theorem Xo:encF 34=[94,39]:=rfl
theorem Gq {c:UInt8}(h1:c.toNat≠94)(h2:c.toNat≠10)(h3:c.toNat≠34):encF c=[c]:=by
 unfold encF;rw[if_neg (by rintro rfl;exact h1 rfl),if_neg (by rintro rfl;exact h2 rfl),if_neg (by rintro rfl;exact h3 rfl)]
theorem Q1:fX []=[]:=rfl
theorem Nc (c:UInt8)(s:ω):fX (c::s)=encF c++fX s:=rfl
theorem Q3 (s t:ω):fX (s++t)=fX s++fX t:=by simp[fX]
theorem Q4 (c:UInt8):1<=(encF c).length/\(encF c).length<=2:=by
 unfold encF
 (repeat' split)<;>simp
theorem sO (s:ω):s.length<=(fX s).length/\(fX s).length<=2*s.length:=by
 induction s with
 |nil=>exact⟨Nat.le_refl _,Nat.le_refl _⟩
 |cons c t ih=>
  have:=Q4 c;rw[Nc,d_,j_];omega
def wd (N:Nat)(v:AVal)(i j k:Nat)(a b c t:AVal):List AVal:=(((List.replicate N v).set i a).set j b).set k c++[t]
theorem GN (N:Nat)(v:AVal)(i j k:Nat)(a b c t:AVal):(wd N v i j k a b c t)[N]? =some t:=by
 unfold wd;rw[G_ (by simp)];simp
theorem GM {N:Nat}{v:AVal}{i j k n:Nat}{a b c t:AVal}(hn:n<N):(wd N v i j k a b c t)[n]? =some (if n=k then c else if n=j then b else if n=i then a else v):=by
 unfold wd;rw[H_ (by simpa using hn)];by_cases h1:n=k
 ·subst h1;rw[List.getElem?_set_self (by simpa using hn),if_pos rfl]
 ·rw[if_neg h1,M_ (Ne.symm h1)];by_cases h2:n=j
  ·subst h2;rw[List.getElem?_set_self (by simpa using hn),if_pos rfl]
  ·rw[if_neg h2,M_ (Ne.symm h2)];by_cases h3:n=i
   ·subst h3;rw[List.getElem?_set_self (by simpa using hn),if_pos rfl]
   ·rw[if_neg h3,M_ (Ne.symm h3)];simp[hn]
theorem Eh (i j k:Nat)(a b c t:AVal):(rL i j k a b c t)[256]? =some t:=GN 256 _ i j k a b c t
theorem oJ {i j k n:Nat}{a b c t:AVal}(hn:n<256):(rL i j k a b c t)[n]? =some (if n=k then c else if n=j then b else if n=i then a else .raw (.slice none 0 0)):=GM (N:=256) hn
end
section
structure Pr where
 n:ω
 vs:List ω
def Pr.z:Pr:=⟨[],[]⟩
instance:Inhabited Pr:=⟨Pr.z⟩
structure Ln where
 g:ω
 n:ω
 ps:List Pr
 v:ω
def gg (ps:List Pr)(i:Nat):AVal:=.agg [.str (ps.getD i Pr.z).n,.list 1 (ps.getD i Pr.z).vs.length (aB (ps.getD i Pr.z).vs)]
def Ln.A (p:Ln):AVal:=.agg [.str p.g,.str p.n,.list 2 p.ps.length (gg p.ps),.str p.v]
structure Ln.OK (N:Nat) (p:Ln):Prop where
 g:p.g.length<=N
 n:p.n.length<=N
 v:p.v.length<=N
 ps:p.ps.length<=N
 q:∀k,(p.ps.getD k Pr.z).n.length<=1100000/\(p.ps.getD k Pr.z).vs.length<=N/\Lib.lens (p.ps.getD k Pr.z).vs<=N
structure Ln.Fit (p:Ln):Prop where
 g:p.g.length<=10000
 n:p.n.length<=10000
 v:p.v.length<=140737488355328
 ps:p.ps.length<=10000
 q:∀k,(p.ps.getD k Pr.z).n.length<=1100000/\(p.ps.getD k Pr.z).vs.length<=10000/\Lib.lens (p.ps.getD k Pr.z).vs<=10000
theorem Ln.OK.fit {p:Ln}(h:p.OK 10000):p.Fit:=⟨h.g,h.n,by have:=h.v;omega,h.ps,h.q⟩
theorem Ln.OK.mono {N M:Nat}(hN:N<=M){p:Ln}(h:p.OK N):p.OK M:=⟨aai h.g hN,aai h.n hN,aai h.v hN,aai h.ps hN,λk=>⟨(h.q k).1,aai (h.q k).2.1 hN,aai (h.q k).2.2 hN⟩⟩
theorem bL {p:Nat->Prop}{k:Nat}(h:∀j,j<k->p j)(hk:p k):∀j,j<k+1->p j:=λj hj=>by
 rcases aaj j k with g|g
 ·exact h j g
 ·rw[show j=k by omega];exact hk
end
section
def ru (c:Bool)(s:ω):ω:=if c then fX s else s
def kO (c:Bool)(s:ω):Bool:=fo false (ru c s)&&decide (aS (ru c s) 34<0)
def tO (c:Bool)(q:Pr):Int:=if isS q.n=false then 5 else if q.vs.length=0 then 8 else if q.vs.all (kO c) then 0 else 3
def lV (c:Bool):List Pr->Nat->Err
 |[],_=>.none
 |q::l,i=>if tO c q=0 then lV c l (i+1) else .atp (tO c q) i
def Ln.E (c:Bool)(p:Ln):Err:=if isS p.n=false\/(p.g.length≠0/\isS p.g=false) then .errno 5
 else if 20<p.ps.length then .errno 4
 else match lV c p.ps 0 with
  |.none=>if fo false p.v then .none else .errno 3
  |x=>x
def sg (c:Int):Bool:=decide (c=44\/c=59\/c=58)
def fU (c:Bool)(s:ω):ω:=if gh sg (ru c s)<0 then ru c s else 34::ru c s++[34]
def Tp (c:Bool)(q:Pr):ω:=59::q.n++[61]++Lib.join (q.vs.map (fU c)) [44]
def pf (p:Ln):ω:=if p.g.length=0 then p.n else p.g++[46]++p.n
def Ln.txt (c:Bool)(p:Ln):ω:=pf p++p.ps.flatMap (Tp c)++[58]++p.v
def Ln.T (c:Bool)(p:Ln):ω:=match p.E c with
 |.none=>p.txt c
 |_=>[]
theorem um {c:Bool}:∀{l:List Pr} (i k:Nat),(∀j,j<k->j<l.length->tO c (l.getD j Pr.z)=0)->(k<l.length->tO c (l.getD k Pr.z)≠0)->lV c l i=if k<l.length then .atp (tO c (l.getD k Pr.z)) ((i+k:Nat):Int) else .none
 |[],i,k,_,_=>by simp[lV]
 |q::l,i,0,_,h=>by
  have h:=h (by simp);rw[if_pos (by simp)];simp only[lV];rw[if_neg (by simpa using h)];simp
 |q::l,i,k+1,h1,h2=>by
  have h0:tO c q=0:=by simpa using h1 0 a_ (by simp)
  simp only[lV];rw[if_pos h0,um (i+1) k (λj hj hl=>by simpa using h1 (j+1) a_ (by simpa using hl)) (λh=>by simpa using h2 (by simpa using h))];have e:i+1+k=i+(k+1):=by omega
  simp only[j_,List.getD_cons_succ,Nat.add_lt_add_iff_right,e]
theorem Ub {c:Bool}{l:List Pr}{k:Nat}(hk:k<l.length)(h:∀j,j<k->tO c (l.getD j Pr.z)=0)(hb:tO c (l.getD k Pr.z)≠0):lV c l 0= .atp (tO c (l.getD k Pr.z)) k:=by
 rw[um 0 k (λj hj _=>h j hj) (λ_=>hb),if_pos hk];simp
theorem Bq {c:Bool}{l:List Pr}{k:Nat}(hk:l.length<=k)(h:∀j,j<k->tO c (l.getD j Pr.z)=0):lV c l 0= .none:=by
 rw[um 0 k (λj hj _=>h j hj) (λh=>absurd h a_),if_neg a_]
def PY (c:Bool)(l:List ω)(j:Nat):Prop:=∀i,i<j->kO c (l.getD i [])=true
theorem AZ {c:Bool}{l:List ω}{j:Nat}(h:PY c l j)(k:kO c (l.getD j [])=true):PY c l (j+1):=λi hi=>by
 rcases aaj i j with g|g
 ·exact h i g
 ·rw[show i=j by omega];exact k
theorem Fx {c:Bool}{l:List ω}{j:Nat}(hj:l.length<=j)(h:PY c l j):l.all (kO c)=true:=by
 rw[Bw];intro x hx
 obtain⟨i,hi,rfl⟩:=D_ hx
 have:=h i a_
 rwa [f_,y_ hi] at this
theorem Fw {c:Bool}{l:List ω}{j:Nat}(hj:j<l.length)(h:kO c (l.getD j [])=false):l.all (kO c)=false:=by
 rw[List.all_eq_false];refine⟨l[j],K_ hj,?_⟩;rw[f_,y_ hj] at h;simpa using h
theorem E3 {c:Bool}{q:Pr}(h:isS q.n=false):tO c q=5:=by unfold tO;rw[if_pos h]
theorem Kw {c:Bool}{q:Pr}(h:isS q.n=true)(k:q.vs.length=0):tO c q=8:=by unfold tO;rw[if_neg (by rw[h];decide),if_pos k]
theorem Ve {c:Bool}{q:Pr}(h:isS q.n=true)(k:q.vs.length≠0)(m:q.vs.all (kO c)=false):tO c q=3:=by unfold tO;rw[if_neg (by rw[h];decide),if_neg k,if_neg (by rw[m];decide)]
theorem Vf {c:Bool}{q:Pr}(h:isS q.n=true)(k:q.vs.length≠0)(m:q.vs.all (kO c)=true):tO c q=0:=by unfold tO;rw[if_neg (by rw[h];decide),if_neg k,if_pos m]
theorem MP {l:List ω}(h:l≠[])(x sep:ω):Lib.join (l++[x]) sep=Lib.join l sep++sep++x:=by
 cases l with
 |nil=>exact absurd rfl h
 |cons y r=>
  rw[Lu,Lib.join_cons,Lib.join_cons];simp[Lib.joinTail]
def Ao (c:Bool)(vs:List ω)(j:Nat):ω:=match j with
 |0=>[]
 |j+1=>61::Lib.join ((vs.take (j+1)).map (fU c)) [44]
theorem D7 {c:Bool}{vs:List ω}{j:Nat}(hj:j<vs.length):Ao c vs (j+1)=Ao c vs j++(if j=0 then[61] else[44])++fU c (vs.getD j []):=by
 have e:vs.take (j+1)=vs.take j++[vs.getD j []]:=by
  rw[x_ hj,f_,y_ hj];rfl
 cases j with
 |zero=>
  simp only[Ao,e,aaa,L_,S_,Z_,Lib.join_one,aap]
  rfl
 |succ j=>
  simp only[Ao]
  rw[e,Nm,S_,Z_,MP (λh=>by
   have:=congrArg List.length h
   simp only[C_,i_,E_] at this
   omega),if_neg a_]
  simp only[Lu,An]
theorem Sx {c:Bool}{q:Pr}(h:q.vs.length≠0):Tp c q=59::q.n++Ao c q.vs q.vs.length:=by
 unfold Tp;cases hv:q.vs with
 |nil=>rw[hv] at h;exact absurd rfl h
 |cons x r=>
  have e:(x::r).take (r.length+1)=x::r:=u_ (by simp);simp only[j_,Ao,e,An];rfl
theorem Dj (c:Bool)(s:ω):(ru c s).length<=2*s.length:=by
 unfold ru;split
 ·exact(sO s).2
 ·omega
theorem E0 (c:Bool)(s:ω):(fU c s).length<=2*s.length+2:=by
 have:=Dj c s;unfold fU;split
 ·omega
 ·simp only[Lu,j_,d_,E_];omega
theorem sq (c:Bool):∀l:List ω,Lib.lens (l.map (fU c))<=2*Lib.lens l+2*l.length
 |[]=>by simp[Lib.lens]
 |x::r=>by
  have h1:=sq c r;have h2:=E0 c x;have e1:Lib.lens ((x::r).map (fU c))=(fU c x).length+Lib.lens (r.map (fU c)):=by simp[Lib.lens]
  have e2:Lib.lens (x::r)=x.length+Lib.lens r:=by simp[Lib.lens]
  rw[e1,e2,j_];omega
theorem yo (l:List ω):(Lib.join l [44]).length<=Lib.lens l+l.length:=by
 cases l with
 |nil=>simp[Lib.join_nil]
 |cons x r=>
  have e2:Lib.lens (x::r)=x.length+Lib.lens r:=by simp[Lib.lens]
  rw[Lib.join_cons,d_,Lib.joinTail_length,e2,j_];simp only[j_,E_];omega
theorem Sw (c:Bool)(vs:List ω)(j:Nat):(Ao c vs j).length<=1+2*Lib.lens vs+3*vs.length:=by
 cases j with
 |zero=>simp[Ao]
 |succ j=>
  simp only[Ao,j_];have h1:=yo ((vs.take (j+1)).map (fU c));have h2:=sq c (vs.take (j+1));have h3:=Lib.lens_take_le vs (j+1);rw[C_,i_] at h1;rw[i_] at h2;omega
theorem Kv (c:Bool)(q:Pr):(Tp c q).length<=2+q.n.length+2*Lib.lens q.vs+3*q.vs.length:=by
 unfold Tp;have h1:=yo (q.vs.map (fU c));have h2:=sq c q.vs;rw[C_] at h1;simp only[j_,d_,E_,Lu];omega
def qL (c:Bool)(ps:List Pr)(k:Nat):ω:=(ps.take k).flatMap (Tp c)
theorem xI {c:Bool}{ps:List Pr}{k:Nat}(hk:k<ps.length):qL c ps (k+1)=qL c ps k++Tp c (ps.getD k Pr.z):=by
 have e:ps.take (k+1)=ps.take k++[ps.getD k Pr.z]:=by
  rw[x_ hk,f_,y_ hk];rfl
 unfold qL;rw[e,List.flatMap_append];simp
theorem CG {c:Bool}{ps:List Pr}{N:Nat}(h:∀k,(ps.getD k Pr.z).n.length<=N/\(ps.getD k Pr.z).vs.length<=N/\Lib.lens (ps.getD k Pr.z).vs<=N):∀k,k<=ps.length->(qL c ps k).length<=k*(2+6*N)
 |0,_=>by simp[qL]
 |k+1,hk=>by
  have ih:=CG (c:=c) h k a_;have h1:=Kv c (ps.getD k Pr.z);have h2:=h k;rw[xI a_,d_,U_];omega
theorem JY (c:Bool)(p:Ln):p.txt c=pf p++qL c p.ps p.ps.length++[58]++p.v:=by
 unfold Ln.txt qL;rw[u_ (Nat.le_refl _)]
theorem Ln.E_5 {c:Bool}{p:Ln}(h:isS p.n=false\/(p.g.length≠0/\isS p.g=false)):p.E c= .errno 5:=by unfold Ln.E;rw[if_pos h]
theorem Ln.E_4 {c:Bool}{p:Ln}(h1:isS p.n=true)(h2:p.g.length=0\/isS p.g=true)(h:20<p.ps.length):p.E c= .errno 4:=by
 unfold Ln.E;rw[if_neg (by rintro(k|⟨k1,k2⟩);rw[h1] at k;cases k;rcases h2 with h2|h2;exact k1 h2;rw[h2] at k2;cases k2),if_pos h]
theorem Ln.E_f {c:Bool}{p:Ln}(h1:isS p.n=true)(h2:p.g.length=0\/isS p.g=true)(h:p.ps.length<=20):p.E c=match lV c p.ps 0 with
  |.none=>if fo false p.v then .none else .errno 3
  |x=>x:=by
 unfold Ln.E;rw[if_neg (by rintro(k|⟨k1,k2⟩);rw[h1] at k;cases k;rcases h2 with h2|h2;exact k1 h2;rw[h2] at k2;cases k2),if_neg a_]
theorem Ln.E_at {c:Bool}{p:Ln}(h1:isS p.n=true)(h2:p.g.length=0\/isS p.g=true)(h:p.ps.length<=20){k:Nat}(hk:k<p.ps.length)(hj:∀j,j<k->tO c (p.ps.getD j Pr.z)=0)(hb:tO c (p.ps.getD k Pr.z)≠0):p.E c= .atp (tO c (p.ps.getD k Pr.z)) k:=by
 rw[Ln.E_f h1 h2 h,Ub hk hj hb]
theorem Ln.E_3 {c:Bool}{p:Ln}(h1:isS p.n=true)(h2:p.g.length=0\/isS p.g=true)(h:p.ps.length<=20){k:Nat}(hk:p.ps.length<=k)(hj:∀j,j<k->tO c (p.ps.getD j Pr.z)=0)(hv:fo false p.v=false):p.E c= .errno 3:=by
 rw[Ln.E_f h1 h2 h,Bq hk hj]
 simp only[hv,Bu,aaq]
theorem Ln.E_0 {c:Bool}{p:Ln}(h1:isS p.n=true)(h2:p.g.length=0\/isS p.g=true)(h:p.ps.length<=20){k:Nat}(hk:p.ps.length<=k)(hj:∀j,j<k->tO c (p.ps.getD j Pr.z)=0)(hv:fo false p.v=true):p.E c= .none:=by
 rw[Ln.E_f h1 h2 h,Bq hk hj];simp only[hv,aap]
def Sk (c:Bool)(q:Pr)(j:Nat)(e:Int):Prop:=(isS q.n=false/\e=5)\/(isS q.n=true/\q.vs.length=0/\e=8)\/(isS q.n=true/\q.vs.length≠0/\((e=0/\PY c q.vs j)\/(e=3/\q.vs.all (kO c)=false)))
theorem p4 {c:Bool}{q:Pr}{j:Nat}{e:Int}(h:Sk c q j e)(hj:q.vs.length<=j):e=tO c q:=by
 rcases h with⟨h1,h2⟩|⟨h1,h2,h3⟩|⟨h1,h2,⟨h3,h4⟩|⟨h3,h4⟩⟩
 ·rw[E3 h1,h2]
 ·rw[Kw h1 h2,h3]
 ·rw[Vf h1 h2 (Fx hj h4),h3]
 ·rw[Ve h1 h2 h4,h3]
theorem xL {c:Bool}{q:Pr}{j:Nat}{e:Int}(h:Sk c q j e)(he:e≠0):Sk c q (j+1) e:=by
 rcases h with h|h|⟨h1,h2,⟨h3,h4⟩|h3⟩
 ·exact .inl h
 ·exact .inr (.inl h)
 ·exact absurd h3 he
 ·exact .inr (.inr ⟨h1,h2,.inr h3⟩)
theorem Ii {c:Bool}{q:Pr}{j:Nat}{e:Int}(h:Sk c q j e)(he:e=0)(hm:kO c (q.vs.getD j [])=true):Sk c q (j+1) e:=by
 rcases h with h|h|⟨h1,h2,⟨h3,h4⟩|h3⟩
 ·exact absurd (he.symm.trans h.2) b_
 ·exact absurd (he.symm.trans h.2.2) b_
 ·exact .inr (.inr ⟨h1,h2,.inl ⟨h3,AZ h4 hm⟩⟩)
 ·exact absurd (he.symm.trans h3.1) b_
theorem CI {c:Bool}{q:Pr}{j:Nat}{e:Int}(h:Sk c q j e)(he:e=0)(hj:j<q.vs.length)(hm:kO c (q.vs.getD j [])=false):Sk c q (j+1) 3:=by
 rcases h with h|h|⟨h1,h2,⟨h3,h4⟩|h3⟩
 ·exact absurd (he.symm.trans h.2) b_
 ·exact absurd (he.symm.trans h.2.2) b_
 ·exact .inr (.inr ⟨h1,h2,.inr ⟨rfl,Fw hj hm⟩⟩)
 ·exact absurd (he.symm.trans h3.1) b_
end
section
def Ng (d:UInt8):Option UInt8:=if d=94 then some 94 else if d=110 then some 10 else if d=39 then some 34 else none
def cB:ω->ω
 |[]=>[]
 |[c]=>[c]
 |c::d::t=>match (if c=94 then Ng d else none) with
  |some e=>e::cB t
  |none=>c::cB (d::t)
theorem Gw:cB []=[]:=rfl
theorem Ni {c d:UInt8}{t:ω}(h:c≠94\/Ng d=none):cB (c::d::t)=c::cB (d::t):=by
 have:(if c=94 then Ng d else none)=none:=by
  rcases h with h|h
  ·rw[if_neg h]
  ·rw[h];split<;>rfl
 rw[cB,this]
theorem Nh {d e:UInt8}{t:ω}(h:Ng d=some e):cB (94::d::t)=e::cB t:=by
 have:(if(94:UInt8)=94 then Ng d else none)=some e:=by rw[if_pos rfl,h]
 rw[cB,this]
theorem JW {c:UInt8}{k:Nat}(hk:k<256):c=UInt8.ofNat k↔c.toNat=k:=by
 constructor
 ·rintro rfl;rw[UInt8.toNat_ofNat_of_lt' hk]
 ·intro h;rw[<-h,UInt8.ofNat_toNat]
theorem oa {s:ω}{i:Nat}(h:i<s.length)(hn:aa s i≠94\/s.length<=i+1\/(aa s (i+1)≠94/\aa s (i+1)≠110/\aa s (i+1)≠39)):
  cB (s.drop i)=(s.drop i).take 1++cB (s.drop (i+1)):=by
 rw[A_ h];rcases aaj (i+1) s.length with h2|h2
 ·rw[A_ h2];rw[fP h,fP h2] at hn;rw[Ni]
  ·rfl
  ·rcases hn with hn|hn|⟨h3,h4,h5⟩
   ·left;intro e;rw[e] at hn;exact hn rfl
   ·omega
   ·right;unfold Ng;rw[if_neg (λe=>h3 (by rw[e];rfl)),if_neg (λe=>h4 (by rw[e];rfl)),if_neg (λe=>h5 (by rw[e];rfl))]
 ·rw[List.drop_eq_nil_of_le h2];rfl
theorem v6 {s:ω}{i:Nat}(h:i+1<s.length)(h0:aa s i=94){e:UInt8}(h1:(aa s (i+1)=94/\e=94)\/(aa s (i+1)=110/\e=10)\/(aa s (i+1)=39/\e=34)):
  cB (s.drop i)=e::cB (s.drop (i+2)):=by
 rw[A_ (by omega:i<s.length),A_ h];rw[fP a_] at h0;rw[fP h] at h1;have e0:s[i]=94:=(JW b_).2 h0;rw[e0];refine Nh ?_;rcases h1 with⟨h1,rfl⟩|⟨h1,rfl⟩|⟨h1,rfl⟩
 ·rw[show s[i+1]=94 from(JW b_).2 h1];rfl
 ·rw[show s[i+1]=110 from(JW b_).2 h1];rfl
 ·rw[show s[i+1]=39 from(JW b_).2 h1];rfl
theorem sR:∀s:ω,(cB s).length<=s.length
 |[]=>Nat.le_refl _
 |[_]=>Nat.le_refl _
 |c::d::t=>by
  have h1:=sR t;have h2:=sR (d::t);rw[cB];split
  ·simp only[j_] at*;omega
  ·simp only[j_] at*;omega
end
section
inductive PR (α:Type) where
 |ok (v:α)
 |bad (e:Int) (p:Nat)
def eZ (p:Int->Bool)(s:ω)(a:Nat):Nat:=
 if a<s.length/\p (aa s a:Int)=true then eZ p s (a+1) else a
termination_by s.length-a
section
variable {p:Int->Bool} {s:ω}
theorem rO {a:Nat}(h:a<s.length)(k:p (aa s a:Int)=true):eZ p s a=eZ p s (a+1):=by
 rw[eZ,if_pos ⟨h,k⟩]
theorem oO {a:Nat}(h:s.length<=a):eZ p s a=a:=by
 rw[eZ,if_neg a_]
theorem nG {a:Nat}(h:p (aa s a:Int)=false):eZ p s a=a:=by
 rw[eZ,if_neg (by rw[h];simp)]
theorem wY:∀(n a:Nat),s.length-a<=n->a<=eZ p s a/\(a<=s.length->eZ p s a<=s.length)/\(∀j,a<=j->j<eZ p s a->p (aa s j:Int)=true)/\(eZ p s a<s.length->p (aa s (eZ p s a):Int)=false)
 |n,a,hn=>by
  by_cases h:a<s.length
  ·cases k:p (aa s a:Int) with
   |true=>
    cases n with
    |zero=>omega
    |succ n=>
     have ih:=wY n (a+1) a_;rw[rO h k];refine⟨a_,λ_=>ih.2.1 a_,λj h1 h2=> ?_,ih.2.2.2⟩;rcases aaj a j with g|g
     ·exact ih.2.2.1 j a_ h2
     ·rw[show j=a by omega];exact k
   |false=>
    rw[nG k];exact⟨Nat.le_refl _,id,λj h1 h2=>by omega,λ_=>k⟩
  ·rw[oO a_];exact⟨Nat.le_refl _,id,λj h1 h2=>by omega,λh2=>absurd h2 h⟩
theorem J5 (a:Nat):a<=eZ p s a:=(wY _ a (Nat.le_refl _)).1
theorem B8 {a:Nat}(h:a<=s.length):eZ p s a<=s.length:=(wY _ a (Nat.le_refl _)).2.1 h
end
def eJ (s:ω)(a:Nat)(c:Int):Bool:=decide (a<s.length/\(aa s a:Int)=c)
theorem cK {s:ω}{a:Nat}{c:Int}:eJ s a c=true↔a<s.length/\(aa s a:Int)=c:=by simp[eJ]
theorem LI {s:ω}{a:Nat}{c:Int}:eJ s a c=false↔¬(a<s.length/\(aa s a:Int)=c):=by simp only[eJ,aaf]
def bF (s:ω)(a:Nat):PR (ω×Nat):=
 if isS ((s.take (eZ aU s a)).drop a) then .ok ((s.take (eZ aU s a)).drop a,eZ aU s a) else .bad 5 a
def NW (c:Bool)(s:ω):ω:=if c then cB s else s
def Aa (q:Bool)(c:Int):Bool:=decide (c=34\/(q=false/\(c=44\/c=59\/c=58)))
theorem Jg {q:Bool}{c:Int}:Aa q c=true↔(c=34\/(q=false/\(c=44\/c=59\/c=58))):=by simp[Aa]
theorem Xl {q:Bool}{c:Int}:Aa q c=false↔¬(c=34\/(q=false/\(c=44\/c=59\/c=58))):=by simp only[Aa,aaf]
def NU (q:Bool)(c:Int):Bool:= !Aa q c&& !iJ false c
def gW (s:ω)(a:Nat):Nat:=if eJ s a 34 then a+1 else a
def mj (s:ω)(a:Nat):Nat:=eZ (NU (eJ s a 34)) s (gW s a)
def cw (c:Bool)(s:ω)(a:Nat):PR (ω×Nat):=
 if mj s a<s.length/\Aa (eJ s a 34) (aa s (mj s a):Int)=false then .bad 3 (mj s a)
 else if eJ s a 34=false then .ok (NW c ((s.take (mj s a)).drop (gW s a)),mj s a)
 else if mj s a<s.length then .ok (NW c ((s.take (mj s a)).drop (gW s a)),mj s a+1)
 else .bad 7 (mj s a)
theorem rG (s:ω)(a:Nat):a<=gW s a/\gW s a<=a+1/\(a<=s.length->gW s a<=s.length):=by
 unfold gW;split
 ·rename_i h;have:=(cK.1 h).1;omega
 ·omega
theorem jg {c:Bool}{s v:ω}{a b:Nat}(h:cw c s a= .ok (v,b)):a<=b/\(a<=s.length->b<=s.length):=by
 have h1:=rG s a;have h2:gW s a<=mj s a:=J5 _;have h3:gW s a<=s.length->mj s a<=s.length:=B8;unfold cw at h;split at h
 ·cases h
 ·split at h
  ·cases h;omega
  ·split at h
   ·cases h;omega
   ·cases h
def ei (c:Bool)(s:ω)(a:Nat)(acc:List ω):PR (List ω×Nat):=
 match cw c s a with
 |.bad e p=>.bad e p
 |.ok (v,b)=>if h:a<=b/\b<s.length/\aa s b=44 then ei c s (b+1) (acc++[v]) else .ok (acc++[v],b)
termination_by s.length-a
theorem gH {c:Bool}{s:ω}{a:Nat}{acc:List ω}{e:Int}{p:Nat}(h:cw c s a= .bad e p):ei c s a acc= .bad e p:=by
 rw[ei,h]
theorem mX {c:Bool}{s v:ω}{a b:Nat}{acc:List ω}(h:cw c s a= .ok (v,b))(hb:eJ s b 44=true):ei c s a acc=ei c s (b+1) (acc++[v]):=by
 have h1:=jg h;have h2:=cK.1 hb;rw[ei,h];dsimp only
 rw[dif_pos ⟨h1.1,h2.1,a_⟩]
theorem lv {c:Bool}{s v:ω}{a b:Nat}{acc:List ω}(h:cw c s a= .ok (v,b))(hb:eJ s b 44=false):ei c s a acc= .ok (acc++[v],b):=by
 have h2:=LI.1 hb;rw[ei,h];dsimp only
 rw[dif_neg a_]
theorem ki {c:Bool}{s:ω}:∀(n:Nat) {a b:Nat} {acc vs:List ω},s.length-a<=n->ei c s a acc= .ok (vs,b)->a<=b/\(a<=s.length->b<=s.length)/\acc.length<vs.length/\vs.length<=acc.length+1+(b-a)
 |n,a,b,acc,vs,hn,h=>by
  cases hv:cw c s a with
  |bad e p=>rw[gH hv] at h;cases h
  |ok x=>
   obtain⟨v,d⟩:=x;have h1:=jg hv;cases hb:eJ s d 44 with
   |true=>
    have h2:=cK.1 hb;rw[mX hv hb] at h;cases n with
    |zero=>omega
    |succ n=>
     have ih:=ki n a_ h;rw[d_,Rf] at ih;omega
   |false=>
    rw[lv hv hb] at h;cases h;rw[d_,Rf];omega
def cG (c:Bool)(s:ω)(a:Nat)(acc:List Pr):PR (List Pr×Nat):=
 if h:a<s.length/\aa s a=59 then
  match bF s (a+1) with
  |.bad e p=>.bad e p
  | .ok (w,j)=>if eJ s j 61 then
    match ei c s (j+1) [] with
    |.bad e p=>.bad e p
    |.ok (vs,b)=>if acc.length=20 then .bad 4 (a+1) else if g:a<b then cG c s b (acc++[⟨w,vs⟩]) else .bad 0 0
   else .bad 7 j
 else .ok (acc,a)
termination_by s.length-a
theorem de {s w:ω}{a j:Nat}(h:bF s a= .ok (w,j)):a<=j/\(a<=s.length->j<=s.length)/\w=(s.take j).drop a/\w.length<=40/\isS w=true:=by
 unfold bF at h;split at h
 ·rename_i hi;cases h;refine⟨J5 _,B8,rfl,?_,hi⟩;unfold isS at hi;rw[l_,l_,n_,n_] at hi;exact hi.2.2
 ·cases h
section
variable {c:Bool} {s w:ω} {a j b p:Nat} {acc:List Pr} {vs:List ω} {e:Int}
theorem iW (h:eJ s a 59=false):cG c s a acc= .ok (acc,a):=by
 have h:=LI.1 h;rw[cG,dif_neg a_]
theorem gx (h:eJ s a 59=true)(hw:bF s (a+1)= .bad e p):cG c s a acc= .bad e p:=by
 have h:=cK.1 h;rw[cG,dif_pos a_,hw]
theorem kA (h:eJ s a 59=true)(hw:bF s (a+1)= .ok (w,j))(hj:eJ s j 61=false):cG c s a acc= .bad 7 j:=by
 have h:=cK.1 h;rw[cG,dif_pos a_,hw];dsimp only
 rw[hj];rfl
theorem fe (h:eJ s a 59=true)(hw:bF s (a+1)= .ok (w,j))(hj:eJ s j 61=true)(hv:ei c s (j+1) []= .bad e p):cG c s a acc= .bad e p:=by
 have h:=cK.1 h;rw[cG,dif_pos a_,hw];dsimp only
 rw[hj,if_pos rfl,hv]
theorem iV (h:eJ s a 59=true)(hw:bF s (a+1)= .ok (w,j))(hj:eJ s j 61=true)(hv:ei c s (j+1) []= .ok (vs,b))(hl:acc.length=20):cG c s a acc= .bad 4 (a+1):=by
 have h:=cK.1 h;rw[cG,dif_pos a_,hw];dsimp only
 rw[hj,if_pos rfl,hv];dsimp only
 rw[if_pos hl]
theorem ky (h:eJ s a 59=true)(hw:bF s (a+1)= .ok (w,j))(hj:eJ s j 61=true)(hv:ei c s (j+1) []= .ok (vs,b))(hl:acc.length≠20):cG c s a acc=cG c s b (acc++[⟨w,vs⟩]):=by
 have h:=cK.1 h;have h1:=de hw;have h2:=ki _ (Nat.le_refl _) hv;rw[cG,dif_pos a_,hw];dsimp only
 rw[hj,if_pos rfl,hv];dsimp only
 rw[if_neg hl,dif_pos a_]
end
def fI (s:ω):PR ((ω×ω)×Nat):=
 match bF s 0 with
 |.bad e p=>.bad e p
 | .ok (w,j)=>if eJ s j 46 then
   match bF s (j+1) with
   |.bad e p=>.bad e p
   |.ok (n,k)=>.ok ((w,n),k)
  else .ok (([],w),j)
def jk (s g n:ω)(ps:List Pr)(b:Nat):PR Ln:=
 if eJ s b 58 then
  if gh (iJ false) (s.drop (b+1))<0 then .ok ⟨g,n,ps,s.drop (b+1)⟩ else .bad 3 (b+1+(gh (iJ false) (s.drop (b+1))).toNat)
 else .bad 7 b
def dI (c:Bool)(s:ω):PR Ln:=
 if dm s<0 then
  match fI s with
  |.bad e p=>.bad e p
  |.ok ((g,n),a)=>match cG c s a [] with
   |.bad e p=>.bad e p
   |.ok (ps,b)=>jk s g n ps b
 else .bad 3 (dm s).toNat
def Ln.no:Ln:=⟨[],[],[],[]⟩
def jb (c:Bool)(s:ω):Ln:=match dI c s with
 |.ok l=>l
 |.bad _ _=>Ln.no
def rE (c:Bool)(s:ω):Err:=match dI c s with
 |.ok _=>.none
 |.bad e p=>.atp e p
end
section
section
variable {P:Program} [Tab P] {C:Ctx} {n:Nat} {H:Heap} {env:Env} {x y:Operand} {T:TypeId} {xT:TI} {e:TypeId} {xe:TI}
theorem nb {len i:Nat}{k0:IntKind}{cs:List AVal}{av:AVal}(hx:ah env x=some (.agg cs))(hy:ah env y=some (.int k0 (i:Int)))(h1:bj P T=some xT)(h2:xT.desc= .array len e)(h3:bj P e=some xe)(h4:xe.size=1)(h5:cv xe.desc=false)(hi:i<len)(hc:cs[i]? =some av)(ha:av.isAgg=false):
  bE P C H env (.index T x y) av:=by
 intro R ρ w hm hf dst t p af g;have hr:=hf _ _ hx;obtain⟨vs,hvs⟩:∃vs,ρ x= .agg vs:=by
  have:=hr.2;cases hv:ρ x<;>rw[hv] at this<;>simp[AVal.isAgg,dc] at this
  exact⟨_,rfl⟩
 rw[hvs] at hr;obtain⟨v,hv,hrv⟩:=fy (R:=R) (cs:=cs) (vs:=vs.toList) hr.1 hc;refine⟨v,?_,cT hrv ha⟩;have hv':vs[i]? =some v:=by simpa using hv
 have hn:(0:Int)<=i/\(i:Int)<len:=⟨a_,a_⟩;have hil:i<vs.size:=by
  rcases aaj i vs.size with h|h
  ·exact h
  ·rw[Array.getElem?_eq_none h] at hv';cases hv'
 simp only[execOp,hvs,ap.1 (hf _ _ hy),Instr.index,asIntOf,e_,h_,c_,ao h1,h2,hn,part,B_];simp[aM h3,dX h3,h5,h4,hv']
end
end
section
theorem Ge {P:Program}[Tab P]{G:Glo}{GL:List (Nat×List AVal)}{n:Nat}{H:Heap}{v1 v2:Value}(i s1 j s2:Nat){f:FuncId}{fn:Func}{c:Code}{avs:List AVal}{Qf:co->Heap->Prop}{rs:List ResultVar}(hf:P.funcs[f]? =some fn)
  (hc:∀args w,(callFunc f args).run P w= .ok (.enter f args) w) (hb:fn.body=some c) (hn:fn.ntmps=n) (hrs:fn.results=rs.toArray) (hlen:Nat.ble avs.length n=true) (hGL:ab G GL) (hv1:dc v1=false) (hv2:dc v2=false)
  (hk1:Env.get (fg 0 avs) s1=some (.raw v1)) (hk2:Env.get ((s1,.own i v1)::fg 0 avs) s2=some (.raw v2))
  (h:∀C:Ctx,C.G=G->gV P C n G GL c ((s2,.own j v2)::(s1,.own i v1)::fg 0 avs) H (uC P rs Qf)):ad P G f avs H Qf:=
 qk hf hb hc hn hrs hlen λw0 R0 hG=>(DC (λ_ _ hf=>uj (i:=i) hv1 hk1 hf) (xR (C:=⟨w0,R0,eR H,G,hG,[]⟩) (k:=s2) j rfl hGL hv2 hk2 (h ⟨w0,R0,eR H,G,hG,[]⟩ rfl))).mono λ_ _ _ q=>kh q
section
variable {P:Program} [Tab P] {C:Ctx} {n:Nat} {env:Env} {H:Heap} {Q:aL->Env->Heap->Prop} {ops:Array Oper} {rest:List Oper} {G:Glo} {GL:List (Nat×List AVal)}
variable {d:Nat} {t:TypeId} {p:String} {af:Array Edge} {g:Option (Nat×Bool)} {b:Bool}
variable {x y:Operand} {T e:TypeId} {xT xe:TI}
theorem AP {k1 k2:IntKind}{m:Nat}(hC:C.G=G)(hGL:ab G GL)(hx:ah env x=some (.int k1 (m:Int)))(hy:ah env y=some (.int k2 (m:Int)))(hm0:m<=1000000000)(ht:bj P T=some xT)(hd:xT.desc= .slice e)(he:bj P e=some xe)(hz:xe.zero=some (.pointer none))(hs:xe.size=1)(hb:Nat.ble xe.bytes 1024=true)
  (hg:aQ ops env g=some (b,b)) (hdn:Nat.ble (d+1) n=true)
  (k:∀bl,mN P C n G GL ops Q rest ((d,.own H.length (.slice (some ⟨bl,0,none⟩) m m))::env) (H++[.row (.slice (some ⟨bl,0,none⟩) m m) (some e) 1 m (List.replicate m (.raw (.pointer none)))])):
  uD P C n ops ({dst:=some d,op:=.makeSlice T x y,type:=t,pos:=p,after:=af,guard:=g}::rest) env H Q:=by
 refine⟨gR (X:=Nat) (av:=λbl=>.raw (.slice (some ⟨bl,0,none⟩) m m)) (H':=λbl=>.row (.slice (some ⟨bl,0,none⟩) m m) (some e) 1 m (List.replicate m (.raw (.pointer none)))::H) hg rfl hdn (λR ρ w hm hf=> ?_)
  (λbl=>mQ (fS (i:=H.length) rfl (fm hC hGL _ _ _ (k bl))))⟩
 obtain⟨i,hi,his,hib,hiz,_⟩:=ii he;have hb:=v_ hb;have hmul:xe.bytes*m<=1024*1000000000:=Nat.mul_le_mul hb hm0;have hr:=run_make (P:=P) w T e i (.pointer none) (by rw[bR ht,hd]) hi (by rw[hiz,hz]) k1 k2 (m:Int) (m:Int) a_ a_ (by rw[hib,<-Int.natCast_mul];omega) a_;simp only[B_] at hr;have hrun:=oQ (d:=d) (t:=t) (p:=p) (af:=af) (g:=g) (ap.1 (hf _ _ hx)) (ap.1 (hf _ _ hy)) hr;refine⟨w.heap.size,_,_,R,hrun,Seal.le_refl R,aq.2 rfl,?_⟩
 ·rw[lT];refine hm.alloc _ _ rfl ⟨by simp,.inr ⟨_,_,_,_,_,rfl,gn w _,?_,Nat.le_refl _,?_,.inl (Nat.le_refl _),λt ht=>by cases ht;rfl⟩⟩
  ·rw[size_madeCells,his,hs]
  ·rw[his,hs,Nat.mul_one,show(Value.pointer none).cells=#[.pointer none] from rfl,FA,u_ (by simp)];exact jq (show bI R (.raw (.pointer none)) [.pointer none] from rfl) _
end
end
section
attribute [local irreducible] bJ au ax aR ab ad
def oy (t:AVal)(n:Int)(m:List AVal):List AVal:=[.str [],.int .i64 0,.str [],.raw (.pointer none),t,.int .i64 n]++m
def mapD:List AVal:=(((List.replicate 256 (.int .u8 3)).set 39 (.int .u8 0)).set 94 (.int .u8 1)).set 110 (.int .u8 2)
abbrev vV (bg bt:Nat):HEnt:=.cells bg (some 392) (oy (.own 3 (.slice (some ⟨bt,0,none⟩) 3 3)) 3 mapD)
abbrev Zw (n:Nat)(v:ω)(k:Int)(p:ω)(x y:AVal):HEnt:=.cells n (some 390) [.str v,.int .i64 k,.str p,x,y]
abbrev qA (n:Nat)(v:ω)(k:Int):HEnt:=Zw n v k [] (.raw (.pointer none)) (.raw (.slice none 0 0))
abbrev Si (n b:Nat):HEnt:=Zw n [] 0 [] (.raw (.pointer none)) (.own 7 (.slice (some ⟨b,0,none⟩) 3 3))
abbrev V3 (n n2:Nat):HEnt:=Zw n [] 0 [94] (.own 5 (pv n2 0)) (.raw (.slice none 0 0))
abbrev tnQ (n n2 b:Nat):HEnt:=Zw n [] 0 [94] (.own 5 (pv n2 0)) (.own 7 (.slice (some ⟨b,0,none⟩) 3 3))
abbrev NS (b:Nat)(l:List AVal):HEnt:=.row (.slice (some ⟨b,0,none⟩) 3 3) (some 387) 1 3 l
theorem yi {G:Glo}(b:Nat)(v:ω)(p:Int)(c2 c3 c4:AVal)(u:Value):ad prog G 271 [.raw (pv b 0),.str [],.str v,.int .i64 p,.raw u] [.cells b (some 390) [.str [],.int .i64 0,c2,c3,c4]]
  (λr H=>r= .ret (.tuple [])/\H=[.cells b (some 390) [.str v,.int .i64 p,c2,c3,c4]]):=by
 have hGL:ab G []:=al;refine jx 0 func271 call271 rfl rfl rfl rfl hGL rfl ?_;intro C hC;exact eK
theorem Zr {G:Glo}(bg bt n1:Nat)(x0 x1 x2 x3:HEnt)(u:Value):ad prog G 271 [.raw (pv n1 0),.str [94],.str [94],.int .i64 6,.raw u] [x0,x1,x2,x3,.cells n1 (some 390) [.str [],.int .i64 0,.str [],.raw (.pointer none),.raw (.slice none 0 0)]]
  (λr H=>∃n2,r= .ret (.tuple [])/\H=[x0,x1,x2,x3,V3 n1 n2,qA n2 [94] 6]):=by
 have hGL:ab G []:=al;refine jx 4 func271 call271 rfl rfl rfl rfl hGL rfl ?_;intro C hC;refine an ?_;intros;refine aV (i:=5) rfl (yi _ _ _ _ _ _ _) ?_;refine an ?_;intros;exact⟨_,At _,_,rfl,rfl⟩
theorem Zq {G:Glo}(bg bt n1 n2:Nat)(x0 x1 x3:HEnt):ad prog G 271 [.raw (pv n1 0),.str [110],.str [10],.int .i64 4,.raw (pv bg 0)] [x0,x1,vV bg bt,x3,V3 n1 n2,qA n2 [94] 6]
  (λr H=>∃n3 b7,r= .ret (.tuple [])/\H=[x0,x1,vV bg bt,x3,Si n1 b7,qA n2 [94] 6,qA n3 [10] 4,NS b7 [.raw (.pointer none),.own 5 (pv n2 0),.own 6 (pv n3 0)]]):=by
 have hGL:ab G []:=al;refine Ge 4 0 2 4 func271 call271 rfl rfl rfl rfl hGL rfl rfl rfl rfl ?_;intro C hC;refine an ?_;intros;refine rds hC hGL 1 ?_;refine an ?_;intros;refine a7 mixed hC hGL false (λ(_:Unit)=>[(0,.own 4 (pv n1 0)),(1,.str [110]),(2,.str [10]),(3,.int .i64 4),(4,.own 2 (pv bg 0)),(10,.int .i64 0),(59,.bool (!bV ((aa [94] 0:Nat):Int) ((aa [110] 0:Nat):Int)))]) (λ_=>[x0,x1,vV bg bt,x3,V3 n1 n2,qA n2 [94] 6]) (.t 0 (.t 1 (.t 2 (.t 4 (.t 6 (.t 7 (.t 8 (.b 3 (.t 5 (.t 9 .done)))))))))) be ?_ ?_
 ·refine an ?_;intros;exact⟨(),⟨rfl,rfl,rfl,rfl,rfl,rfl,rfl,trivial⟩,rfl⟩
 intro _;refine an ?_;intros;rename Nat=>n3
 refine AP (m:=3) hC hGL rfl rfl a_ rfl rfl rfl rfl rfl rfl rfl rfl (λb7=> ?_);have w1:bZ (.slice (some ⟨b7,0,none⟩) 3 3) b7 3/\1+1<=3*1/\0<3:=⟨⟨_,rfl⟩,b_,b_⟩;have w2:bZ (.slice (some ⟨b7,0,none⟩) 3 3) b7 3/\2+1<=3*1/\0<3:=⟨⟨_,rfl⟩,b_,b_⟩;refine an ?_;intros;refine a7 mixed hC hGL false (λ(_:Unit)=>[(0,.own 4 (pv n1 0)),(1,.str [110]),(2,.str [10]),(3,.int .i64 4),(4,.own 2 (pv bg 0)),(12,.own 6 (pv n3 0))]) (λ_=>[x0,x1,vV bg bt,x3,tnQ n1 n2 b7,qA n2 [94] 6,.cells n3 (some 390) [.str [],.int .i64 0,.str [],.raw (.pointer none),.raw (.slice none 0 0)],NS b7 [.raw (.pointer none),.own 5 (pv n2 0),.raw (.pointer none)]]) (.t 0 (.t 1 (.t 2 (.t 4 (.t 5 (.t 6 (.t 7 (.t 10 (.t 11 (.t 14 (.br 3 (.b 8 (.t 9 (.t 12 (.b 13 (.t 15 (.b 16 .done)))))) (.b 8 (.t 9 (.t 12 (.br 3 (.b 13 (.t 15 (.b 16 .done))) (.b 13 (.b 3 (.t 15 (.b 16 .done))))))))))))))))))) be ?_ ?_
 ·refine xn ?_;repeat' first|exact .n|apply Lc.mk
  all_goals intros
  all_goals exact⟨(),⟨rfl,rfl,rfl,rfl,rfl,rfl,trivial⟩,rfl⟩
 intro _;refine an ?_;intros;refine a7 mixed hC hGL false (λ(_:Unit)=>[(0,.own 4 (pv n1 0)),(1,.str [110]),(2,.str [10]),(3,.int .i64 4),(4,.own 2 (pv bg 0)),(12,.own 6 (pv n3 0))]) (λ_=>[x0,x1,vV bg bt,x3,tnQ n1 n2 b7,qA n2 [94] 6,.cells n3 (some 390) [.str [],.int .i64 0,.str [],.raw (.pointer none),.raw (.slice none 0 0)],NS b7 [.raw (.pointer none),.own 5 (pv n2 0),.own 6 (pv n3 0)]]) (.t 0 (.t 1 (.t 2 (.t 4 (.t 5 (.t 6 (.t 7 (.t 8 (.t 9 (.t 11 (.br 3 (.b 10 (.t 12 (.b 13 .done))) (.b 10 (.b 3 (.t 12 (.b 13 .done))))))))))))))) be ?_ ?_
 ·refine xn ?_;repeat' first|exact .n|apply Lc.mk
  all_goals intros
  all_goals exact⟨(),⟨rfl,rfl,rfl,rfl,rfl,rfl,trivial⟩,rfl⟩
 intro _;refine an ?_;intros;refine aV (i:=6) rfl (yi _ _ _ _ _ _ _) ?_;refine an ?_;intros;exact⟨_,At _,_,_,rfl,rfl⟩
theorem Zp {G:Glo}(bg bt n1 n2 n3 b7:Nat)(x0 x1 x3:HEnt):ad prog G 271 [.raw (pv n1 0),.str [39],.str [34],.int .i64 2,.raw (pv bg 0)] [x0,x1,vV bg bt,x3,Si n1 b7,qA n2 [94] 6,qA n3 [10] 4,NS b7 [.raw (.pointer none),.own 5 (pv n2 0),.own 6 (pv n3 0)]]
  (λr H=>∃n4,r= .ret (.tuple [])/\H=[x0,x1,vV bg bt,x3,Si n1 b7,qA n2 [94] 6,qA n3 [10] 4,NS b7 [.own 8 (pv n4 0),.own 5 (pv n2 0),.own 6 (pv n3 0)],.cells n4 (some 390) [.str [34],.int .i64 2,.str [],.raw (.pointer none),.raw (.slice none 0 0)]]):=by
 have hGL:ab G []:=al;refine Ge 4 0 2 4 func271 call271 rfl rfl rfl rfl hGL rfl rfl rfl rfl ?_;intro C hC;have q7:bZ (.slice (some ⟨b7,0,none⟩) 3 3) b7 3:=⟨_,rfl⟩;have w0:bZ (.slice (some ⟨b7,0,none⟩) 3 3) b7 3/\0+1<=3*1/\0<3:=⟨⟨_,rfl⟩,b_,b_⟩;have g0:([.raw (.pointer none),.own 5 (pv n2 0),.own 6 (pv n3 0)]:List AVal)[0]? =some (.raw (.pointer none)):=rfl;refine an ?_;intros;refine a7 mixed hC hGL false (λ(_:Unit)=>[(0,.own 4 (pv n1 0)),(1,.str [39]),(2,.str [34]),(3,.int .i64 2),(4,.own 2 (pv bg 0)),(14,.int .u8 0)]) (λ_=>[x0,x1,vV bg bt,x3,Si n1 b7,qA n2 [94] 6,qA n3 [10] 4,NS b7 [.raw (.pointer none),.own 5 (pv n2 0),.own 6 (pv n3 0)]]) .p3 be ?_ ?_
 ·refine an ?_;intros;exact⟨(),⟨rfl,rfl,rfl,rfl,rfl,rfl,trivial⟩,rfl⟩
 intro _;refine an ?_;intros;rename Nat=>n4
 refine a7 mixed hC hGL false (λ(_:Unit)=>[]) (λ_=>[x0,x1,vV bg bt,x3,Si n1 b7,qA n2 [94] 6,qA n3 [10] 4,NS b7 [.own 8 (pv n4 0),.own 5 (pv n2 0),.own 6 (pv n3 0)],.cells n4 (some 390) [.str [34],.int .i64 2,.str [],.raw (.pointer none),.raw (.slice none 0 0)]]) .p4 be ?_ ?_
 ·refine an ?_;intros;refine lr rfl rfl ?_;refine an ?_;intros;refine aV (i:=8) rfl (yi _ _ _ _ _ _ _) ?_;refine an ?_;intros;exact⟨(),trivial,rfl⟩
 intro _;refine an ?_;intros;exact⟨_,At _,_,rfl,rfl⟩
theorem O9 {G:Glo}(bg bt:Nat)(x0 x1:HEnt):ad prog G 271 [.raw (pv bg 0),.str [94,94],.str [94],.int .i64 6,.raw (pv bg 0)] [x0,x1,vV bg bt,.row (.slice (some ⟨bt,0,none⟩) 3 3) (some 387) 1 3 [.raw (.pointer none),.raw (.pointer none),.raw (.pointer none)]]
  (λr H=>∃n1 n2,r= .ret (.tuple [])/\H=[x0,x1,vV bg bt,.row (.slice (some ⟨bt,0,none⟩) 3 3) (some 387) 1 3 [.raw (.pointer none),.own 4 (pv n1 0),.raw (.pointer none)],V3 n1 n2,qA n2 [94] 6]):=by
 have hGL:ab G []:=al;refine Ge 2 0 2 4 func271 call271 rfl rfl rfl rfl hGL rfl rfl rfl rfl ?_;intro C hC;have q7:bZ (.slice (some ⟨bt,0,none⟩) 3 3) bt 3:=⟨_,rfl⟩;have w0:bZ (.slice (some ⟨bt,0,none⟩) 3 3) bt 3/\1+1<=3*1/\0<3:=⟨⟨_,rfl⟩,b_,b_⟩;refine an ?_;intros;refine a7 mixed hC hGL false (λ(_:Unit)=>[(0,.own 2 (pv bg 0)),(1,.str [94,94]),(2,.str [94]),(3,.int .i64 6),(4,.own 2 (pv bg 0)),(14,.int .u8 1)]) (λ_=>[x0,x1,vV bg bt,.row (.slice (some ⟨bt,0,none⟩) 3 3) (some 387) 1 3 [.raw (.pointer none),.raw (.pointer none),.raw (.pointer none)]]) .p3 be ?_ ?_
 ·refine an ?_;intros;exact⟨(),⟨rfl,rfl,rfl,rfl,rfl,rfl,trivial⟩,rfl⟩
 intro _;refine an ?_;intros;refine lr rfl rfl ?_;refine an ?_;intros;rename Nat=>n1
 refine a7 mixed hC hGL false (λ(_:Nat)=>[]) (λn2=>[x0,x1,vV bg bt,.row (.slice (some ⟨bt,0,none⟩) 3 3) (some 387) 1 3 [.raw (.pointer none),.own 4 (pv n1 0),.raw (.pointer none)],V3 n1 n2,qA n2 [94] 6]) .p4 be ?_ ?_
 ·refine an ?_;intros;refine lr rfl rfl ?_;refine an ?_;intros;refine⟨_,Zr bg bt n1 _ _ _ _ _,?_,?_⟩
  ·rintro v H ⟨n2,e,rfl⟩;cases e;refine an ?_;intros;exact⟨n2,trivial,rfl⟩
  ·rintro v H ⟨n2,e,rfl⟩;cases e
 intro y;refine an ?_;intros;exact⟨_,At _,n1,y,rfl,rfl⟩
theorem O8 {G:Glo}(bg bt n1 n2:Nat)(x0 x1:HEnt):ad prog G 271 [.raw (pv bg 0),.str [94,110],.str [10],.int .i64 4,.raw (pv bg 0)] [x0,x1,vV bg bt,.row (.slice (some ⟨bt,0,none⟩) 3 3) (some 387) 1 3 [.raw (.pointer none),.own 4 (pv n1 0),.raw (.pointer none)],V3 n1 n2,qA n2 [94] 6]
  (λr H=>∃n3 b7,r= .ret (.tuple [])/\H=[x0,x1,vV bg bt,.row (.slice (some ⟨bt,0,none⟩) 3 3) (some 387) 1 3 [.raw (.pointer none),.own 4 (pv n1 0),.raw (.pointer none)],Si n1 b7,qA n2 [94] 6,qA n3 [10] 4,NS b7 [.raw (.pointer none),.own 5 (pv n2 0),.own 6 (pv n3 0)]]):=by
 have hGL:ab G []:=al;refine Ge 2 0 2 4 func271 call271 rfl rfl rfl rfl hGL rfl rfl rfl rfl ?_;intro C hC;have q7:bZ (.slice (some ⟨bt,0,none⟩) 3 3) bt 3:=⟨_,rfl⟩;have w0:bZ (.slice (some ⟨bt,0,none⟩) 3 3) bt 3/\1+1<=3*1/\0<3:=⟨⟨_,rfl⟩,b_,b_⟩;refine an ?_;intros;refine a7 mixed hC hGL false (λ(_:Unit)=>[(0,.own 2 (pv bg 0)),(1,.str [94,110]),(2,.str [10]),(3,.int .i64 4),(4,.own 2 (pv bg 0)),(14,.int .u8 1)]) (λ_=>[x0,x1,vV bg bt,.row (.slice (some ⟨bt,0,none⟩) 3 3) (some 387) 1 3 [.raw (.pointer none),.own 4 (pv n1 0),.raw (.pointer none)],V3 n1 n2,qA n2 [94] 6]) .p3 be ?_ ?_
 ·refine an ?_;intros;exact⟨(),⟨rfl,rfl,rfl,rfl,rfl,rfl,trivial⟩,rfl⟩
 intro _;refine an ?_;intros;refine lr rfl rfl ?_;refine an ?_;intros;refine a7 mixed hC hGL false (λ(_:Nat×Nat)=>[]) (λy=>[x0,x1,vV bg bt,.row (.slice (some ⟨bt,0,none⟩) 3 3) (some 387) 1 3 [.raw (.pointer none),.own 4 (pv n1 0),.raw (.pointer none)],.cells n1 (some 390) [.str [],.int .i64 0,.str [],.raw (.pointer none),.own 7 (.slice (some ⟨y.2,0,none⟩) 3 3)],qA n2 [94] 6,.cells y.1 (some 390) [.str [10],.int .i64 4,.str [],.raw (.pointer none),.raw (.slice none 0 0)],.row (.slice (some ⟨y.2,0,none⟩) 3 3) (some 387) 1 3 [.raw (.pointer none),.own 5 (pv n2 0),.own 6 (pv y.1 0)]]) .p4 be ?_ ?_
 ·refine an ?_;intros;refine lr rfl rfl ?_;refine an ?_;intros;refine⟨_,Zq bg bt n1 n2 _ _ _,?_,?_⟩
  ·rintro v H ⟨n3,b7,e,rfl⟩;cases e;refine an ?_;intros;exact⟨(n3,b7),trivial,rfl⟩
  ·rintro v H ⟨n3,b7,e,rfl⟩;cases e
 intro y;refine an ?_;intros;exact⟨_,At _,y.1,y.2,rfl,rfl⟩
theorem O7 {G:Glo}(bg bt n1 n2 n3 b7:Nat)(x0 x1:HEnt):ad prog G 271 [.raw (pv bg 0),.str [94,39],.str [34],.int .i64 2,.raw (pv bg 0)] [x0,x1,vV bg bt,.row (.slice (some ⟨bt,0,none⟩) 3 3) (some 387) 1 3 [.raw (.pointer none),.own 4 (pv n1 0),.raw (.pointer none)],Si n1 b7,qA n2 [94] 6,qA n3 [10] 4,NS b7 [.raw (.pointer none),.own 5 (pv n2 0),.own 6 (pv n3 0)]]
  (λr H=>∃n4,r= .ret (.tuple [])/\H=[x0,x1,vV bg bt,.row (.slice (some ⟨bt,0,none⟩) 3 3) (some 387) 1 3 [.raw (.pointer none),.own 4 (pv n1 0),.raw (.pointer none)],Si n1 b7,qA n2 [94] 6,qA n3 [10] 4,NS b7 [.own 8 (pv n4 0),.own 5 (pv n2 0),.own 6 (pv n3 0)],.cells n4 (some 390) [.str [34],.int .i64 2,.str [],.raw (.pointer none),.raw (.slice none 0 0)]]):=by
 have hGL:ab G []:=al;refine Ge 2 0 2 4 func271 call271 rfl rfl rfl rfl hGL rfl rfl rfl rfl ?_;intro C hC;have q7:bZ (.slice (some ⟨bt,0,none⟩) 3 3) bt 3:=⟨_,rfl⟩;have w0:bZ (.slice (some ⟨bt,0,none⟩) 3 3) bt 3/\1+1<=3*1/\0<3:=⟨⟨_,rfl⟩,b_,b_⟩;refine an ?_;intros;refine a7 mixed hC hGL false (λ(_:Unit)=>[(0,.own 2 (pv bg 0)),(1,.str [94,39]),(2,.str [34]),(3,.int .i64 2),(4,.own 2 (pv bg 0)),(14,.int .u8 1)]) (λ_=>[x0,x1,vV bg bt,.row (.slice (some ⟨bt,0,none⟩) 3 3) (some 387) 1 3 [.raw (.pointer none),.own 4 (pv n1 0),.raw (.pointer none)],Si n1 b7,qA n2 [94] 6,qA n3 [10] 4,NS b7 [.raw (.pointer none),.own 5 (pv n2 0),.own 6 (pv n3 0)]]) .p3 be ?_ ?_
 ·refine an ?_;intros;exact⟨(),⟨rfl,rfl,rfl,rfl,rfl,rfl,trivial⟩,rfl⟩
 intro _;refine an ?_;intros;refine lr rfl rfl ?_;refine an ?_;intros;refine a7 mixed hC hGL false (λ(_:Nat)=>[]) (λn4=>[x0,x1,vV bg bt,.row (.slice (some ⟨bt,0,none⟩) 3 3) (some 387) 1 3 [.raw (.pointer none),.own 4 (pv n1 0),.raw (.pointer none)],Si n1 b7,qA n2 [94] 6,qA n3 [10] 4,NS b7 [.own 8 (pv n4 0),.own 5 (pv n2 0),.own 6 (pv n3 0)],.cells n4 (some 390) [.str [34],.int .i64 2,.str [],.raw (.pointer none),.raw (.slice none 0 0)]]) .p4 be ?_ ?_
 ·refine an ?_;intros;refine lr rfl rfl ?_;refine an ?_;intros;refine⟨_,Zp bg bt n1 n2 n3 b7 _ _ _,?_,?_⟩
  ·rintro v H ⟨n4,e,rfl⟩;cases e;refine an ?_;intros;exact⟨n4,trivial,rfl⟩
  ·rintro v H ⟨n4,e,rfl⟩;cases e
 intro y;refine an ?_;intros;exact⟨_,At _,y,rfl,rfl⟩
end
section
theorem je {P Q:Prop}(hQ:Q)(h:Lf Q->P:=by
  intro ww;repeat' (first
   |(conv=>whnf);first
    |refine .w ?_|refine Ix.v ?_|refine Sd.v ?_|refine Sl.v ?_|apply jp|apply eu
    |refine ez ?_ ?_<;>(intro wb;try exact dd wb)
    |apply aT|(apply cR<;>intro wb)|(apply cX;intro wb)|(apply lr;assumption;exact rfl)
    |(apply bG;first|assumption|(apply k1<;>omega))|(apply cY;intro wl)|(apply aj;exact rfl)|(show Rt _ _ _;exact cP)
    |exact True.intro|(apply pB;intro wC whC)|apply pz|apply oY|(apply oZ;exact rfl))
  all_goals (try conv=>whnf)
  all_goals (repeat (first|revert wb|revert wl|revert whC|revert wC))
  all_goals (apply Lf.h;apply ww)):P:=h ⟨hQ⟩
theorem xm {P Q:Prop}(hQ:Q)(h:Lf Q->P:=by
  intro ww;repeat' (first
   |(conv=>whnf);first
    |refine .w ?_|refine Ix.v ?_|refine Sd.v ?_|refine Sl.v ?_|apply jp|apply eu
    |refine ez ?_ ?_<;>(intro wb;try exact dd wb)
    |apply aT|(apply cR<;>intro wb)|(apply cX;intro wb)|(apply lr;assumption;exact rfl)
    |(apply bG;first|assumption|(apply k1<;>omega))|(apply cY;intro wl)|(apply aj;exact rfl)|(show Rt _ _ _;exact cP)
    |exact True.intro|(apply pB;intro wC whC)|apply pz|apply oY|(apply oZ;exact rfl))
  all_goals (try conv=>whnf)
  all_goals (repeat (first|revert wb|revert wl|revert whC|revert wC))
  all_goals (apply Lf.l;with_reducible (repeat (first|apply ww|apply Lf.r)))) (e:Lz Q:=by repeat (first|exact Lz.n|apply Lz.c)):P:=h ⟨hQ⟩
end
end Go.Proofs.YtgpjhbhdbjdlgaaGreatDoor
