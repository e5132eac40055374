/- Parts of the proof of jcardTells_card: Ia, Rqe, Lnd, Lnf, Wid, Vlb, Eqa, Vlc, Wha, Whb, Vld, Vle, Vlf, Vlg, Jsb, Lst, Jsm, Jsn, Crt, End, Han. -/
import Derived.Laws.StructEq
import Derived.Test.YtdpbejofgemloaaGreatDoorRows
import Derived.ProofKit
import Derived.LaidMore
import Derived.Lay
import Derived.Stop.Joined
import Derived.LaidSub
import Derived.LaidHandle
import Derived.OpenShut
import Derived.Test.YtdpbejofgemloaaGreatDoorBai
import Derived.Test.YtdpbejofgemloaaGreatDoorBaf
import Derived.Test.YtdpbejofgemloaaGreatDoorBae
import Derived.Test.YtdpbejofgemloaaGreatDoorBad
import Derived.Test.YtdpbejofgemloaaGreatDoorBag
import Derived.Test.YtdpbejofgemloaaGreatDoorBah
import Derived.Test.YtdpbejofgemloaaGreatDoorBaa
set_option linter.unusedVariables false
set_option linter.unusedSimpArgs false
set_option linter.unusedSectionVars false
namespace Go.Proofs.YtdpbejofgemloaaGreatDoor
set_option maxRecDepth 20000
set_option maxHeartbeats 4000000
section
open Go Go.RowKit
def Dm (G:Glo)(cs:List UInt8):Prop:=∀r:Int,mayZ r=true→∃z:Int,FnIs Tryz.prog G 198 [.str cs,.int .i32 r] (.int .i64 z)∧(0≤z↔∃x∈cs,r=x.toNat)
theorem rV {cs:List UInt8}(x:UInt8):cs.contains x=true↔∃y∈cs,(x.toNat:Int)=y.toNat:=by
 rw[List.contains_iff_exists_mem_beq]
 exact⟨fun⟨y,h,e⟩=>⟨y,h,by rw[beq_iff_eq.1 e]⟩,fun⟨y,h,e⟩=>⟨y,h,beq_iff_eq.2 (UInt8.toNat_inj.1 (by omega))⟩⟩
theorem Ec {cs:List UInt8}{x:UInt8}(h:¬ ∃y∈cs,(x.toNat:Int)=y.toNat):cs.contains x=false:=by
 cases hc:cs.contains x with
 |false=>rfl
 |true=>exact absurd ((rV x).1 hc) h
theorem Ag {r:Int}(h1:128≤r)(hv:mayZ r=true):(∃x y:UInt8,(Utf8.encode r).data.toList=[x,y]∧128≤y.toNat)∨(∃x y z:UInt8,(Utf8.encode r).data.toList=[x,y,z]∧128≤z.toNat)∨(∃x y z u:UInt8,(Utf8.encode r).data.toList=[x,y,z,u]∧128≤u.toNat):=by
 rw[j4] at hv
 rw[Es hv]
 have hb:∀k:Nat,128≤((UInt8.ofNat (128+k%64)).toNat):=by
  intro k
  have e:128+k%64<256:=by omega
  rw[UInt8.toNat_ofNat_of_lt' (by simpa using e)]
  omega
 split
 ·omega
 ·split
  ·exact .inl ⟨_,_,rfl,hb _⟩
  ·split
   ·exact .inr (.inl ⟨_,_,_,rfl,hb _⟩)
   ·exact .inr (.inr ⟨_,_,_,_,rfl,hb _⟩)
theorem d9 {a b c:UInt8}:aa [a,b,c] 0=a.toNat∧aa [a,b,c] 1=b.toNat∧aa [a,b,c] 2=c.toNat:=⟨rfl,rfl,rfl⟩
attribute [local irreducible] AWp AOps aa aA OrOk ad ah
attribute [local irreducible] au badI badS cA rngR ownB mayZ
theorem xZ {a b c x y:UInt8}{p:Prop}(hb:b.toNat<128)(hc:c.toNat<128)(hy:128≤y.toNat)(h:(aa [a,b,c] 1:Int)=(aa [x,y] 1:Int)):p:=by
 rw[d9.2.1,two1] at h
 omega
theorem tg {a b c x y z:UInt8}{p:Prop}(hb:b.toNat<128)(hc:c.toNat<128)(hy:128≤z.toNat)(h:(aa [a,b,c] 2:Int)=(aa [x,y,z] 2:Int)):p:=by
 rw[d9.2.2,d9.2.2] at h
 omega
theorem px {G:Glo}{a b c:UInt8}(ha:a.toNat<128)(hb':b.toNat<128)(hc':c.toNat<128)(r:Int)(h1:128≤r)(hv:mayZ r=true)(hne:r≠65533):FnIs Tryz.prog G 198 [.str [a,b,c],.int .i32 r] (.int .i64 (-1)):=by
 have hV:=vy (G:=G) r
 rw[hv] at hV
 obtain⟨g0,g1,g2⟩:=d9 (a:=a) (b:=b) (c:=c)
 have hix:∀q:Int,128≤q→q≤255→FnIs Tryz.prog G 37 [.str [c],.int .u8 q] (.int .i64 (-1)):=fun q h0 h1=>by
  have:=aV (G:=G) [c] q (by omega) h1
  rwa [show idxB [c] q= -1 by unfold idxB;simp only[idxF];split<;>omega] at this
 have hix0:∀q:Int,0≤q→q≤255→FnIs Tryz.prog G 37 [.str [],.int .u8 q] (.int .i64 (-1)):=fun q h0 h1=>aV [] q h0 h1
 have hcall:=Tryz.call37
 rcases Ag h1 hv with⟨x,y,he,hy⟩|⟨x,y,z,he,hy⟩|⟨x,y,z,u,he,hy⟩
 ·have f1:aa [x,y] 1=y.toNat:=two1
  have e1:aa [a,b,c] ([x,y].length-Nat.succ 0)=b.toNat:=d9.2.1
  have e2:aa [x,y] ([x,y].length-Nat.succ 0)=y.toNat:=two1
  have f2:=hix (aa [x,y] 1) (by omega) (by have:=aO [x,y] 1;omega)
  have hGL:ad G []:=ab
  refine fn_x Tryz.func198 Tryz.call198 rfl rfl rfl rfl hGL ?_
  intro C hC
  refine xw1 ?_
  intros
  apply iN hC hGL
  refine xw1 ?_
  intros
  refine aF hC hGL (rf rfl rfl rfl rfl) rfl rfl ?_
  rw[he]
  refine xw1 ?_
  intros
  refine rds hC hGL 1 ?_
  repeat' (first|(conv=>whnf);first|refine .w ?_|refine .v ?_|refine sc_c ?_ ?_<;>(intro hb;try exact dd hb)|apply ao|apply aG|(apply sc_i<;>intro hb)|(apply bx_i;intro hbd)|(apply ax;first|exact hV|exact f2)|(apply aw (i:=0) rfl;first|exact hV|exact f2)|(apply ab_i;intro bl)|(apply as_i;intro va vk vc hva)|(apply av_i;intro v)|(apply ac_i;intro bl cap hcap)|apply bo_l|(apply nx_i<;>intro hnx)|apply dw_q mixed hC hGL (by kernel_rfl)|(apply cq;assumption;(first|exact hV|exact f2);exact rfl)|(show Rt _ _ _;exact rt_w)|fail)
  all_goals try conv=>whnf
  all_goals first|exact xZ hb' hc' hy hb|skip
  apply iN hC hGL
  repeat' (first|(conv=>whnf);first|refine .w ?_|refine .v ?_|refine sc_c ?_ ?_<;>(intro hb;try exact dd hb)|apply ao|apply aG|(apply sc_i<;>intro hb)|(apply bx_i;intro hbd)|(apply ax;first|exact hV|exact f2)|(apply aw (i:=0) rfl;first|exact hV|exact f2)|(apply ab_i;intro bl)|(apply as_i;intro va vk vc hva)|(apply av_i;intro v)|(apply ac_i;intro bl cap hcap)|apply bo_l|(apply nx_i<;>intro hnx)|apply dw_q mixed hC hGL (by kernel_rfl)|(apply cq;assumption;(first|exact hV|exact f2);exact rfl)|(show Rt _ _ _;exact rt_w)|fail)
  all_goals try conv=>whnf
  all_goals first|exact xZ hb' hc' hy hb|skip
 ·have f1:aa [x,y,z] 2=z.toNat:=d9.2.2
  have e1:aa [a,b,c] ([x,y,z].length-Nat.succ 0)=c.toNat:=d9.2.2
  have e2:aa [x,y,z] ([x,y,z].length-Nat.succ 0)=z.toNat:=d9.2.2
  have f2:=hix0 (aa [x,y,z] 2) (by omega) (by have:=aO [x,y,z] 2;omega)
  have hGL:ad G []:=ab
  refine fn_x Tryz.func198 Tryz.call198 rfl rfl rfl rfl hGL ?_
  intro C hC
  refine xw1 ?_
  intros
  apply iN hC hGL
  refine xw1 ?_
  intros
  refine aF hC hGL (rf rfl rfl rfl rfl) rfl rfl ?_
  rw[he]
  refine xw1 ?_
  intros
  refine rds hC hGL 1 ?_
  repeat' (first|(conv=>whnf);first|refine .w ?_|refine .v ?_|refine sc_c ?_ ?_<;>(intro hb;try exact dd hb)|apply ao|apply aG|(apply sc_i<;>intro hb)|(apply bx_i;intro hbd)|(apply ax;first|exact hV|exact f2)|(apply aw (i:=0) rfl;first|exact hV|exact f2)|(apply ab_i;intro bl)|(apply as_i;intro va vk vc hva)|(apply av_i;intro v)|(apply ac_i;intro bl cap hcap)|apply bo_l|(apply nx_i<;>intro hnx)|apply dw_q mixed hC hGL (by kernel_rfl)|(apply cq;assumption;(first|exact hV|exact f2);exact rfl)|(show Rt _ _ _;exact rt_w)|fail)
  all_goals try conv=>whnf
  all_goals first|exact tg hb' hc' hy hb|skip
  apply iN hC hGL
  repeat' (first|(conv=>whnf);first|refine .w ?_|refine .v ?_|refine sc_c ?_ ?_<;>(intro hb;try exact dd hb)|apply ao|apply aG|(apply sc_i<;>intro hb)|(apply bx_i;intro hbd)|(apply ax;first|exact hV|exact f2)|(apply aw (i:=0) rfl;first|exact hV|exact f2)|(apply ab_i;intro bl)|(apply as_i;intro va vk vc hva)|(apply av_i;intro v)|(apply ac_i;intro bl cap hcap)|apply bo_l|(apply nx_i<;>intro hnx)|apply dw_q mixed hC hGL (by kernel_rfl)|(apply cq;assumption;(first|exact hV|exact f2);exact rfl)|(show Rt _ _ _;exact rt_w)|fail)
  all_goals try conv=>whnf
  all_goals first|exact tg hb' hc' hy hb|skip
 ·have hGL:ad G []:=ab
  refine fn_x Tryz.func198 Tryz.call198 rfl rfl rfl rfl hGL ?_
  intro C hC
  refine xw1 ?_
  intros
  apply iN hC hGL
  refine xw1 ?_
  intros
  refine aF hC hGL (rf rfl rfl rfl rfl) rfl rfl ?_
  rw[he]
  refine xw1 ?_
  intros
  refine rds hC hGL 1 ?_
  exact xw0
theorem ow {G:Glo}{a b c:UInt8}(ha:a.toNat<128)(hb':b.toNat<128)(hc':c.toNat<128):FnIs Tryz.prog G 198 [.str [a,b,c],.int .i32 65533] (.int .i64 (-1)):=by
 have hGL:ad G []:=ab
 refine fn_x Tryz.func198 Tryz.call198 rfl rfl rfl rfl hGL ?_
 intro C hC
 refine xw1 ?_
 intros
 refine rds hC hGL 4 ?_
 refine xw ?_
 repeat' (first|exact Le.n|refine Lc.mk ?_ ?_)
 all_goals intros
 all_goals (
  exfalso
  have f1:=vW (x:=a) (t:=[b,c]) ha
  have f2:=vW (x:=b) (t:=[c]) hb'
  have f3:=vW (x:=c) (t:=[]) hc'
  simp only[List.drop_zero,f1,f2,f3,Nat.zero_add,List.drop_succ_cons,List.length_cons,List.length_nil] at*
  omega)
theorem pw {G:Glo}{a b c:UInt8}(r:Int)(h0:0≤r)(h1:r<128):FnIs Tryz.prog G 198 [.str [a,b,c],.int .i32 r] (.int .i64 (idxB [a,b,c] r)):=by
 have hGL:ad G []:=ab
 refine fn_x Tryz.func198 Tryz.call198 rfl rfl rfl rfl hGL ?_
 intro C hC
 have hI:=aV (G:=G) [a,b,c] r h0 (by omega)
 exact xw0
theorem AD {G:Glo}{a b c:UInt8}(ha:a.toNat<128)(hb':b.toNat<128)(hc':c.toNat<128):Dm G [a,b,c]:=by
 intro r hv
 have hm:=hv
 rw[j4] at hm
 have key:128≤r→¬ ∃x∈[a,b,c],r=x.toNat:=by
  rintro h ⟨x,hx,e⟩
  simp only[List.mem_cons,List.not_mem_nil,or_false] at hx
  rcases hx with rfl|rfl|rfl<;>omega
 by_cases h1:r<128
 ·exact⟨_,pw r hm.1 h1,z7 r⟩
 ·by_cases h2:r=65533
  ·subst h2;exact⟨-1,ow ha hb' hc',by omega,fun h=>absurd h (key (by omega))⟩
  ·exact⟨-1,px ha hb' hc' r (by omega) hv h2,by omega,fun h=>absurd h (key (by omega))⟩
theorem mU {G:Glo}{cs:List UInt8}(hA:Dm G cs)(hlo:∀c∈cs,c.toNat<128)(hc2:2≤cs.length)(hc9:cs.length≤1000)(s:List UInt8)(hl:s.length≤8):FnIs Tryz.prog G 172 [.str s,.str cs] (.int .i64 (Lib.indexAny s cs)):=by
 have hGL:ad G []:=ab
 refine fn_x Tryz.func172 Tryz.call172 rfl rfl rfl rfl hGL ?_
 intro C hC
 have hS:=vI (G:=G) s.length
 repeat' (first|(conv=>whnf);first|refine .w ?_|refine .v ?_|refine sc_c ?_ ?_<;>(intro hb;try exact dd hb)|apply ao|apply aG|(apply sc_i<;>intro hb)|(apply bx_i;intro hbd)|(apply ax;first|exact hS)|(apply aw (i:=0) rfl;first|exact hS)|(apply ab_i;intro bl)|(apply as_i;intro va vk vc hva)|(apply av_i;intro v)|(apply ac_i;intro bl cap hcap)|apply bo_l|(apply nx_i<;>intro hnx)|apply dw_q mixed hC hGL (by kernel_rfl)|(apply cq;assumption;(first|exact hS);exact rfl)|(show Rt _ _ _;exact rt_w)|fail)
 all_goals try conv=>whnf
 refine lp hC hGL (fun(i:Nat)=>[(1,.str cs),(45,.own 0 (.pointer (some ⟨bl,0,none⟩)))]) (fun i=>[.iter bl s i]) (fun i=>i≤s.length∧Lib.NoAny s cs i) (fun i=>s.length-i) 0 ?_ ae rfl ?_
 ·exact⟨Nat.zero_le _,Lib.NoAny.zero _ _⟩
 rintro i ⟨hi,hno⟩
 have hz:=fun(h:i<s.length)=>zt (s.drop i) (by rw[List.length_drop];omega)
 have hR:∃z:Int,i<s.length→FnIs Tryz.prog G 198 [.str cs,.int .i32 (rngR (s.drop i))] (.int .i64 z)∧(0≤z↔∃x∈cs,(rngR (s.drop i):Int)=x.toNat):=by
  by_cases h:i<s.length
  ·obtain⟨z,h1,h2⟩:=hA (rngR (s.drop i)) (hz h).1
   exact⟨z,fun _=>⟨h1,h2⟩⟩
  ·exact⟨0,fun h'=>absurd h' h⟩
 obtain⟨z,hR⟩:=hR
 repeat' (first|(conv=>whnf);first|refine .w ?_|refine .v ?_|refine sc_c ?_ ?_<;>(intro hb;try exact dd hb)|apply ao|apply aG|(apply sc_i<;>intro hb)|(apply bx_i;intro hbd)|(apply ax;first|exact(hR (by omega)).1)|(apply aw (i:=0) rfl;first|exact(hR (by omega)).1)|(apply ab_i;intro bl)|(apply as_i;intro va vk vc hva)|(apply av_i;intro v)|(apply ac_i;intro bl cap hcap)|apply bo_l|(apply nx_i<;>intro hnx)|apply dw_q mixed hC hGL (by kernel_rfl)|(apply cq;assumption;(first|exact(hR (by omega)).1);exact rfl)|(show Rt _ _ _;exact rt_w)|fail)
 all_goals try conv=>whnf
 ·obtain⟨z1,z2,z3,z4,z5⟩:=hz hnx
  obtain⟨y,hy,hr⟩:=(hR hnx).2.1 hb
  have hy':=hlo y hy
  have h1:=z4 (by omega)
  have hx:s[i]? =some s[i]:=List.getElem?_eq_getElem hnx
  have h2:=cU hx
  rw[cm,Nat.add_zero] at h1
  refine ak ?_
  rw[Lib.indexAny_hit hno hx ((rV _).2 ⟨y,hy,by omega⟩)]
 ·obtain⟨z1,z2,z3,z4,z5⟩:=hz hnx
  rw[List.length_drop] at z3
  have hr:¬ ∃x∈cs,(rngR (s.drop i):Int)=x.toNat:=fun h=>by have:=(hR hnx).2.2 h;omega
  refine nxt (i+cA (s.drop i)) ⟨by omega,?_⟩ (by omega) ⟨rfl,rfl,trivial⟩ rfl
  intro j x hj hx
  by_cases h:j<i
  ·exact hno j x h hx
  ·have h2:=cU hx
   refine Ec fun⟨y,hy,e⟩=> ?_
   have hy':=hlo y hy
   by_cases h128:(rngR (s.drop i):Int)<128
   ·have h3:=z4 h128
    rw[cm,Nat.add_zero] at h3
    have:j=i:=by omega
    subst this
    exact hr ⟨y,hy,by omega⟩
   ·have h3:=z5 (by omega) (j-i) (by omega)
    rw[cm,show i+(j-i)=j by omega] at h3
    omega
 ·have:i=s.length:=by omega
  subst this
  refine ak ?_
  rw[Lib.indexAny_none hno]
  rfl
theorem ox {G:Glo}{cs:List UInt8}(hlo:∀c∈cs,c.toNat<128)(hc2:2≤cs.length)(hc9:cs.length≤1000)(s:List UInt8)(h8:8<s.length)(hl:s.length<4294967281):FnIs Tryz.prog G 172 [.str s,.str cs] (.int .i64 (Lib.indexAny s cs)):=by
 refine bB rfl Tryz.call172 ?_
 rintro R args ⟨x,t,e,hx,y,t',e',hy,rfl⟩ w _ _
 obtain rfl:=aE.1 hx
 obtain rfl:=aE.1 hy
 subst e'
 obtain rfl:=eA e
 refine(Tryz.strings_IndexAny_long (fun w=>by kernel_rfl) ⟨s.toArray⟩ ⟨cs.toArray⟩ w (by rw[ba];omega) (by rw[ba];exact h8) (by rw[ba];omega) (by rw[ba];omega) ?_).mono ?_
 ·intro j x hx
  exact hlo x (List.mem_of_getElem? (by simpa using hx))
 ·rintro e w' ⟨rfl,rfl⟩
  exact⟨by simp[AVal.conc],((Below.refl w.heap.size w).alloc (Nat.le_refl _) _).alloc (by show w.heap.size≤(w.heap.push _).size;simp) _⟩
theorem wI {G:Glo}{cs:List UInt8}(hA:Dm G cs)(hlo:∀c∈cs,c.toNat<128)(hc2:2≤cs.length)(hc9:cs.length≤1000)(s:List UInt8)(hl:s.length<4294967281):FnIs Tryz.prog G 172 [.str s,.str cs] (.int .i64 (Lib.indexAny s cs)):=by
 by_cases h:s.length≤8
 ·exact mU hA hlo hc2 hc9 s h
 ·exact ox hlo hc2 hc9 s (by omega) hl
end
section
open Go Go.RowKit
theorem wZ {s:List UInt8}{i:Nat}(h:i<s.length):encS (s.take (i+1))=encS (s.take i)++encF s[i]:=by
 rw[List.take_succ_eq_append_getElem h,oJ]
 simp[encS]
theorem u8_l {c:UInt8}{k:Nat}(hk:k<256)(h:c.toNat=k):c=UInt8.ofNat k:=by
 rw[←h,UInt8.ofNat_toNat]
attribute [local irreducible] AWp AOps aa aA OrOk ad ah
attribute [local irreducible] encF encS
theorem nS {G:Glo}(s:List UInt8)(hl:s.length≤1000000):FnIs Tryz.prog G 154 [.str s] (.str (encS s)):=by
 have hGL:ad G []:=ab
 refine fn_x Tryz.func154 Tryz.call154 rfl rfl rfl rfl hGL ?_
 intro C hC
 refine xw1 ?_
 intro bl cap hcap
 intros
 refine lp hC hGL (fun i:Nat=>[(3,.str (encS (s.take i))),(7,.own 0 (.slice (some ⟨bl,0,none⟩) s.length cap)),(8,.int .i64 (s.length:Nat)),(9,.int .i64 (i:Nat))]) (fun _=>[.buf bl s cap]) (fun i=>i≤s.length) (fun i=>s.length-i) 0 (Nat.zero_le _) ⟨?_,rfl,rfl,rfl,trivial⟩ rfl ?_
 ·show some (AVal.str [])=some (AVal.str (encS (s.take 0)))
  rw[List.take_zero,fj]
 ·intro i hi
  have e1:=(fk (s.take i)).2
  rw[List.length_take,Nat.min_eq_left hi] at e1
  by_cases hlt:i<s.length
  ·have et:=wZ hlt
   have hb0:=eN hlt
   have hby:=aO s i
   rcases(show aa s i=94∨aa s i=10∨aa s i=34∨(aa s i≠94∧aa s i≠10∧aa s i≠34) by omega) with hk|hk|hk|⟨k1,k2,k3⟩
   ·have he:encF s[i]=[94,94]:=by rw[u8_l (by decide) (hb0.symm.trans hk)];exact sd
    refine xw1 ?_
    intros
    refine nxt (i+1) ?_ ?_ ⟨?_,rfl,rfl,rfl,trivial⟩ rfl
    ·exact hlt
    ·show s.length-(i+1)<s.length-i;omega
    ·rw[et,he];rfl
   ·have he:encF s[i]=[94,110]:=by rw[u8_l (by decide) (hb0.symm.trans hk)];exact sf
    refine xw1 ?_
    intros
    refine nxt (i+1) ?_ ?_ ⟨?_,rfl,rfl,rfl,trivial⟩ rfl
    ·exact hlt
    ·show s.length-(i+1)<s.length-i;omega
    ·rw[et,he];rfl
   ·have he:encF s[i]=[94,39]:=by rw[u8_l (by decide) (hb0.symm.trans hk)];exact se
    refine xw1 ?_
    intros
    refine nxt (i+1) ?_ ?_ ⟨?_,rfl,rfl,rfl,trivial⟩ rfl
    ·exact hlt
    ·show s.length-(i+1)<s.length-i;omega
    ·rw[et,he];rfl
   ·have he:encF s[i]=aU [(aa s i:Int)]:=by
     rw[lg (by rw[←hb0];exact k1) (by rw[←hb0];exact k2) (by rw[←hb0];exact k3),hb0]
     simp[aU]
    refine xw1 ?_
    intros
    refine aF hC hGL (bw [(aa s i:Int)] rfl (by intro v hv;simp only[List.mem_cons,List.not_mem_nil,or_false] at hv;omega) rfl rfl rfl rfl rfl rfl) rfl rfl ?_
    have hl9:(aU [(aa s i:Int)]).length=1:=rfl
    refine xw1 ?_
    intros
    refine nxt (i+1) ?_ ?_ ⟨?_,rfl,rfl,rfl,trivial⟩ rfl
    ·exact hlt
    ·show s.length-(i+1)<s.length-i;omega
    ·rw[et,he];rfl
  ·have h9:encS (s.take i)=encS s:=by rw[List.take_of_length_le (by omega)]
   refine xw1 ?_
   intros
   apply ak
   rw[h9]
end
section
open Go Go.RowKit
theorem uu (c:UInt8):∀(l:List UInt8) (k:Nat),(0≤idxF (c.toNat:Int) l k∧c∈l)∨(idxF (c.toNat:Int) l k<0∧c∉l)
 |[],k=>.inr ⟨by simp[idxF],by simp⟩
 |x::t,k=>by
  unfold idxF
  by_cases h:(x.toNat:Int)=c.toNat
  ·have:x=c:=UInt8.toNat_inj.1 (by omega)
   rw[if_pos h]
   exact .inl ⟨by omega,by simp[this]⟩
  ·have hne:c≠x:=fun e=>h (by rw[e])
   rw[if_neg h]
   rcases uu c t (k+1) with⟨h1,h2⟩|⟨h1,h2⟩
   ·exact .inl ⟨h1,List.mem_cons_of_mem _ h2⟩
   ·exact .inr ⟨h1,fun h3=>(List.mem_cons.1 h3).elim hne h2⟩
theorem Ck {s:List UInt8}{c:UInt8}:0≤idxB s (c.toNat:Int)↔c∈s:=by
 unfold idxB
 rcases uu c s 0 with⟨h1,h2⟩|⟨h1,h2⟩
 ·exact⟨fun _=>h2,fun _=>h1⟩
 ·exact⟨fun h=>by omega,fun h=>absurd h h2⟩
theorem zY {s:List UInt8}{c:UInt8}:0≤Lib.indexByte s c↔c∈s:=by
 induction s with
 |nil=>simp[Lib.indexByte]
 |cons x t ih=>
  have hge:=Lib.indexByte_ge t c
  unfold Lib.indexByte
  by_cases h:(x==c)=true
  ·rw[if_pos h]
   have:=beq_iff_eq.1 h
   simp[this]
  ·rw[if_neg h]
   have hn:c≠x:=fun e=>h (beq_iff_eq.2 e.symm)
   simp only[List.mem_cons,hn,false_or]
   rw[←ih]
   split
   ·rename_i h2
    have:=beq_iff_eq.1 h2
    omega
   ·rename_i h2
    have:Lib.indexByte t c≠ -1:=fun e=>h2 (beq_iff_eq.2 e)
    omega
attribute [local irreducible] AWp AOps aa aA OrOk ad ah
attribute [local irreducible] hdC hdB badI isS mayV encS idxB
theorem iM {G:Glo}(s:List UInt8):FnIs Tryz.prog G 111 [.str s,.str [34]] (.bool (decide (0≤idxB s 34))):=by
 refine bB rfl Tryz.call111 ?_
 rintro R args ⟨x,t,e,hx,y,t',e',hy,rfl⟩ w hG hs
 obtain rfl:=aE.1 hx
 obtain rfl:=aE.1 hy
 subst e'
 obtain rfl:=eA e
 refine(Tryz.strings_Contains_one ⟨s.toArray⟩ 34 w).mono ?_
 rintro e w' ⟨rfl,rfl⟩
 have e:decide (0≤Lib.indexByte s 34)=decide (0≤idxB s 34):=by
  have h1:=zY (s:=s) (c:=34)
  have h2:=Ck (s:=s) (c:=34)
  have h3:((34:UInt8).toNat:Int)=34:=rfl
  rw[h3] at h2
  simp only[h1,h2]
 exact⟨by simp[AVal.conc,e],Below.refl _ _⟩
theorem lR {G:Glo}(hU:ad G utfTy)(s:List UInt8)(hl:s.length≤9223372036854775807):FnIs Tryz.prog G 109 [.str s] (.bool (hdB false s)):=by
 have h1:=x8 hU s hl
 have h2:=ir (G:=G) s 127 (hdC false) hl (fun c _=>mv c)
 have hGL:ad G []:=ab
 refine fn_x Tryz.func109 Tryz.call109 rfl rfl rfl rfl hGL ?_
 intro C hC
 refine xw ?_;refine⟨fun h=> ?_,fun h=> ?_,.n⟩
 all_goals (apply ak;refine congrArg AVal.bool ?_;unfold hdB;rw[Bool.eq_iff_iff];simp only[jJ,decide_eq_true_eq,reduceCtorEq,false_iff];omega)
theorem pq {G:Glo}(hU:ad G utfTy)(s:List UInt8)(c:Bool)(hl:s.length≤1000000):FnIs Tryz.prog G 108 [.str s,.bool c] (.bool (mayV c s)):=by
 cases c with
 |true=>
  have hE:=nS (G:=G) s hl
  have hC1:=lR hU (encS s) (by have:=(fk s).2;omega)
  have hq1:=iM (G:=G) (encS s)
  have e:mayV true s=(hdB false (encS s)&&decide (idxB (encS s) 34<0)):=by unfold mayV eIf;rfl
  rw[e]
  have hGL:ad G []:=ab
  refine fn_x Tryz.func108 Tryz.call108 rfl rfl rfl rfl hGL ?_
  intro C hC
  refine xw ?_
  repeat' (first|exact Le.n|refine Lc.mk ?_ ?_)
  all_goals intros
  all_goals (apply ak;refine congrArg AVal.bool ?_;rw[show hdB false (encS s)=_ by assumption])
  all_goals (rw[Bool.eq_iff_iff];simp)
 |false=>
  have hC1:=lR hU s (by omega)
  have hq1:=iM (G:=G) s
  have e:mayV false s=(hdB false s&&decide (idxB s 34<0)):=by unfold mayV eIf;rfl
  rw[e]
  have hGL:ad G []:=ab
  refine fn_x Tryz.func108 Tryz.call108 rfl rfl rfl rfl hGL ?_
  intro C hC
  refine xw ?_
  repeat' (first|exact Le.n|refine Lc.mk ?_ ?_)
  all_goals intros
  all_goals (apply ak;refine congrArg AVal.bool ?_;rw[show hdB false s=_ by assumption])
  all_goals (rw[Bool.eq_iff_iff];simp)
theorem jF {G:Glo}(hU:ad G utfTy)(p:Ln)(c:Bool)(ho:p.Fit):FnIs Tryz.prog G 60 [p.A,.bool c] (.agg [.int .i64 (p.E c).e,.int .i64 (p.E c).p]):=by
  have n1:=nQ (G:=G) p.n (by have:=ho.n;omega)
  have n2:=nQ (G:=G) p.g (by have:=ho.g;omega)
  have hv:=lR hU p.v (by have:=ho.v;omega)
  have hps:=ho.ps
  have b5:=fb (G:=G) 5
  have b4:=fb (G:=G) 4
  have b3:=fb (G:=G) 3
  have b0:=fa (G:=G)
  have hGL:ad G []:=ab
  refine fn_x Tryz.func60 Tryz.call60 rfl rfl rfl rfl hGL ?_
  intro C hC
  refine xw ?_
  repeat' (first|exact Le.n|refine Lc.mk ?_ ?_)
  all_goals intros
  all_goals try (apply ak;first|(rw[Ln.E_5 (.inl (by assumption))];rfl)|(rw[Ln.E_5 (.inr ⟨by assumption,by assumption⟩)];rfl)|(rw[Ln.E_4 (by assumption) (.inl (by assumption)) (by omega)];rfl)|(rw[Ln.E_4 (by assumption) (.inr (by assumption)) (by omega)];rfl);done)
  all_goals
    have q1:isS p.n=true:=by assumption
    have q2:p.g.length=0∨isS p.g=true:=by first|exact .inl (by assumption)|exact .inr (by assumption)
    have q3:p.ps.length≤20:=by omega
    refine lp hC hGL (fun k:Nat=>[(1,.bool c),(2,.rop [.str p.g,.str p.n,.list 2 p.ps.length (prF p.ps),.str p.v] 0),(4,.own 0 (.pointer (some ⟨_,0,none⟩))),(31,.list 2 p.ps.length (prF p.ps)),(32,.int .i64 (p.ps.length:Nat)),(33,.int .i64 (k:Nat))]) (fun _=>[.cells _ (some 32) [.int .i64 0,.int .i64 0]]) (fun k=>k≤p.ps.length∧∀j,j<k→prE c (p.ps.getD j Pr.z)=0) (fun k=>p.ps.length-k) 0 ?_ ae rfl ?_
    · exact⟨Nat.zero_le _,fun j h=>absurd h (Nat.not_lt_zero _)⟩
    rintro k ⟨h1,h2⟩
    have hq:=ho.q k
    have n3:=nQ (G:=G) (p.ps.getD k Pr.z).n (by omega)
    refine xw ?_
    repeat' (first|exact Le.n|refine Lc.mk ?_ ?_)
    all_goals intros
    all_goals try (apply ak;first|(rw[Ln.E_3 q1 q2 q3 (by omega) h2 (by assumption)];rfl)|(rw[Ln.E_0 q1 q2 q3 (by omega) h2 (by assumption)];rfl);done)
    all_goals try (apply ak;first|(rw[Ln.E_at q1 q2 q3 (by omega) h2 (by rw[tK (by assumption)];decide),tK (by assumption)];rfl)|(rw[Ln.E_at q1 q2 q3 (by omega) h2 (by rw[yh (by assumption) (by omega)];decide),yh (by assumption) (by omega)];rfl);done)
    refine lp hC hGL (fun j:Nat=>[(1,.bool c),(2,.rop [.str p.g,.str p.n,.list 2 p.ps.length (prF p.ps),.str p.v] 0),(4,.own 0 (.pointer (some ⟨_,0,none⟩))),(5,.int .i64 (k:Nat)),(31,.list 2 p.ps.length (prF p.ps)),(32,.int .i64 (p.ps.length:Nat)),(33,.int .i64 (k:Nat)),(51,.list 1 (p.ps.getD k Pr.z).vs.length (aq (p.ps.getD k Pr.z).vs)),(52,.int .i64 ((p.ps.getD k Pr.z).vs.length:Nat)),(53,.int .i64 (j:Nat))]) (fun _=>[.cells _ (some 32) [.int .i64 0,.int .i64 0],.cells _ (some 60) [.str (p.ps.getD k Pr.z).n,.list 1 (p.ps.getD k Pr.z).vs.length (aq (p.ps.getD k Pr.z).vs)]]) (fun j=>j≤(p.ps.getD k Pr.z).vs.length∧mayJ c (p.ps.getD k Pr.z).vs j) (fun j=>(p.ps.getD k Pr.z).vs.length-j) 0 ?_ ae rfl ?_
    · exact⟨Nat.zero_le _,fun i hi=>absurd hi (Nat.not_lt_zero _)⟩
    rintro j ⟨g1,g2⟩
    have hj:=pq hU ((p.ps.getD k Pr.z).vs.getD j []) c (by have:=cL (l:=(p.ps.getD k Pr.z).vs) (k:=j);omega)
    refine xw ?_
    repeat' (first|exact Le.n|refine Lc.mk ?_ ?_)
    all_goals intros
    all_goals first
      |exact nxt (j+1) ⟨by omega,qd g2 (by assumption)⟩ (by omega) ae rfl
      |exact nxs (k+1) ⟨by omega,aQ h2 (EX (by assumption) (by omega) (ue (by omega) g2))⟩ (by omega) ae aB
      | (apply ak
         have e1:=EW (c:=c) (q:=p.ps.getD k Pr.z) (by assumption) (by omega) (ud (j:=j) (by omega) (by assumption))
         rw[Ln.E_at q1 q2 q3 (by omega) h2 (by rw[e1];decide),e1]
         rfl)
end
section
open Go Go.RowKit
theorem yP {c:Bool}:∀{l:List Pr} {i:Nat},(firE c l i).e=0→firE c l i= .none
 |[],_,_=>rfl
 |x::l,i,h=>by
  simp only[firE] at h ⊢
  split at h
  ·rename_i h0
   rw[if_pos h0]
   exact yP h
  ·rename_i h0
   exact absurd h h0
theorem Ln.E_zero {c:Bool}{p:Ln}(h:(p.E c).e=0):p.E c= .none:=by
 unfold Ln.E at h ⊢
 split at h
 ·cases h
 ·rename_i h1
  rw[if_neg h1]
  split at h
  ·cases h
  ·rename_i h2
   rw[if_neg h2]
   have:=yP (c:=c) (l:=p.ps) (i:=0)
   cases hf:firE c p.ps 0 with
   |none=>
    rw[hf] at h
    simp only at h ⊢
    split at h
    ·rename_i h3
     rw[if_pos h3]
    ·cases h
   |errno e=>
    rw[hf] at h this
    exact absurd (this h) (by simp)
   | «at» e q=>
    rw[hf] at h this
    exact absurd (this h) (by simp)
attribute [local irreducible] AWp AOps aa aA OrOk ad ah
attribute [local irreducible] hdC hdB badI isS mayV encS quoS psT hdT eIf quoC
theorem DM {G:Glo}(c:Int):FnIs Tryz.prog G 158 [.int .u8 c] (.bool (quoC c)):=by
 have hGL:ad G []:=ab
 refine fn_x Tryz.func158 Tryz.call158 rfl rfl rfl rfl hGL ?_
 intro C hC
 refine xw ?_
 repeat' (first|exact Le.n|refine Lc.mk ?_ ?_)
 all_goals intros
 all_goals (apply ak;refine congrArg AVal.bool ?_)
 all_goals (unfold quoC;rw[Bool.eq_iff_iff];simp only[dp,decide_eq_true_eq,reduceCtorEq,true_iff,false_iff];omega)
theorem AW {c:Bool}{vs:List (List UInt8)}{j:Nat}(hj:j<vs.length):(vs.map (quoS c)).take (j+1)=(vs.map (quoS c)).take j++[quoS c (vs.getD j [])]:=by
 rw[List.take_succ_eq_append_getElem (by simpa using hj),List.getElem_map,List.getD_eq_getElem?_getD,List.getElem?_eq_getElem hj]
 rfl
theorem po {G:Glo}(hU:ad G utfTy)(p:Ln)(c:Bool)(ho:p.Fit):FnIs Tryz.prog G 114 [p.A,.bool c] (.tuple [.str (p.T c),.agg [.int .i64 (p.E c).e,.int .i64 (p.E c).p]]):=by
  have h0:=jF hU p c ho
  have hI:=gF (G:=G) (p.E c).e (p.E c).p
  by_cases hz:(p.E c).e=0
  case neg=>
    rw[ic.2 hz] at hI
    rw[show p.T c=[] by
      unfold Ln.T
      split
      · rename_i hq;rw[hq] at hz;exact absurd rfl hz
      · rfl]
    have hGL:ad G []:=ab
    refine fn_x Tryz.func114 Tryz.call114 rfl rfl rfl rfl hGL ?_
    intro C hC
    refine xn1 ?_
    intro b1 b2
    refine dw_p mixed hC hGL false (fun(_:Unit)=>[(4,.str []),(5,.own 0 (.pointer (some ⟨b1,0,none⟩)))]) (fun _=>[.cells b1 (some 32) [.int .i64 (p.E c).e,.int .i64 (p.E c).p],.cells b2 (some 32) [.int .i64 (p.E c).e,.int .i64 (p.E c).p]]) (.br 0 (.take 1 (.br 2 (.done) (.nil))) (.br 1 (.br 0 (.br 2 (.done) (.nil)) (.nil)) (.nil))) (by kernel_rfl) ?_ ?_
    · refine xn ?_
      repeat' (first|exact Le.n|refine Lc.mk ?_ ?_)
      all_goals intros
      all_goals exact⟨(),⟨rfl,rfl,trivial⟩,rfl⟩
    · intro _
      exact xn0
  have hq:=Ln.E_zero hz
  rw[hq] at h0 hI
  rw[hq]
  simp only[Err.e,Err.p] at h0 hI ⊢
  rw[dp.2 rfl] at hI
  rw[show p.T c=p.txt c by unfold Ln.T;rw[hq],xQ]
  have hb0:=fa (G:=G)
  have i1:p.ps.length≤20:=by
    have h:=hq
    unfold Ln.E at h
    split at h
    · cases h
    · split at h
      · cases h
      · omega
  have i2:∀k,k<p.ps.length→(p.ps.getD k Pr.z).vs.length≠0∨True:=fun _ _=>.inr trivial
  have o1:=ho.g
  have o2:=ho.n
  have o3:=ho.v
  have o4:∀k,k≤p.ps.length→(psT c p.ps k).length≤20*15002:=fun k hk=>by
    have h1:=rB (c:=c) ho.q k hk
    rw[show 2+6*2500=15002 by decide] at h1
    have h2:=Nat.mul_le_mul_right 15002 (show k≤20 by omega)
    exact Nat.le_trans h1 h2
  have hd1:p.g.length≠0→p.g++[46]++p.n=hdT p:=fun h=>by unfold hdT;rw[if_neg h]
  have hd0:p.g.length=0→p.n=hdT p:=fun h=>by unfold hdT;rw[if_pos h]
  have hdl:(hdT p).length≤5001:=by
    unfold hdT
    split
    · omega
    · simp only[List.length_append,List.length_cons,List.length_nil];omega
  have hGL:ad G []:=ab
  refine fn_a Tryz.func114 Tryz.call114 rfl rfl rfl rfl ?_
  intro C hC
  refine cuty hC hGL (fun bl:Nat=>[(1,.bool c),(2,.rop [.str p.g,.str p.n,.list 2 p.ps.length (prF p.ps),.str p.v] 0),(5,.own 0 (.pointer (some ⟨bl,0,none⟩)))]) (fun bl=>[.cells bl (some 32) [.int .i64 0,.int .i64 0]]) (fun _=>True) ?_ fun b1 _=> ?_
  · refine xw1 ?_
    intro bl
    exact cy bl trivial
  refine cuty hC hGL (fun bl:Nat=>[(1,.bool c),(2,.rop [.str p.g,.str p.n,.list 2 p.ps.length (prF p.ps),.str p.v] 0),(5,.own 0 (.pointer (some ⟨b1,0,none⟩)))]) (fun bl=>[.cells b1 (some 32) [.int .i64 0,.int .i64 0],.cells bl (some 32) [.int .i64 0,.int .i64 (-1)]]) (fun _=>True) ?_ fun b2 _=> ?_
  · refine xw1 ?_
    intro bl
    exact cy bl trivial
  refine cut hC hGL [(1,.bool c),(2,.rop [.str p.g,.str p.n,.list 2 p.ps.length (prF p.ps),.str p.v] 0),(5,.own 0 (.pointer (some ⟨b1,0,none⟩))),(7,.str p.n)] [.cells b1 (some 32) [.int .i64 0,.int .i64 0],.cells b2 (some 32) [.int .i64 0,.int .i64 (-1)]] True ?_ fun _=> ?_
  · exact xw0
  refine cuty hC hGL (fun q:List UInt8=>[(1,.bool c),(2,.rop [.str p.g,.str p.n,.list 2 p.ps.length (prF p.ps),.str p.v] 0),(5,.own 0 (.pointer (some ⟨b1,0,none⟩))),(7,.str q)]) (fun _=>[.cells b1 (some 32) [.int .i64 0,.int .i64 0],.cells b2 (some 32) [.int .i64 0,.int .i64 (-1)]]) (fun q=>q=hdT p++psT c p.ps 0) ?_ fun q hq=> ?_
  · rw[show psT c p.ps 0=[] by unfold psT;rfl,List.append_nil]
    refine xn ?_
    repeat' (first|exact Le.n|refine Lc.mk ?_ ?_)
    all_goals intros
    all_goals first
      |exact cy _ (hd1 (by assumption))
      |exact cy _ (hd0 (by assumption))
  subst hq
  refine ap hC hGL ?_
  refine xn1 ?_
  refine lp hC hGL (fun k:Nat=>[(1,.bool c),(2,.rop [.str p.g,.str p.n,.list 2 p.ps.length (prF p.ps),.str p.v] 0),(5,.own 0 (.pointer (some ⟨b1,0,none⟩))),(7,.str (hdT p++psT c p.ps k)),(31,.list 2 p.ps.length (prF p.ps)),(32,.int .i64 (p.ps.length:Nat)),(33,.int .i64 (k:Nat))]) (fun _=>[.cells b1 (some 32) [.int .i64 0,.int .i64 0],.cells b2 (some 32) [.int .i64 0,.int .i64 (-1)]]) (fun k=>k≤p.ps.length) (fun k=>p.ps.length-k) 0 ?_ ae rfl ?_
  · exact Nat.zero_le _
  intro k h1
  have ol:=o4 k h1
  have hqk:=ho.q k
  refine xn ?_
  repeat' (first|exact Le.n|refine Lc.mk ?_ ?_)
  all_goals intros
  · rename_i b9 hkl
    have hkn:k<p.ps.length:=by omega
    have hsucc:=nV (c:=c) hkn
    have hpl:=yg c (p.ps.getD k Pr.z)
    have hjl:(Lib.join ((p.ps.getD k Pr.z).vs.map (quoS c)) [44]).length≤100000:=by
      have h2:=ot ((p.ps.getD k Pr.z).vs.map (quoS c))
      have h3:=kU c (p.ps.getD k Pr.z).vs
      rw[List.length_map] at h2
      omega
    refine iD 10 1 rfl ?_
    refine lp hC hGL (fun y:List (List UInt8)×Value=>[(1,.bool c),(2,.rop [.str p.g,.str p.n,.list 2 p.ps.length (prF p.ps),.str p.v] 0),(5,.own 0 (.pointer (some ⟨b1,0,none⟩))),(7,.str (hdT p++psT c p.ps k)),(9,.own 2 (.pointer (some ⟨b9,0,none⟩))),(10,.own 3 y.2),(31,.list 2 p.ps.length (prF p.ps)),(32,.int .i64 (p.ps.length:Nat)),(33,.int .i64 (k:Nat)),(38,.list 1 (p.ps.getD k Pr.z).vs.length (aq (p.ps.getD k Pr.z).vs)),(39,.int .i64 ((p.ps.getD k Pr.z).vs.length:Nat)),(40,.int .i64 (y.1.length:Nat))]) (fun y=>[.cells b1 (some 32) [.int .i64 0,.int .i64 0],.cells b2 (some 32) [.int .i64 0,.int .i64 (-1)],.cells b9 (some 60) [.str (p.ps.getD k Pr.z).n,.list 1 (p.ps.getD k Pr.z).vs.length (aq (p.ps.getD k Pr.z).vs)],.row y.2 none 1 y.1.length (aS y.1)]) (fun y=>y.1.length≤(p.ps.getD k Pr.z).vs.length∧y.1=((p.ps.getD k Pr.z).vs.map (quoS c)).take y.1.length) (fun y=>(p.ps.getD k Pr.z).vs.length-y.1.length) ([],.slice none 0 0) ?_ ae rfl ?_
    · exact⟨Nat.zero_le _,rfl⟩
    rintro⟨l,v⟩ ⟨g1,g2⟩
    dsimp only at g1 g2
    have hj1:=cL (l:=(p.ps.getD k Pr.z).vs) (k:=l.length)
    have hel:=sg c ((p.ps.getD k Pr.z).vs.getD l.length [])
    have hE:=nS (G:=G) ((p.ps.getD k Pr.z).vs.getD l.length []) (by omega)
    have hQ:=ir (G:=G) (eIf c ((p.ps.getD k Pr.z).vs.getD l.length [])) 158 quoC (by omega) (fun c _=>DM c)
    have hY:0≤fstB quoC (eIf c ((p.ps.getD k Pr.z).vs.getD l.length []))→quoS c ((p.ps.getD k Pr.z).vs.getD l.length [])=34::eIf c ((p.ps.getD k Pr.z).vs.getD l.length [])++[34]:=fun h=>by unfold quoS;rw[if_neg (by omega)]
    have hN:fstB quoC (eIf c ((p.ps.getD k Pr.z).vs.getD l.length []))<0→quoS c ((p.ps.getD k Pr.z).vs.getD l.length [])=eIf c ((p.ps.getD k Pr.z).vs.getD l.length []):=fun h=>by unfold quoS;rw[if_pos h]
    have hT:=fun(h:l.length<(p.ps.getD k Pr.z).vs.length)=>AW (c:=c) h
    have hx1:eIf true ((p.ps.getD k Pr.z).vs.getD l.length [])=encS ((p.ps.getD k Pr.z).vs.getD l.length []):=by unfold eIf;rfl
    have hx2:eIf false ((p.ps.getD k Pr.z).vs.getD l.length [])=(p.ps.getD k Pr.z).vs.getD l.length []:=by unfold eIf;rfl
    have fin:(p.ps.getD k Pr.z).vs.length≤l.length→l=(p.ps.getD k Pr.z).vs.map (quoS c):=fun h=>by rw[g2,List.take_of_length_le (by rw[List.length_map];omega)]
    have go:∀(w:List UInt8),w=quoS c ((p.ps.getD k Pr.z).vs.getD l.length [])→l.length<(p.ps.getD k Pr.z).vs.length→(l++[w]).length≤(p.ps.getD k Pr.z).vs.length∧l++[w]=((p.ps.getD k Pr.z).vs.map (quoS c)).take (l++[w]).length:=fun w hw h=>by
      rw[List.length_append,List.length_singleton,hT h,←g2,hw]
      exact⟨by omega,rfl⟩
    cases c
    all_goals
      simp only[hx1,hx2] at hQ hY hN hel
      refine xn ?_
      repeat' (first|exact Le.n|refine Lc.mk ?_ ?_)
      all_goals intros
      all_goals try dsimp only at*
    all_goals first
      | (refine nxt (l++[_],.slice _ _ _) (go _ (hY (by assumption)).symm (by omega)) (by dsimp only;rw[List.length_append,List.length_singleton];omega) ⟨rfl,rfl,rfl,rfl,rfl,rfl,rfl,rfl,rfl,rfl,rfl,?_,trivial⟩ ?_
         · show some (AVal.int .i64 (((l.length:Nat):Int)+1))=some (AVal.int .i64 ((l++[_]).length:Nat))
           rw[List.length_append];rfl
         · dsimp only
           rw[←co,List.length_append]
           rfl)
      | (refine nxt (l++[_],.slice _ _ _) (go _ (hN (by assumption)).symm (by omega)) (by dsimp only;rw[List.length_append,List.length_singleton];omega) ⟨rfl,rfl,rfl,rfl,rfl,rfl,rfl,rfl,rfl,rfl,rfl,?_,trivial⟩ ?_
         · show some (AVal.int .i64 (((l.length:Nat):Int)+1))=some (AVal.int .i64 ((l++[_]).length:Nat))
           rw[List.length_append];rfl
         · dsimp only
           rw[←co,List.length_append]
           rfl)
      |skip
    · obtain rfl:=fin (by omega)
      refine dw_p mixed hC hGL true (fun(_:Unit)=>[(1,.bool false),(2,.rop [.str p.g,.str p.n,.list 2 p.ps.length (prF p.ps),.str p.v] 0),(5,.own 0 (.pointer (some ⟨b1,0,none⟩))),(7,.str (hdT p++psT false p.ps (k+1))),(31,.list 2 p.ps.length (prF p.ps)),(32,.int .i64 (p.ps.length:Nat)),(33,.int .i64 (k:Nat))]) (fun _=>[.cells b1 (some 32) [.int .i64 0,.int .i64 0],.cells b2 (some 32) [.int .i64 0,.int .i64 (-1)],.cells b9 (some 60) [.str (p.ps.getD k Pr.z).n,.list 1 (p.ps.getD k Pr.z).vs.length (aq (p.ps.getD k Pr.z).vs)],.row v none 1 ((p.ps.getD k Pr.z).vs.map (quoS false)).length (aS ((p.ps.getD k Pr.z).vs.map (quoS false)))]) (.take 0 (.take 1 (.take 2 (.take 3 (.take 4 (.take 5 (.br 6 (.take 7 (.take 8 (.take 9 (.done)))) (.nil)))))))) (by kernel_rfl) ?_ ?_
      · refine xn1 ?_
        intro C hC
        refine aw (i:=3) rfl (cb ((p.ps.getD k Pr.z).vs.map (quoS false)) [44] v (by rw[List.length_map];omega) (by omega)) ?_
        have hlen:(hdT p++psT false p.ps k).length≤400000:=by rw[List.length_append];omega
        refine xn ?_
        repeat' (first|exact Le.n|refine Lc.mk ?_ ?_)
        all_goals intros
        all_goals
          refine⟨(),⟨rfl,rfl,rfl,?_,rfl,rfl,rfl,trivial⟩,rfl⟩
          rw[hsucc]
          unfold prT
          simp only[List.append_assoc,List.cons_append,List.nil_append]
          rfl
      · intro _
        refine xn1 ?_
        exact nxs (k+1) (by omega) (by omega) ae aB
    · obtain rfl:=fin (by omega)
      refine dw_p mixed hC hGL true (fun(_:Unit)=>[(1,.bool true),(2,.rop [.str p.g,.str p.n,.list 2 p.ps.length (prF p.ps),.str p.v] 0),(5,.own 0 (.pointer (some ⟨b1,0,none⟩))),(7,.str (hdT p++psT true p.ps (k+1))),(31,.list 2 p.ps.length (prF p.ps)),(32,.int .i64 (p.ps.length:Nat)),(33,.int .i64 (k:Nat))]) (fun _=>[.cells b1 (some 32) [.int .i64 0,.int .i64 0],.cells b2 (some 32) [.int .i64 0,.int .i64 (-1)],.cells b9 (some 60) [.str (p.ps.getD k Pr.z).n,.list 1 (p.ps.getD k Pr.z).vs.length (aq (p.ps.getD k Pr.z).vs)],.row v none 1 ((p.ps.getD k Pr.z).vs.map (quoS true)).length (aS ((p.ps.getD k Pr.z).vs.map (quoS true)))]) (.take 0 (.take 1 (.take 2 (.take 3 (.take 4 (.take 5 (.br 6 (.take 7 (.take 8 (.take 9 (.done)))) (.nil)))))))) (by kernel_rfl) ?_ ?_
      · refine xn1 ?_
        intro C hC
        refine aw (i:=3) rfl (cb ((p.ps.getD k Pr.z).vs.map (quoS true)) [44] v (by rw[List.length_map];omega) (by omega)) ?_
        have hlen:(hdT p++psT true p.ps k).length≤400000:=by rw[List.length_append];omega
        refine xn ?_
        repeat' (first|exact Le.n|refine Lc.mk ?_ ?_)
        all_goals intros
        all_goals
          refine⟨(),⟨rfl,rfl,rfl,?_,rfl,rfl,rfl,trivial⟩,rfl⟩
          rw[hsucc]
          unfold prT
          simp only[List.append_assoc,List.cons_append,List.nil_append]
          rfl
      · intro _
        refine xn1 ?_
        exact nxs (k+1) (by omega) (by omega) ae aB
  · have hkk:k=p.ps.length:=by omega
    subst hkk
    refine dw_p mixed hC hGL false (fun(_:Unit)=>[(4,.str (hdT p++psT c p.ps p.ps.length++[58]++p.v)),(5,.own 0 (.pointer (some ⟨b1,0,none⟩)))]) (fun _=>[.cells b1 (some 32) [.int .i64 0,.int .i64 (-1)],.cells b2 (some 32) [.int .i64 0,.int .i64 (-1)]]) (.take 0 (.take 1 (.take 2 (.take 3 (.take 4 (.br 5 (.take 6 (.br 7 (.done) (.nil))) (.nil))))))) (by kernel_rfl) ?_ ?_
    · refine xn ?_
      repeat' (first|exact Le.n|refine Lc.mk ?_ ?_)
      all_goals intros
      all_goals exact⟨(),⟨rfl,rfl,trivial⟩,rfl⟩
    · intro _
      exact xn0
end
section
open Go Go.RowKit
theorem zO {l:List (List UInt8)}{j:Nat}(h:j<l.length):Lib.lens (l.take (j+1))=Lib.lens (l.take j)+(l.getD j []).length:=
 Lib.lens_take_succ l j _ (by rw[List.getD_eq_getElem?_getD,List.getElem?_eq_getElem h];rfl)
theorem zP {l:List (List UInt8)}{j:Nat}(h:l.length≤j):Lib.lens (l.take j)=Lib.lens l:=by rw[List.take_of_length_le h]
def Pr.w (q:Pr):Nat:=q.n.length+q.vs.length+Lib.lens q.vs
def Ln.b (p:Ln):Nat:=p.ps.length+p.g.length+p.n.length+p.v.length
attribute [local irreducible] AWp AOps aa aA OrOk ad ah
theorem B5 {G:Glo}(p:Ln)(ho:p.OK 1048576):ah Tryz.prog G 9 [p.A] [] (fun r H=>(∃a,r= .ret a∧∃b,a= .bool b∧(b=false→p.OK 2500))∧H=[]):=by
 have o1:=ho.g
 have o2:=ho.n
 have o3:=ho.v
 have o4:=ho.ps
 have hGL:ad G []:=ab
 refine fn_x Tryz.func9 Tryz.call9 rfl rfl rfl rfl hGL ?_
 intro C hC
 refine xw1 ?_
 refine lp hC hGL (fun x:Nat×Nat=>[(3,.int .i64 (x.2:Nat)),(24,.list 2 p.ps.length (prF p.ps)),(25,.int .i64 (p.ps.length:Nat)),(26,.int .i64 (x.1:Nat))]) (fun _=>[]) (fun x=>x.1≤p.ps.length∧p.b≤x.2∧(∀j,j<x.1→p.b+(p.ps.getD j Pr.z).w≤x.2)∧x.2≤p.b+x.1*3145728) (fun x=>p.ps.length-x.1) (0,p.b) ?_ ae rfl ?_
 ·exact⟨Nat.zero_le _,Nat.le_refl _,fun j h=>absurd h (Nat.not_lt_zero _),by simp⟩
 rintro⟨k,n⟩ ⟨h1,h2,h3,h4⟩
 dsimp only at h1 h2 h3 h4
 have hq:=ho.q k
 have hbl:p.b≤4194304:=by unfold Ln.b;omega
 refine xw ?_
 repeat' (first|exact Le.n|refine Lc.mk ?_ ?_)
 all_goals intros
 ·refine lp hC hGL (fun x:Nat×Nat=>[(3,.int .i64 (x.2:Nat)),(24,.list 2 p.ps.length (prF p.ps)),(25,.int .i64 (p.ps.length:Nat)),(26,.int .i64 (k:Nat)),(40,.list 1 (p.ps.getD k Pr.z).vs.length (aq (p.ps.getD k Pr.z).vs)),(41,.int .i64 ((p.ps.getD k Pr.z).vs.length:Nat)),(42,.int .i64 (x.1:Nat))]) (fun _=>[.cells _ (some 60) [.str (p.ps.getD k Pr.z).n,.list 1 (p.ps.getD k Pr.z).vs.length (aq (p.ps.getD k Pr.z).vs)]]) (fun x=>x.1≤(p.ps.getD k Pr.z).vs.length∧x.2=n+((p.ps.getD k Pr.z).n.length+(p.ps.getD k Pr.z).vs.length)+Lib.lens ((p.ps.getD k Pr.z).vs.take x.1)) (fun x=>(p.ps.getD k Pr.z).vs.length-x.1) (0,n+((p.ps.getD k Pr.z).n.length+(p.ps.getD k Pr.z).vs.length)) ?_ ae rfl ?_
  ·exact⟨Nat.zero_le _,by simp[Lib.lens]⟩
  rintro⟨j,m⟩ ⟨g1,g2⟩
  dsimp only at g1 g2
  have hj1:=Lib.lens_take_le (p.ps.getD k Pr.z).vs j
  have hj2:=Lib.lens_take_le (p.ps.getD k Pr.z).vs (j+1)
  have hj3:j<(p.ps.getD k Pr.z).vs.length→_:=fun h=>zO h
  have hj4:(p.ps.getD k Pr.z).vs.length≤j→_:=fun h=>zP h
  refine xw ?_
  repeat' (first|exact Le.n|refine Lc.mk ?_ ?_)
  all_goals intros
  all_goals try dsimp only at*
  ·refine nxt (j+1,m+((p.ps.getD k Pr.z).vs.getD j []).length) ⟨by dsimp only;omega,?_⟩ (by dsimp only;omega) ae rfl
   dsimp only
   rw[hj3 (by omega)]
   omega
  ·have e:=hj4 (by omega)
   have hw:(p.ps.getD k Pr.z).w=(p.ps.getD k Pr.z).n.length+(p.ps.getD k Pr.z).vs.length+Lib.lens (p.ps.getD k Pr.z).vs:=rfl
   refine nxs (k+1,m) ⟨by dsimp only;omega,by dsimp only;omega,aQ (fun j hj=>by have:=h3 j hj;dsimp only;omega) (by dsimp only;omega),by dsimp only;omega⟩ (by dsimp only;omega) ae aB
 ·refine⟨[],List.nil_sublist _,⟨_,rfl,_,rfl,fun h=> ?_⟩,rfl⟩
  have h:=g8.1 h
  dsimp only at h
  have hn:n≤2500:=by omega
  unfold Ln.b at h2 h3
  refine⟨by omega,by omega,by omega,by omega,fun j=> ?_⟩
  by_cases hj:j<p.ps.length
  ·have:=h3 j (by omega)
   unfold Pr.w at this
   omega
  ·rw[List.getD_eq_getElem?_getD,List.getElem?_eq_none (by omega)]
   exact⟨by simp[Pr.z],by simp[Pr.z],by simp[Pr.z,Lib.lens]⟩
end
section
open Go Go.RowKit
attribute [local irreducible] AWp AOps aa aA OrOk ad ah
attribute [local irreducible] hdC hdB badI
theorem mm {G:Glo}(s:List UInt8)(b:Bool)(hl:s.length≤9223372036854775807):FnIs Tryz.prog G 94 [.str s,.bool b] (.bool (hdB b s)):=by
 have hB:=xN (G:=G) s hl
 have hGL:ad G []:=ab
 refine fn_x Tryz.func94 Tryz.call94 rfl rfl rfl rfl hGL ?_
 intro C hC
 refine xw1 ?_
 refine lp hC hGL (fun i:Nat=>[(0,.str s),(1,.bool b),(8,.int .i64 (s.length:Nat)),(9,.int .i64 (i:Nat))]) (fun _=>[]) (fun i=>i≤s.length∧∀j,j<i→hdC b (aa s j:Int)=false) (fun i=>s.length-i) 0 ?_ ae rfl ?_
 ·exact⟨Nat.zero_le _,fun j h=>absurd h (Nat.not_lt_zero _)⟩
 rintro i ⟨h1,h2⟩
 refine xw ?_
 repeat' (first|exact Le.n|refine Lc.mk ?_ ?_)
 all_goals intros
 all_goals first
  |(apply ak;rw[Co (i:=i) (by omega) (by first|exact kX (.inl (by omega))|exact kX (.inr (.inl (by omega)))|exact kX (.inr (.inr ⟨by omega,by assumption⟩))) h2];rfl)
  |(refine nxt (i+1) ⟨by omega,bG h2 (by first|exact rU (by omega) (.inl (by omega))|exact rU (by omega) (.inr (.inl (by omega)))|exact rU (by omega) (.inr (.inr ⟨by omega,by assumption⟩)))⟩ (by omega) ae rfl)
  |(apply ak;rw[yG (i:=i) (by omega) h2])
theorem ru {G:Glo}(s:List UInt8)(f:Nat)(cs:List AVal)(p:Int→Bool)(hl:s.length≤9223372036854775807)(hp:∀c:Nat,c<256→FnIs Tryz.prog G f [.int .u8 (c:Int),.rop cs 0] (.bool (p c))):FnIs Tryz.prog G 125 [.str s,.func (.func f) [] [.rop cs 0]] (.int .i64 (fstB p s)):=by
 have k1:=fun i (_:0≤(aa s i:Int))=>hp (aa s i) (aO s i)
 have hGL:ad G []:=ab
 refine fn_x Tryz.func125 Tryz.call125 rfl rfl rfl rfl hGL ?_
 intro C hC
 refine xw1 ?_
 intro bl cap hcap
 refine lp hC hGL (fun(i:Nat)=>[(1,.func (.func f) [] [.rop cs 0]),(8,.own 0 (.slice (some ⟨bl,0,none⟩) s.length cap)),(9,.int .i64 s.length),(10,.int .i64 i)]) (fun _=>[.buf bl s cap]) (fun i=>i≤s.length∧∀j,j<i→p (aa s j:Int)=false) (fun i=>s.length-i) 0 ?_ ae rfl ?_
 ·exact⟨Nat.zero_le _,fun j h=>absurd h (Nat.not_lt_zero _)⟩
 rintro i ⟨hi,hb0⟩
 refine xw ?_
 repeat' (first|exact Le.n|refine Lc.mk ?_ ?_)
 all_goals intros
 all_goals first
  |(apply ak;rw[gN (i:=i) (by omega) (by assumption) hb0])
  |(refine nxt (i+1) ⟨by omega,bG hb0 (by assumption)⟩ (by omega) ae rfl)
  |(apply ak;rw[dP (fun j hj=>hb0 j (by omega))];rfl)
theorem wf {G:Glo}(b:Bool)(c:Int):FnIs Tryz.prog G 126 [.int .u8 c,.rop [.bool b] 0] (.bool (hdC b c)):=by
 have h:=mv (G:=G) c
 have hGL:ad G []:=ab
 refine fn_x Tryz.func126 Tryz.call126 rfl rfl rfl rfl hGL ?_
 intro C hC
 refine xw ?_;refine⟨fun h1 h2=> ?_,fun h1 h2=> ?_,fun h1=> ?_,.n⟩
 all_goals (apply ak;refine congrArg AVal.bool ?_;first|rw[qr] at h1|rw[←Bool.not_eq_true,qr] at h1)
 ·rcases h1 with h1|h1
  ·exact(kX (.inl ⟨h1.1,h1.2,h2⟩)).symm
  ·exact(kX (.inr (.inl h1))).symm
 ·rw[Bool.eq_iff_iff];cases b
  ·rw[qr];simp;omega
  ·rw[E4];simp;omega
 ·cases b
  ·rw[Bool.eq_iff_iff,qr];simp;omega
  ·rw[Bool.eq_iff_iff,E4];simp;omega
theorem lS {G:Glo}(hU:ad G utfTy)(s:List UInt8)(b:Bool)(hl:s.length≤9223372036854775807):FnIs Tryz.prog G 73 [.str s,.bool b] (.bool (hdB b s)):=by
 have h1:=x8 hU s hl
 have h2:=ru (G:=G) s 126 [.bool b] (hdC b) hl (fun c _=>wf b c)
 have hGL:ad G []:=ab
 refine fn_x Tryz.func73 Tryz.call73 rfl rfl rfl rfl hGL ?_
 intro C hC
 refine xw ?_;refine⟨fun h=> ?_,fun h=> ?_,.n⟩
 all_goals (apply ak;refine congrArg AVal.bool ?_;unfold hdB;rw[Bool.eq_iff_iff];simp only[jJ,decide_eq_true_eq,reduceCtorEq,false_iff];omega)
end
section
open Go
def andL:List Bool→Bool
 |[]=>true
 |b::l=>b&&andL l
def qv (P:Program)[Tab P](cs ds:List AVal):List Field→Option (List Bool)
 |[]=>some []
 |f::fs=>match tab P f.type,cs[f.offset]?,ds[f.offset]?,qv P cs ds fs with
  |some x,some a,some b,some l=>match x.desc,a,b with
   |.int _,.int k m,.int j q=>match Nat.beq (kix k) (kix j) with
    |true=>some (eqB m q::l)
    |false=>none
   |.string,.str s,.str t=>some (seqB s t::l)
   |.bool,.bool s,.bool t=>some ((s==t)::l)
   |_,_,_=>none
  |_,_,_,_=>none
theorem tO {P:Program}[Tab P]{xs:Array Value}{v:Value}{t:TypeId}{x:TI}{o:Nat}(ht:tab P t=some x)(hd:a8 x.desc=false)(hv:xs[o]? =some v)(w:World):(part t xs o).run P w= .ok v w:=by
 simp only[part,Sem.run_bind,bL ht,hd,Result.andThen_ok,Bool.false_eq_true,if_false,hv,Sem.run_pure]
theorem gQ {P:Program}[Tab P]{R:Seal}{cs ds:List AVal}{xs ys:Array Value}(ha:RelL R cs xs.toList)(hb:RelL R ds ys.toList)(d:Nat)(w:World):
  ∀(fs:List Field) (l:List Bool),(fs.all fun f=>f.name != "_")=true→qv P cs ds fs=some l→(Op.eqFields (d+1) xs ys fs).run P w= .ok (andL l) w
 |[],l,_,h=>by
  simp only[qv,Option.some.injEq] at h
  subst h
  rfl
 |f::fs,l,hn,h=>by
  simp only[List.all_cons,Bool.and_eq_true,bne_iff_ne,ne_eq] at hn
  simp only[qv] at h
  split at h
  ·rename_i x a b l' ht h1 h2 h3
   have ih:=gQ ha hb d w fs l' hn.2 h3
   obtain⟨va,e1,r1⟩:=bV ha h1
   obtain⟨vb,e2,r2⟩:=bV hb h2
   have e1:xs[f.offset]? =some va:=by simpa using e1
   have e2:ys[f.offset]? =some vb:=by simpa using e2
   have fin:∀r:Bool,a8 x.desc=false→(Op.equalIn (d+1) f.type va vb).run P w= .ok r w→(Op.eqFields (d+1) xs ys (f::fs)).run P w= .ok (andL (r::l')) w:=by
    intro r hd hr
    simp only[Op.eqFields,ne_eq,hn.1,not_false_eq_true,if_true,Sem.run_bind,tO ht hd e1,tO ht hd e2,Result.andThen_ok,hr]
    cases r
    ·rfl
    ·exact ih
   split at h
   ·rename_i q1 k m j q hd
    split at h
    ·rename_i hk
     cases h
     obtain rfl:=on hk
     obtain rfl:=am.1 (bH r1 rfl)
     obtain rfl:=am.1 (bH r2 rfl)
     refine fin _ (by rw[hd];rfl) ?_
     rw[run_equalIn_int w d f.type _ _ _ _ (by rw[a6 ht,hd])]
     unfold eqB
     rfl
    ·cases h
   ·rename_i s t hd
    cases h
    obtain rfl:=aE.1 (bH r1 rfl)
    obtain rfl:=aE.1 (bH r2 rfl)
    refine fin _ (by rw[hd];rfl) ?_
    rw[run_equalIn_string w d f.type _ _ (by rw[a6 ht,hd])]
    rw[ByteArray.toList_eq,ByteArray.toList_eq]
    unfold seqB
    simp
   ·rename_i s t hd
    cases h
    obtain rfl:=aH.1 (bH r1 rfl)
    obtain rfl:=aH.1 (bH r2 rfl)
    exact fin _ (by rw[hd];rfl) (run_equalIn_bool' w d f.type _ _ (by rw[a6 ht,hd]))
   ·cases h
  ·cases h
section
variable {P:Program} [Tab P] {C:Ctx} {env:Env} {H:Heap} {x y:Operand} {T ty:TypeId}
theorem sC {R:Seal}{cs:List AVal}{v:Value}(h:Rel R (.agg cs) v):∃vs,v= .agg vs∧RelL R cs vs.toList:=by
 obtain⟨h1,h2⟩:=h
 cases v<;>first|exact⟨_,rfl,h1⟩|(simp[AVal.isAgg,vAgg] at h2)
theorem Bj {cs ds:List AVal}{fs:Array Field}{l:List Bool}{xT:TI}(b:Bool)(hx:ai env x=some (.agg cs))(hy:ai env y=some (.agg ds))(h1:tab P T=some xT)(h2:xT.desc= .struct fs)
  (h3:P.stoodInHeld T=false) (h4:P.eqGuardType P.depth T=false) (h5:(fs.toList.all fun f=>f.name != "_")=true) (h6:qv P cs ds fs.toList=some l) (hb:andL l=b):RunV P C H env (.binOp .eql T x y ty) (.bool b):=by
 intro R ρ w hm hf dst t p af g
 refine⟨_,?_,aH.2 rfl⟩
 obtain⟨xs,ex,rx⟩:=sC (hf _ _ hx)
 obtain⟨ys,ey,ry⟩:=sC (hf _ _ hy)
 have hu:P.underlying T=some (.struct fs):=by rw[a6 h1,h2]
 have hfo:P.fieldsOf T=fs:=by unfold Program.fieldsOf;rw[hu]
 have e1:(Op.equalIn 10000 T (.agg xs) (.agg ys)).run P w= .ok b w:=by
  rw[show(10000:Nat)=9999+1 from rfl,run_equalIn_agg w 9999 T xs ys (by rw[hfo];exact hu) h3,hfo]
  subst hb
  exact gQ rx ry 9998 w _ _ h5 h6
 simp only[execOp,ex,ey,Sem.run_bind,run_eql_struct,e1,run_eqGuard_agg w .eql T x y xs ys h4,Result.andThen_ok,Sem.run_pure]
theorem pV {cs ds:List AVal}{fs:Array Field}{l:List Bool}{xT:TI}(b:Bool)(hx:ai env x=some (.agg cs))(hy:ai env y=some (.agg ds))(h1:tab P T=some xT)(h2:xT.desc= .struct fs)
  (h3:P.stoodInHeld T=false) (h4:P.eqGuardType P.depth T=false) (h5:(fs.toList.all fun f=>f.name != "_")=true) (h6:qv P cs ds fs.toList=some l) (hb:andL l=b):RunV P C H env (.binOp .neq T x y ty) (.bool (!b)):=by
 intro R ρ w hm hf dst t p af g
 refine⟨_,?_,aH.2 rfl⟩
 obtain⟨xs,ex,rx⟩:=sC (hf _ _ hx)
 obtain⟨ys,ey,ry⟩:=sC (hf _ _ hy)
 have hu:P.underlying T=some (.struct fs):=by rw[a6 h1,h2]
 have hfo:P.fieldsOf T=fs:=by unfold Program.fieldsOf;rw[hu]
 have e1:(Op.equalIn 10000 T (.agg xs) (.agg ys)).run P w= .ok b w:=by
  rw[show(10000:Nat)=9999+1 from rfl,run_equalIn_agg w 9999 T xs ys (by rw[hfo];exact hu) h3,hfo]
  subst hb
  exact gQ rx ry 9998 w _ _ h5 h6
 simp only[execOp,ex,ey,Sem.run_bind,run_neq_struct,e1,run_eqGuard_agg w .neq T x y xs ys h4,Result.andThen_ok,Sem.run_pure]
end
end
section
open Go Go.RowKit
attribute [local irreducible] AWp AOps aa aA OrOk ad ah
attribute [local irreducible] hdC hdB badI fU
theorem ny {G:Glo}(hGL:ad G errTy)(x:Err):FnIs Tryz.prog G 95 [x.A] x.b.A:=by
 have h:=o5 hGL x
 cases x
 all_goals
  refine fn_x Tryz.func95 Tryz.call95 rfl rfl rfl rfl hGL ?_
  intro C hC
  exact xw0
theorem nt (t:Stm):andL [eqB t.y 0,eqB t.m 0,eqB t.d 0,eqB t.h 0,eqB t.i 0,eqB t.s 0,t.z==false,eqB t.o 0]=fU t:=by
 unfold fU
 rw[Bool.eq_iff_iff]
 simp only[andL,Bool.and_eq_true,dp,Bool.and_true,decide_eq_true_eq,beq_iff_eq]
theorem vx {G:Glo}(v:Vl):FnIs Tryz.prog G 93 [v.A] (.bool v.only):=by
 have hz:=nt v.st
 have hGL:ad G []:=ab
 refine fn_x Tryz.func93 Tryz.call93 rfl rfl rfl rfl hGL ?_
 intro C hC
 refine xw ?_
 repeat' (first|exact Le.n|refine Lc.mk ?_ ?_)
 all_goals intros
 all_goals try (refine aF hC hGL (Bj (fU v.st) rfl rfl rfl rfl (by kernel_rfl) (by kernel_rfl) (by kernel_rfl) rfl hz) rfl rfl ?_;refine xw ?_)
 repeat' (first|exact Le.n|refine Lc.mk ?_ ?_)
 all_goals intros
 all_goals (apply ak;refine congrArg AVal.bool ?_;rw[Bool.eq_iff_iff];unfold Vl.only;rw[decide_eq_true_eq];cases hq:fU v.st<;>first|exact absurd (hq.symm.trans (show fU v.st=true by assumption)) (by decide)|exact absurd (hq.symm.trans (show fU v.st=false by assumption)) (by decide)|(simp only[hq,dp,reduceCtorEq,true_iff,false_iff,true_or,false_or,iff_true,true_and,and_true];omega))
theorem yn {L:List (List (List UInt8))}{k:Nat}(hk:k<L.length)(h1:k≤bR L)(h0:(L.getD k []).length=0):bR L<L.length:=by
 rw[lU hk h1 (List.eq_nil_of_length_eq_zero h0)]
 exact hk
theorem tW {L:List (List (List UInt8))}{k:Nat}(hk:k<L.length)(h1:k≤bR L)(h0:(L.getD k []).length≠0):k+1≤bR L:=jY hk h1 (fun h=>h0 (by rw[h];rfl))
def hdK (L:List (List (List UInt8)))(k:Nat):Prop:=∀i,i<k→(L.getD i []).all (hdB true)=true
def hdJ (l:List (List UInt8))(j:Nat):Prop:=∀i,i<j→hdB true (l.getD i [])=true
theorem yF {l:List (List UInt8)}{j:Nat}(hj:l.length≤j)(h:hdJ l j):l.all (hdB true)=true:=by
 rw[List.all_eq_true]
 intro x hx
 obtain⟨i,hi,rfl⟩:=List.getElem_of_mem hx
 have:=h i (by omega)
 rwa [List.getD_eq_getElem?_getD,List.getElem?_eq_getElem hi] at this
theorem yE {l:List (List UInt8)}{j:Nat}(hj:j<l.length)(h:hdB true (l.getD j [])=false):l.all (hdB true)=false:=by
 rw[List.all_eq_false]
 refine⟨l[j],List.getElem_mem hj,?_⟩
 rw[List.getD_eq_getElem?_getD,List.getElem?_eq_getElem hj] at h
 simpa using h
theorem yD {L:List (List (List UInt8))}{k:Nat}(hk:L.length≤k)(h:hdK L k):hdL L=true:=by
 unfold hdL
 rw[List.all_eq_true]
 intro x hx
 obtain⟨i,hi,rfl⟩:=List.getElem_of_mem hx
 have:=h i (by omega)
 rwa [List.getD_eq_getElem?_getD,List.getElem?_eq_getElem hi] at this
theorem yC {L:List (List (List UInt8))}{k:Nat}(hk:k<L.length)(h:(L.getD k []).all (hdB true)=false):hdL L=false:=by
 unfold hdL
 rw[List.all_eq_false]
 refine⟨L[k],List.getElem_mem hk,?_⟩
 rw[List.getD_eq_getElem?_getD,List.getElem?_eq_getElem hk] at h
 simpa using h
theorem ux {l:List (List UInt8)}{j:Nat}(h:hdJ l j)(k:hdB true (l.getD j [])=true):hdJ l (j+1):=fun i hi=>by
 rcases Nat.lt_succ_iff_lt_or_eq.1 hi with h1|rfl
 ·exact h i h1
 ·exact k
theorem uw {L:List (List (List UInt8))}{j:Nat}(h:hdK L j)(k:(L.getD j []).all (hdB true)=true):hdK L (j+1):=fun i hi=>by
 rcases Nat.lt_succ_iff_lt_or_eq.1 hi with h1|rfl
 ·exact h i h1
 ·exact k
end
section
open Go Go.RowKit
attribute [local irreducible] AWp AOps aA OrOk ad ah aa
abbrev AV (a b c:Int):AVal:=.list 1 3 (bc [(0,.int .i64 a),(1,.int .i64 b),(2,.int .i64 c)])
theorem iT {G:Glo}(a b c:Int):FnIs Tryz.prog G 103 [AV a b c] (.str (fmS (tlB a) (tlB b) (tlB c))):=by
 by_cases h1:a= -1
 all_goals by_cases h2:b= -1
 all_goals by_cases h3:c= -1
 all_goals
  have hGL:ad G []:=ab
  refine fn_x Tryz.func103 Tryz.call103 rfl rfl rfl rfl hGL ?_
  intro C hC
  refine xw1 ?_
  intros
  refine dL (m:=3) hC hGL rfl rfl (by omega) rfl rfl rfl rfl rfl rfl rfl rfl (fun bo=> ?_)
  refine xw1 ?_
  intros
  refine rds hC hGL 4 ?_
  refine xw1 ?_
  intros
  refine sp_i ⟨rfl,rfl⟩ ?_
  apply ak
  simp only[tlB,h1,h2,h3,ne_eq,not_true_eq_false,not_false_eq_true,decide_true,decide_false]
  rfl
theorem sH {G:Glo}(n lo hi:Int):FnIs Tryz.prog G 147 [.int .i64 n,.int .i64 lo,.int .i64 hi] (.bool (witB n lo hi)):=by
 have hGL:ad G []:=ab
 refine fn_x Tryz.func147 Tryz.call147 rfl rfl rfl rfl hGL ?_
 intro C hC
 refine xw ?_
 repeat' (first|exact Le.n|refine Lc.mk ?_ ?_)
 all_goals intros
 all_goals (apply ak;refine congrArg AVal.bool ?_;rw[Bool.eq_iff_iff];simp only[nv,reduceCtorEq,false_iff,true_iff,Bool.not_eq_true',g8];omega)
theorem y8 {G:Glo}(y m:Int):FnIs Tryz.prog G 146 [.int .i64 y,.int .i64 m] (.int .i64 (dayN y m)):=by
 have hGL:ad G []:=ab
 refine fn_x Tryz.func146 Tryz.call146 rfl rfl rfl rfl hGL ?_
 intro C hC
 refine xw ?_
 repeat' (first|exact Le.n|refine Lc.mk ?_ ?_)
 all_goals intros
 all_goals (apply ak;refine congrArg (AVal.int .i64) ?_;unfold dayN;(repeat' split)<;>omega)
theorem AJ {G:Glo}(n:Int)(h0:0≤n)(h1:n<100):FnIs Tryz.prog G 104 [.int .i64 n,.int .i64 2] (.str (twoS n)):=by
 have hGL:ad G []:=ab
 refine fn_x Tryz.func104 Tryz.call104 rfl rfl rfl rfl hGL ?_
 intro C hC
 refine xw1 ?_
 intros
 refine dL (m:=2) hC hGL rfl rfl (by omega) rfl rfl rfl rfl rfl rfl rfl rfl (fun bo=> ?_)
 refine xw1 ?_
 intros
 refine rds hC hGL 3 ?_
 refine xw1 ?_
 intros
 refine sp_i ⟨rfl,rfl⟩ ?_
 apply ak
 refine congrArg AVal.str ?_
 show[UInt8.ofNat (48+n/10%10).toNat,UInt8.ofNat (48+n%10).toNat]=twoS n
 rw[show n/10%10=n/10 by omega]
 rfl
theorem y7 {G:Glo}(n:Int)(h0:0≤n)(h1:n<10000):FnIs Tryz.prog G 104 [.int .i64 n,.int .i64 4] (.str (eo n)):=by
 have hGL:ad G []:=ab
 refine fn_x Tryz.func104 Tryz.call104 rfl rfl rfl rfl hGL ?_
 intro C hC
 refine xw1 ?_
 intros
 refine dL (m:=4) hC hGL rfl rfl (by omega) rfl rfl rfl rfl rfl rfl rfl rfl (fun bo=> ?_)
 refine xw1 ?_
 intros
 refine rds hC hGL 5 ?_
 refine xw1 ?_
 intros
 refine sp_i ⟨rfl,rfl⟩ ?_
 apply ak
 refine congrArg AVal.str ?_
 unfold eo aU
 rw[show n/1000=n/10/10/10%10 by omega,show n/100%10=n/10/10%10 by omega]
 rfl
theorem BB {G:Glo}(y m:Int):FnIs Tryz.prog G 132 [.int .i64 y,.int .i64 m] (.int .i64 (dayN y m)):=by
 have hw:=cE (G:=G) m 1 12
 have h4:y.tmod 400=0→y.tmod 4=0∧y.tmod 100=0:=fun h=>by
  have hd:=Int.dvd_of_tmod_eq_zero h
  exact⟨Int.tmod_eq_zero_of_dvd (Int.dvd_trans (by decide) hd),Int.tmod_eq_zero_of_dvd (Int.dvd_trans (by decide) hd)⟩
 by_cases hm:1≤m∧m≤12
 ·rw[show(decide (1≤m)&&decide (m≤12))=true by simp[hm]] at hw
  rcases(show m=1∨m=2∨m=3∨m=4∨m=5∨m=6∨m=7∨m=8∨m=9∨m=10∨m=11∨m=12 by omega) with rfl|rfl|rfl|rfl|rfl|rfl|rfl|rfl|rfl|rfl|rfl|rfl
  all_goals
   have hGL:ad G []:=ab
   refine fn_x Tryz.func132 Tryz.call132 rfl rfl rfl rfl hGL ?_
   intro C hC
   refine xw ?_
   repeat' (first|exact Le.n|refine Lc.mk ?_ ?_)
   all_goals intros
   all_goals (apply ak;refine congrArg (AVal.int .i64) ?_;unfold dayN;(repeat' split)<;>first|rfl|omega)
 ·rw[show(decide (1≤m)&&decide (m≤12))=false by simp;omega] at hw
  have hGL:ad G []:=ab
  refine fn_x Tryz.func132 Tryz.call132 rfl rfl rfl rfl hGL ?_
  intro C hC
  refine xw1 ?_
  intros
  apply ak
  refine congrArg (AVal.int .i64) ?_
  unfold dayN
  rw[if_pos (by omega)]
end
section
open Go Go.RowKit
def datA:List UInt8:=[32,45,45,45,32,57,45,45,32,57,57,45,32,57,57,57,32,45,57,45,32,45,57,57,32,45,45,57,32]
def datB:List UInt8:=[32,57,57,57,32,45,57,57,32,45,45,57,32]
def timB:List UInt8:=[32,57,45,45,32,57,57,45,32,57,57,57,32]
def cnB (l:List UInt8)(a b c:Bool):Bool:=Lib.contains l (([32]++fmS a b c)++[32])
theorem cnA:∀a b c:Bool,cnB datA a b c=decide (0≤whN a b c):=by decide
theorem cnD:∀a b c:Bool,cnB datB a b c=decide (whN a b c=3∨whN a b c=5∨whN a b c=6):=by decide
theorem cnT:∀a b c:Bool,cnB timB a b c=decide (1≤whN a b c∧whN a b c≤3):=by decide
theorem wO:∀a b c:Bool,fmS a b c=[45,45,45]↔whN a b c=0:=by decide
theorem E8:∀a b c d e f:Bool,fmS a b c=fmS d e f↔whN a b c=whN d e f:=by decide
theorem xL:∀a b c:Bool, -1≤whN a b c∧whN a b c≤6:=by decide
def FrmP (d t:Int)(z:Bool)(h o:Int):Prop:=(0≤d∧0≤t∧¬(d=0∧t=0)∧(0<d∧0<t→(d=3∨d=5∨d=6)∧t≤3))∧(if z then h≠ -1 else o=0)
theorem fD (t:Stm):t.frm=true↔FrmP t.dn t.tn t.z t.h t.o:=by
 unfold Stm.frm FrmP okN
 rw[Bool.and_eq_true,decide_eq_true_eq]
 refine and_congr Iff.rfl ?_
 cases t.z<;>simp[gY]
theorem ni {G:Glo}{m:Int}(hU:ad G (bW m))(l:List UInt8)(hl:l.length<100000)(a b c:Bool):FnIs Tryz.prog G 111 [.str l,.str (([32]++fmS a b c)++[32])] (.bool (cnB l a b c)):=fZ hU l _ hl
theorem E_3 {t:Stm}(h:¬FrmP t.dn t.tn t.z t.h t.o):t.E= .errno 3:=by
 unfold Stm.E
 rw[if_neg (fun k=>h ((fD t).1 k))]
theorem E_2 {t:Stm}(h:FrmP t.dn t.tn t.z t.h t.o)(k:t.rng=false):t.E= .errno 2:=by
 unfold Stm.E
 rw[if_pos ((fD t).2 h),k]
 rfl
theorem E_0 {t:Stm}(h:FrmP t.dn t.tn t.z t.h t.o)(k:t.rng=true):t.E= .none:=by
 unfold Stm.E
 rw[if_pos ((fD t).2 h),k]
 rfl
attribute [local irreducible] AWp AOps aA OrOk ad ah aa
attribute [local irreducible] fmS cnB witB tlB dayN zrB
theorem gt {G:Glo}{m:Int}(hU:ad G (bW m))(t:Stm):FnIs Tryz.prog G 97 [t.A] t.E.A:=by
 have h1:=iT (G:=G) t.y t.m t.d
 have h2:=iT (G:=G) t.h t.i t.s
 have h3a:=ni (G:=G) hU datA (by decide) (tlB t.y) (tlB t.m) (tlB t.d)
 have h3b:=ni (G:=G) hU datB (by decide) (tlB t.y) (tlB t.m) (tlB t.d)
 have h4a:=ni (G:=G) hU datA (by decide) (tlB t.h) (tlB t.i) (tlB t.s)
 have h4b:=ni (G:=G) hU timB (by decide) (tlB t.h) (tlB t.i) (tlB t.s)
 rw[cnA] at h3a h4a
 rw[cnD] at h3b
 rw[cnT] at h4b
 have k1:=wO (tlB t.y) (tlB t.m) (tlB t.d)
 have k2:=wO (tlB t.h) (tlB t.i) (tlB t.s)
 have k3:=E8 (tlB t.y) (tlB t.m) (tlB t.d) (tlB t.h) (tlB t.i) (tlB t.s)
 have k4:=xL (tlB t.y) (tlB t.m) (tlB t.d)
 have k5:=xL (tlB t.h) (tlB t.i) (tlB t.s)
 have h5:=y8 (G:=G) t.y t.m
 have h6:=fun n lo hi=>sH (G:=G) n lo hi
 have h7:=jQ (G:=G) t.o
 have l1:(fmS (tlB t.y) (tlB t.m) (tlB t.d)).length=3:=by unfold fmS;rfl
 have l2:(fmS (tlB t.h) (tlB t.i) (tlB t.s)).length=3:=by unfold fmS;rfl
 have hGL:ad G []:=ab
 refine fn_x Tryz.func97 Tryz.call97 rfl rfl rfl rfl hGL ?_
 intro C hC
 repeat' (first|(conv=>whnf);first|refine .w ?_|refine .v ?_|refine sc_c ?_ ?_<;>(intro hb;try exact dd hb)|apply ao|apply aG|(apply sc_i<;>intro hb)|(apply bx_i;intro hbd)|(apply ax;first|fail)|(apply aw (i:=0) rfl;first|fail)|(apply ab_i;intro bl)|(apply as_i;intro va vk vc hva)|(apply av_i;intro v)|(apply ac_i;intro bl cap hcap)|apply bo_l|(apply nx_i<;>intro hnx)|exact True.intro|(apply bc_i;intro C hC)|apply bt_i|apply og_n|(apply og_a;exact rfl)|(show Rt _ _ _;exact rt_w)|fail)
 all_goals try conv=>whnf
 refine dw_p mixed hC hGL false (fun(_:Unit)=>[(1,.rop [.int .i64 t.y,.int .i64 t.m,.int .i64 t.d,.int .i64 t.h,.int .i64 t.i,.int .i64 t.s,.bool t.z,.int .i64 t.o] 0),(2,.raw .nilIface),(3,.str (fmS (tlB t.y) (tlB t.m) (tlB t.d))),(4,.str (fmS (tlB t.h) (tlB t.i) (tlB t.s)))]) (fun _=>[]) (.take 0 (.take 1 (.take 2 (.take 3 (.take 4 (.take 5 (.take 8 (.take 9 (.take 10 (.take 11 (.take 12 (.take 13 (.br 6 (.br 7 (.br 14 (.br 15 (.take 16 (.take 17 (.done))) (.nil)) (.nil)) (.br 14 (.br 7 (.br 15 (.take 16 (.take 17 (.done))) (.nil)) (.nil)) (.nil))) (.br 14 (.br 6 (.br 7 (.br 15 (.take 16 (.take 17 (.done))) (.nil)) (.nil)) (.nil)) (.nil))))))))))))))) (by kernel_rfl) ?_ ?_
 ·repeat' (first|(conv=>whnf);first|refine .w ?_|refine .v ?_|refine sc_c ?_ ?_<;>(intro hb;try exact dd hb)|apply ao|apply aG|(apply sc_i<;>intro hb)|(apply bx_i;intro hbd)|(apply ax;first|exact h1|exact h2)|(apply aw (i:=0) rfl;first|exact h1|exact h2)|(apply ab_i;intro bl)|(apply as_i;intro va vk vc hva)|(apply av_i;intro v)|(apply ac_i;intro bl cap hcap)|apply bo_l|(apply nx_i<;>intro hnx)|exact True.intro|(apply bc_i;intro C hC)|apply bt_i|apply og_n|(apply og_a;exact rfl)|(show Rt _ _ _;exact rt_w)|fail)
  all_goals try conv=>whnf
  all_goals exact⟨(),⟨rfl,rfl,rfl,rfl,trivial⟩,rfl⟩
 intro _
 clear h1 h2
 have hE3:=fun h=>E_3 (t:=t) h
 have hE2:=fun h k=>E_2 (t:=t) h k
 have hE0:=fun h k=>E_0 (t:=t) h k
 unfold FrmP Stm.dn Stm.tn at hE3 hE2 hE0
 unfold Stm.rng Stm.day at hE2 hE0
 cases hz:t.z
 all_goals
  rw[hz] at hE3 hE2 hE0
  simp only[Bool.false_eq_true,if_false,if_true] at hE3 hE2 hE0
  repeat' (first|(conv=>whnf);first|refine .w ?_|refine .v ?_|refine sc_c ?_ ?_<;>(intro hb;try exact dd hb)|apply ao|apply aG|(apply sc_i<;>intro hb)|(apply bx_i;intro hbd)|(apply ax;first|exact h3a|exact h3b|exact h4a|exact h4b|exact h5|exact h6 _ _ _|exact h7)|(apply aw (i:=0) rfl;first|exact h3a|exact h3b|exact h4a|exact h4b|exact h5|exact h6 _ _ _|exact h7)|(apply ab_i;intro bl)|(apply as_i;intro va vk vc hva)|(apply av_i;intro v)|(apply ac_i;intro bl cap hcap)|apply bo_l|(apply nx_i<;>intro hnx)|exact True.intro|(apply bc_i;intro C hC)|apply bt_i|apply og_n|(apply og_a;exact rfl)|(show Rt _ _ _;exact rt_w)|fail)
  all_goals try conv=>whnf
  all_goals
   clear h3a h3b h4a h4b h5 h6 h7
   simp only[ne_eq,wO,E8,decide_eq_true_eq,decide_eq_false_iff_not] at*
   apply ak
   generalize whN (tlB t.y) (tlB t.m) (tlB t.d)=dn at*
   generalize whN (tlB t.h) (tlB t.i) (tlB t.s)=tn at*
   generalize zrB t.o=zr at*
   first|rw[if_neg (by assumption)] at hE2 hE0|rw[if_pos (by assumption)] at hE2 hE0|skip
   generalize witB t.m 1 12=w1 at*
   generalize witB t.d 1 (dayN t.y t.m)=w2 at*
   generalize witB t.d 1 31=w8 at*
   generalize witB t.h 0 23=w3 at*
   generalize witB t.i 0 59=w4 at*
   generalize witB t.s 0 59=w5 at*
   generalize witB t.y 0 9999=w6 at*
   first
    |(rw[hE3 (by omega)];rfl)
    |(rw[hE2 (by omega) (by simp[*])];rfl)
    |(rw[hE0 (by omega) (by simp[*])];rfl)
end
section
open Go Go.RowKit
attribute [local irreducible] AWp AOps aa aA OrOk ad ah
theorem Er {a b:Int}:eqB a b=decide (a=b):=by rw[Bool.eq_iff_iff,dp,decide_eq_true_eq]
theorem Vl.E_bad {v:Vl}(h:v.t<1∨9≤v.t∨v.only=false):v.E= .errno 1:=if_pos h
theorem Vl.E_ok {v:Vl}(h1:1≤v.t)(h2:v.t<9)(h3:v.only=true):v.E=if v.t=2∨v.t=3 then ptsE v.t v.L
  else if v.t=4 then(uriE v.s).b else if v.t=5 then v.st.E else if v.t=6 then zprE v.n else if v.t=7 then(b6 v.s).b else if hdB (decide (v.t=1)) v.s then .none else .errno 3:=by
 unfold Vl.E
 rw[if_neg]
 rintro(h|h|h)
 ·omega
 ·omega
 ·rw[h3] at h;cases h
theorem Vl.E_rest {v:Vl}(h:v.only=true)(h1:1≤v.t)(h2:v.t<9)(a:v.t≠2)(b:v.t≠3)(c:v.t≠4)(d:v.t≠5)(e:v.t≠6)(f:v.t≠7):v.E=if hdB (decide (v.t=1)) v.s then .none else .errno 3:=by
 rw[Vl.E_ok h1 h2 h,if_neg (by omega),if_neg c,if_neg d,if_neg e,if_neg f]
theorem Vl.E_p {v:Vl}(h:v.only=true)(a:v.t=2∨v.t=3):v.E=ptsE v.t v.L:=by rw[Vl.E_ok (by omega) (by omega) h,if_pos a]
theorem Vl.E_4 {v:Vl}(h:v.only=true)(a:v.t=4):v.E=(uriE v.s).b:=by rw[Vl.E_ok (by omega) (by omega) h,if_neg (by omega),if_pos a]
theorem Vl.E_5 {v:Vl}(h:v.only=true)(a:v.t=5):v.E=v.st.E:=by rw[Vl.E_ok (by omega) (by omega) h,if_neg (by omega),if_neg (by omega),if_pos a]
theorem Vl.E_6 {v:Vl}(h:v.only=true)(a:v.t=6):v.E=zprE v.n:=by rw[Vl.E_ok (by omega) (by omega) h,if_neg (by omega),if_neg (by omega),if_neg (by omega),if_pos a]
theorem Vl.E_7 {v:Vl}(h:v.only=true)(a:v.t=7):v.E=(b6 v.s).b:=by rw[Vl.E_ok (by omega) (by omega) h,if_neg (by omega),if_neg (by omega),if_neg (by omega),if_neg (by omega),if_pos a]
theorem ye {t:Int}{L:List (List (List UInt8))}(h:L.length=0∨(t=2∧L.length≠1)):ptsE t L= .errno 8:=if_pos h
theorem yf {t:Int}{L:List (List (List UInt8))}(h:¬(L.length=0∨(t=2∧L.length≠1))):ptsE t L=if bR L<L.length then .errno 8 else if hdL L then .none else .errno 3:=if_neg h
structure Vl.OK (v:Vl):Prop where
 s:v.s.length≤9223372036854775000
 n:v.L.length≤2000000
 r:∀k,(v.L.getD k []).length≤2000000
 l:∀k j,((v.L.getD k []).getD j []).length≤9223372036854775807
attribute [local irreducible] hdC hdB badI fU Vl.only uriE b6 Stm.E zrB bR hdL
theorem ml {G:Glo}{m:Int}(hU:ad G errTy)(hM:ad G (bW m))(v:Vl)(hv:v.OK):FnIs Tryz.prog G 53 [v.A] v.E.A:=by
 have h0:=vx (G:=G) v
 have h1:=y9 (G:=G) v.s (by have:=hv.s;omega)
 have h2:=ny hU (uriE v.s)
 rw[←pK (uriE v.s)] at h2
 have h3:=gt hM v.st
 have h4:=jQ (G:=G) v.n
 have h5:=oj (G:=G) v.s (by have:=hv.s;omega)
 have h6:=ny hU (b6 v.s)
 rw[←pK (b6 v.s)] at h6
 have h7:=mm (G:=G) v.s (eqB v.t 1) (by have:=hv.s;omega)
 have h8:=fun k j=>mm (G:=G) ((v.L.getD k []).getD j []) true (hv.l k j)
 rw[show hdB (eqB v.t 1) v.s=hdB (decide (v.t=1)) v.s by rw[Er]] at h7
 have k1:=fun k j (_:(0:Int)≤0)=>h8 k j
 have hn:=hv.n
 have hr:=hv.r
 obtain⟨t,s,L,st,n⟩:=v
 dsimp only at*
 by_cases ht:t<1∨9≤t
 ·rw[Vl.E_bad (v:=⟨t,s,L,st,n⟩) (ht.elim .inl (fun h=>.inr (.inl h)))]
  have hGL:ad G []:=ab
  refine fn_x Tryz.func53 Tryz.call53 rfl rfl rfl rfl hGL ?_
  intro C hC
  refine xw ?_
  repeat' (first|exact Le.n|refine Lc.mk ?_ ?_)
  all_goals intros
  all_goals dsimp only at*
  all_goals first|exact ak rfl|(exfalso;omega)
 cases ho:Vl.only ⟨t,s,L,st,n⟩
 ·rw[Vl.E_bad (.inr (.inr ho))]
  rw[ho] at h0
  have hGL:ad G []:=ab
  refine fn_x Tryz.func53 Tryz.call53 rfl rfl rfl rfl hGL ?_
  intro C hC
  exact xw0
 ·rw[ho] at h0
  have hGL:ad G []:=ab
  refine fn_x Tryz.func53 Tryz.call53 rfl rfl rfl rfl hGL ?_
  intro C hC
  refine xw ?_
  repeat' (first|exact Le.n|refine Lc.mk ?_ ?_)
  all_goals intros
  all_goals dsimp only at*
  all_goals try first
   |(apply ak;rw[Vl.E_4 ho (by assumption)];done)
   |(apply ak;rw[Vl.E_5 ho (by assumption)];done)
   |(apply ak;rw[Vl.E_7 ho (by assumption)];done)
   |(apply ak;rw[Vl.E_6 ho (by assumption)];unfold zprE;dsimp only;rw[show zrB n=true by assumption];rfl)
   |(apply ak;rw[Vl.E_6 ho (by assumption)];unfold zprE;dsimp only;rw[show zrB n=false by assumption];rfl)
   |(apply ak;rw[Vl.E_p ho (by first|exact .inl (by assumption)|exact .inr (by assumption)),ye (by dsimp only;omega)];rfl)
   |(apply ak;rw[Vl.E_rest ho (by assumption) (by assumption) (by assumption) (by assumption) (by assumption) (by assumption) (by assumption) (by assumption)];dsimp only;rw[show hdB (decide (t=1)) s=true by assumption];rfl)
   |(apply ak;rw[Vl.E_rest ho (by assumption) (by assumption) (by assumption) (by assumption) (by assumption) (by assumption) (by assumption) (by assumption)];dsimp only;rw[show hdB (decide (t=1)) s=false by assumption];rfl)
  all_goals
   rw[Vl.E_p ho (by first|exact .inl (by assumption)|exact .inr (by assumption)),yf (by dsimp only;omega)]
   dsimp only
   refine lp hC hGL (fun k:Nat=>[(1,.rop [.int .i64 t,.str s,.list 1 L.length (bY L),.int .i64 st.y,.int .i64 st.m,.int .i64 st.d,.int .i64 st.h,.int .i64 st.i,.int .i64 st.s,.bool st.z,.int .i64 st.o,.int .i64 n] 0),(45,.list 1 L.length (bY L)),(46,.int .i64 (L.length:Nat)),(47,.int .i64 (k:Nat))]) (fun _=>[]) (fun k=>k≤bR L) (fun k=>L.length-k) 0 ?_ ae rfl ?_
   ·exact Nat.zero_le _
   intro k hk
   have hnl:=kR L
   refine xw ?_
   repeat' (first|exact Le.n|refine Lc.mk ?_ ?_)
   all_goals intros
   all_goals try first
    |(apply ak;rw[if_pos (yn (by omega) hk (by omega))];rfl)
    |exact nxt (k+1) (tW (by omega) hk (by omega)) (by omega) ae rfl
   rw[if_neg (by omega)]
   refine lp hC hGL (fun k:Nat=>[(57,.list 1 L.length (bY L)),(58,.int .i64 (L.length:Nat)),(59,.int .i64 (k:Nat))]) (fun _=>[]) (fun k=>k≤L.length∧hdK L k) (fun k=>L.length-k) 0 ?_ ae rfl ?_
   ·exact⟨Nat.zero_le _,fun i hi=>absurd hi (Nat.not_lt_zero _)⟩
   rintro i ⟨hi,hK⟩
   refine xw ?_
   repeat' (first|exact Le.n|refine Lc.mk ?_ ?_)
   all_goals intros
   all_goals try (apply ak;rw[yD (by omega) hK];rfl)
   ·refine lp hC hGL (fun j:Nat=>[(57,.list 1 L.length (bY L)),(58,.int .i64 (L.length:Nat)),(59,.int .i64 (i:Nat)),(63,.list 1 (L.getD i []).length (aq (L.getD i []))),(64,.int .i64 ((L.getD i []).length:Nat)),(65,.int .i64 (j:Nat))]) (fun _=>[]) (fun j=>j≤(L.getD i []).length∧hdJ (L.getD i []) j) (fun j=>(L.getD i []).length-j) 0 ?_ ae rfl ?_
    ·exact⟨Nat.zero_le _,fun i hi=>absurd hi (Nat.not_lt_zero _)⟩
    rintro j ⟨hj,hJ⟩
    have hri:=hr i
    refine xw ?_
    repeat' (first|exact Le.n|refine Lc.mk ?_ ?_)
    all_goals intros
    all_goals first
     |(apply ak;rw[yC (k:=i) (by omega) (yE (j:=j) (by omega) (by assumption))];rfl)
     |exact nxt (j+1) ⟨by omega,ux hJ (by assumption)⟩ (by omega) ae rfl
     |exact nxt (i+1) ⟨by omega,uw hK (yF (by omega) hJ)⟩ (by omega) ae rfl
end
section
open Go Go.RowKit
attribute [local irreducible] AWp AOps aa aA OrOk ad ah
theorem DY {P:Program}[Tab P]{C:Ctx}{n:Nat}{env:Env}{H:Heap}{Q:AExit→Env→Heap→Prop}{c:Code}(k:Lp P C n c env [] Q):Lp P C n c env H Q:=
 B1 (fun R _ _ hm hf=>⟨R,Seal.le_refl R,hm.drop (List.nil_sublist _),hf⟩) k
theorem BL {v:Vl}{z:Bool}(hz:fU v.st=z):v.only=true↔(v.s.length=0∨v.t=1∨v.t=4∨v.t=7∨v.t=8)∧(v.L.length=0∨v.t=2∨v.t=3)∧((if z then 0 else 1:Int)=0∨v.t=5)∧(v.n=0∨v.t=6):=by
 unfold Vl.only
 rw[hz,decide_eq_true_eq]
 cases z<;>simp
theorem Vl.E_out {v:Vl}(h:v.t<1∨9≤v.t):v.E= .errno 1:=Vl.E_bad (h.elim .inl (fun k=>.inr (.inl k)))
theorem Vl.E_no {v:Vl}(h:¬v.only=true):v.E= .errno 1:=Vl.E_bad (.inr (.inr (by simpa using h)))
attribute [local irreducible] hdC hdB badI fU Vl.only uriE b6 Stm.e zrB bR hdL
theorem ix {G:Glo}{m:Int}(hU:ad G utfTy)(hM:ad G (bW m))(v:Vl)(hv:v.OK)(hl:v.s.length≤3000)(h3:FnIs Tryz.prog G 76 [v.st.A] (.int .i64 v.st.e)):FnIs Tryz.prog G 41 [v.A] (.int .i64 v.E.e):=by
 have h1:=rz (G:=G) v.s (by omega)
 have h4:=fK (G:=G) v.n
 have h5:=jG hM v.s hl
 have h7:=lS hU v.s true (by omega)
 have h8:=lS hU v.s false (by omega)
 have k1:=fun k j (_:(0:Int)≤0)=>lS hU ((v.L.getD k []).getD j []) true (hv.l k j)
 have hW:=cE (G:=G) v.t 1 8
 have hz:=nt v.st
 have hz0:andL [eqB 0 0,eqB 0 0,eqB 0 0,eqB 0 0,eqB 0 0,eqB 0 0,false==false,eqB 0 0]=true:=by rw[nt ⟨0,0,0,0,0,0,false,0⟩];unfold fU;rfl
 have hn:=hv.n
 have hr:=hv.r
 by_cases ht:v.t<1∨9≤v.t
 ·rw[show(decide (1≤v.t)&&decide (v.t≤8))=false by rw[←Bool.not_eq_true,Bool.and_eq_true,decide_eq_true_eq,decide_eq_true_eq];omega] at hW
  rw[Vl.E_out ht]
  have hGL:ad G []:=ab
  refine fn_x Tryz.func41 Tryz.call41 rfl rfl rfl rfl hGL ?_
  intro C hC
  exact xw0
 rw[show(decide (1≤v.t)&&decide (v.t≤8))=true by rw[Bool.and_eq_true,decide_eq_true_eq,decide_eq_true_eq];omega] at hW
 have hO:=BL (v:=v) rfl
 cases hq:fU v.st
 all_goals
  rw[hq] at hz hO
  simp only[if_true,if_false,Bool.false_eq_true,true_or,true_and] at hO
  have hGL:ad G []:=ab
  refine fn_x Tryz.func41 Tryz.call41 rfl rfl rfl rfl hGL ?_
  intro C hC
  refine xw ?_
  repeat' (first|exact Le.n|refine Lc.mk ?_ ?_)
  all_goals intros
  all_goals first
   |(refine aF hC hGL (pV _ rfl rfl rfl rfl (by kernel_rfl) (by kernel_rfl) (by kernel_rfl) rfl hz) rfl rfl ?_;refine xw ?_)
   |(refine aF hC hGL (pV _ rfl rfl rfl rfl (by kernel_rfl) (by kernel_rfl) (by kernel_rfl) rfl hz0) rfl rfl ?_;refine xw ?_)
   |skip
  repeat' (first|exact Le.n|refine Lc.mk ?_ ?_)
  all_goals intros
  all_goals try first
   |(apply ak;rw[Vl.E_no (fun k=>by have:=hO.1 k;omega)];rfl)
   |(apply ak;rw[Vl.E_4 (hO.2 (by omega)) (by assumption),Err.b_e];done)
   |(apply ak;rw[Vl.E_5 (hO.2 (by omega)) (by assumption),Stm.E_e];done)
   |(apply ak;rw[Vl.E_7 (hO.2 (by omega)) (by assumption),Err.b_e];done)
   |(apply ak;rw[Vl.E_6 (hO.2 (by omega)) (by assumption)];unfold zprE;rw[show zrB v.n=true by assumption];rfl)
   |(apply ak;rw[Vl.E_6 (hO.2 (by omega)) (by assumption)];unfold zprE;rw[show zrB v.n=false by assumption];rfl)
   |(apply ak;rw[Vl.E_p (hO.2 (by omega)) (by omega),ye (by omega)];rfl)
   | (apply ak;rw[Vl.E_rest (hO.2 (by omega)) (by omega) (by omega) (by omega) (by omega) (by omega) (by omega) (by omega) (by omega)];first
     |(rw[show decide (v.t=1)=true from decide_eq_true (by omega),show hdB true v.s=true by assumption];rfl)
     |(rw[show decide (v.t=1)=true from decide_eq_true (by omega),show hdB true v.s=false by assumption];rfl)
     |(rw[show decide (v.t=1)=false from decide_eq_false (by omega),show hdB false v.s=true by assumption];rfl)
     |(rw[show decide (v.t=1)=false from decide_eq_false (by omega),show hdB false v.s=false by assumption];rfl))
  all_goals
   rw[Vl.E_p (hO.2 (by omega)) (by omega),yf (by omega)]
   refine DY ?_
   refine lp hC hGL (fun x:Nat×Bool=>[(4,.bool x.2),(71,.list 1 v.L.length (bY v.L)),(72,.int .i64 (v.L.length:Nat)),(73,.int .i64 (x.1:Nat))]) (fun _=>[]) (fun x=>x.1≤bR v.L∧(x.2=false→hdK v.L x.1)∧(x.2=true→hdL v.L=false)) (fun x=>v.L.length-x.1) (0,false) ?_ ae rfl ?_
   ·exact⟨Nat.zero_le _,fun _ i hi=>absurd hi (Nat.not_lt_zero _),fun h=>by cases h⟩
   rintro⟨k,b⟩ ⟨hk,hb1,hb2⟩
   dsimp only at hk hb1 hb2
   have hnl:=kR v.L
   refine xw ?_
   repeat' (first|exact Le.n|refine Lc.mk ?_ ?_)
   all_goals intros
   all_goals try dsimp only at*
   all_goals try first
    |(apply ak;rw[if_pos (yn (k:=k) (by omega) hk (by omega))];rfl)
    |(apply ak;rw[if_neg (by omega),hb2 (by assumption)];rfl)
    |(apply ak;rw[if_neg (by omega),yD (by omega) (hb1 (by assumption))];rfl)
   refine lp hC hGL (fun x:Nat×Bool=>[(4,.bool x.2),(71,.list 1 v.L.length (bY v.L)),(72,.int .i64 (v.L.length:Nat)),(73,.int .i64 (k:Nat)),(80,.list 1 (v.L.getD k []).length (aq (v.L.getD k []))),(81,.int .i64 ((v.L.getD k []).length:Nat)),(82,.int .i64 (x.1:Nat))]) (fun _=>[]) (fun x=>x.1≤(v.L.getD k []).length∧(x.2=false→hdK v.L k∧hdJ (v.L.getD k []) x.1)∧(x.2=true→hdL v.L=false)) (fun x=>(v.L.getD k []).length-x.1) (0,b) ?_ ae rfl ?_
   ·exact⟨Nat.zero_le _,fun h=>⟨hb1 h,fun i hi=>absurd hi (Nat.not_lt_zero _)⟩,hb2⟩
   rintro⟨j,c⟩ ⟨hj,hc1,hc2⟩
   dsimp only at hj hc1 hc2
   have hrk:=hr k
   refine xw ?_
   repeat' (first|exact Le.n|refine Lc.mk ?_ ?_)
   all_goals intros
   all_goals try dsimp only at*
   all_goals first
    |(refine nxt (k+1,c) ⟨tW (by omega) hk (by omega),fun h=>uw (hc1 h).1 (yF (by omega) (hc1 h).2),hc2⟩ (by dsimp only;omega) ae rfl)
    |(refine nxt (j+1,true) ⟨by dsimp only;omega,fun h=>Bool.noConfusion h,fun _=>hc2 (by assumption)⟩ (by dsimp only;omega) ae rfl)
    |(refine nxt (j+1, !(hdB true ((v.L.getD k []).getD j []))) ⟨by dsimp only;omega,fun h=>⟨(hc1 (by assumption)).1,ux (hc1 (by assumption)).2 (by simpa using h)⟩,fun h=>yC (k:=k) (by omega) (yE (j:=j) (by omega) (by simpa using h))⟩ (by dsimp only;omega) ae rfl)
end
section
open Go Go.RowKit
attribute [local irreducible] AWp AOps aa aA OrOk ad ah
theorem Vl.E_none {v:Vl}(h:v.E= .none):v.only=true∧1≤v.t∧v.t<9:=by
 by_cases h1:v.t<1∨9≤v.t∨v.only=false
 ·rw[Vl.E_bad h1] at h;cases h
 ·refine⟨?_,by omega,by omega⟩
  cases ho:v.only
  ·exact absurd (.inr (.inr ho)) h1
  ·rfl
theorem Vl.T_ok {v:Vl}(h:v.E= .none):v.T=if v.t=1 then escS v.s else if v.t=2∨v.t=3 then dc v.L else if v.t=5 then v.st.T else if v.t=6 then zprS v.n else v.s:=by
 unfold Vl.T
 rw[h]
theorem Vl.T_no {v:Vl}(h:v.E≠ .none):v.T=[]:=by
 unfold Vl.T
 split
 ·rename_i k;exact absurd k h
 ·rfl
theorem un {t:Int}{L:List (List (List UInt8))}(h:ptsE t L= .none):dy L= .none:=by
 unfold ptsE at h
 unfold dy
 split at h
 ·cases h
 ·split at h
  ·cases h
  ·rename_i h1 h2
   rw[if_neg (fun k=>h1 (.inl (by rw[k];rfl))),if_neg h2]
theorem Vl.right {v:Vl}(h:v.E= .none):(v.t=2∨v.t=3→dy v.L= .none)∧(v.t=5→v.st.E= .none)∧(v.t=6→zprE v.n= .none):=by
 obtain⟨ho,_,_⟩:=Vl.E_none h
 refine⟨fun k=> ?_,fun k=> ?_,fun k=> ?_⟩
 ·rw[Vl.E_p ho k] at h;exact un h
 ·rwa [Vl.E_5 ho k] at h
 ·rwa [Vl.E_6 ho k] at h
theorem T_1 {v:Vl}(h:v.E= .none)(k:v.t=1):v.T=escS v.s:=by rw[Vl.T_ok h,if_pos k]
theorem T_2 {v:Vl}(h:v.E= .none)(k:v.t=2∨v.t=3):v.T=dc v.L:=by rw[Vl.T_ok h,if_neg (by omega),if_pos k]
theorem T_5 {v:Vl}(h:v.E= .none)(k:v.t=5):v.T=v.st.T:=by rw[Vl.T_ok h,if_neg (by omega),if_neg (by omega),if_pos k]
theorem T_6 {v:Vl}(h:v.E= .none)(k:v.t=6):v.T=zprS v.n:=by rw[Vl.T_ok h,if_neg (by omega),if_neg (by omega),if_neg (by omega),if_pos k]
theorem T_s {v:Vl}(h:v.E= .none)(a:v.t≠1)(b:v.t≠2)(c:v.t≠3)(d:v.t≠5)(e:v.t≠6):v.T=v.s:=by rw[Vl.T_ok h,if_neg a,if_neg (by omega),if_neg d,if_neg e]
attribute [local irreducible] Vl.E Vl.T dc dy zprS zprE Stm.T Stm.E Stm.e escS escF
theorem sI {G:Glo}(v:Vl)(hR:FnIs Tryz.prog G 53 [v.A] v.E.A)(hE:FnIs Tryz.prog G 54 [.str v.s] (.str (escS v.s)))
  (hJ:FnIs Tryz.prog G 55 [.list 1 v.L.length (bY v.L)] (.tuple [.str (dc v.L),(dy v.L).A])) (hP:FnIs Tryz.prog G 56 [v.st.A] (.tuple [.str v.st.T,v.st.E.A])):
  FnIs Tryz.prog G 31 [v.A] (.tuple [.str v.T,v.E.A]):=by
 have hZ:=nr (G:=G) v.n
 rcases hq:v.E with _|e|⟨e,p⟩
 ·obtain⟨r1,r2,r3⟩:=Vl.right hq
  have t1:=T_1 hq
  have t2:=T_2 hq
  have t5:=T_5 hq
  have t6:=T_6 hq
  have ts:=T_s hq
  rw[hq] at hR
  have hGL:ad G []:=ab
  refine fn_x Tryz.func31 Tryz.call31 rfl rfl rfl rfl hGL ?_
  intro C hC
  refine xw ?_
  repeat' (first|exact Le.n|refine Lc.mk ?_ ?_)
  all_goals intros
  all_goals first
   |(apply ak;rw[t1 (by assumption)]<;>rfl)
   |(apply ak;rw[t2 (by omega),r1 (by omega)]<;>rfl)
   |(apply ak;rw[t5 (by assumption),r2 (by assumption)]<;>rfl)
   |(apply ak;rw[t6 (by assumption),r3 (by assumption)]<;>rfl)
   |(apply ak;rw[ts (by assumption) (by assumption) (by assumption) (by assumption) (by assumption)]<;>rfl)
 ·rw[Vl.T_no (by rw[hq];exact fun k=>by cases k)]
  rw[hq] at hR
  have hGL:ad G []:=ab
  refine fn_x Tryz.func31 Tryz.call31 rfl rfl rfl rfl hGL ?_
  intro C hC
  exact xw0
 ·rw[Vl.T_no (by rw[hq];exact fun k=>by cases k)]
  rw[hq] at hR
  have hGL:ad G []:=ab
  refine fn_x Tryz.func31 Tryz.call31 rfl rfl rfl rfl hGL ?_
  intro C hC
  exact xw0
theorem nP {G:Glo}(v:Vl)(hR:FnIs Tryz.prog G 41 [v.A] (.int .i64 v.E.e))(hE:FnIs Tryz.prog G 42 [.str v.s] (.str (escS v.s)))
  (hJ:FnIs Tryz.prog G 43 [.list 1 v.L.length (bY v.L)] (.tuple [.str (dc v.L),.agg [.int .i64 (dy v.L).e,.int .i64 (dy v.L).p]])) (hP:FnIs Tryz.prog G 44 [v.st.A] (.tuple [.str v.st.T,.int .i64 v.st.e]))
  (h0:v.E.e=0→v.E= .none):FnIs Tryz.prog G 21 [v.A] (.tuple [.str v.T,.int .i64 v.E.e]):=by
 have hZ:=jD (G:=G) v.n
 by_cases hq:v.E= .none
 ·obtain⟨r1,r2,r3⟩:=Vl.right hq
  have t1:=T_1 hq
  have t2:=T_2 hq
  have t5:=T_5 hq
  have t6:=T_6 hq
  have ts:=T_s hq
  have r4:v.t=5→v.st.e=0:=fun k=>by rw[←Stm.E_e,r2 k];rfl
  rw[hq] at hR ⊢
  have hR:FnIs Tryz.prog G 41 [v.A] (.int .i64 0):=hR
  have e0:(Err.none).e=0:=rfl
  rw[e0]
  have hGL:ad G []:=ab
  refine fn_x Tryz.func21 Tryz.call21 rfl rfl rfl rfl hGL ?_
  intro C hC
  refine xw ?_
  repeat' (first|exact Le.n|refine Lc.mk ?_ ?_)
  all_goals intros
  all_goals first
   |(apply ak;rw[t1 (by assumption)]<;>rfl)
   |(apply ak;rw[t2 (by omega)]<;>rfl)
   |(apply ak;rw[t5 (by assumption),r4 (by assumption)]<;>rfl)
   |(apply ak;rw[t6 (by assumption),r3 (by assumption)]<;>rfl)
   |(apply ak;rw[ts (by assumption) (by assumption) (by assumption) (by assumption) (by assumption)]<;>rfl)
 ·have hne:v.E.e≠0:=fun k=>hq (h0 k)
  rw[Vl.T_no hq]
  have hGL:ad G []:=ab
  refine fn_x Tryz.func21 Tryz.call21 rfl rfl rfl rfl hGL ?_
  intro C hC
  exact xw0
end
section
open Go Go.RowKit
attribute [local irreducible] AWp AOps aa aA OrOk ad ah
theorem zN {l:List (List UInt8)}{j:Nat}(h:j<l.length):Lib.lens (l.take (j+1))=Lib.lens (l.take j)+(l.getD j []).length:=
 Lib.lens_take_succ l j _ (by rw[List.getD_eq_getElem?_getD,List.getElem?_eq_getElem h];rfl)
theorem FR (t:Int)(L:List (List (List UInt8))):(ptsE t L).p= -1:=by unfold ptsE;(repeat' split)<;>rfl
theorem Vl.E_at (v:Vl):v.E.p= -1:=by
 unfold Vl.E
 (repeat' split)
 ·rfl
 ·exact FR _ _
 ·exact Err.b_p _
 ·exact Stm.E_p _
 ·unfold zprE;split<;>rfl
 ·exact Err.b_p _
 ·rfl
 ·rfl
theorem Fl (s:List UInt8)(h:(uriE s).e=0):uriE s= .none:=by
 unfold uriE at h ⊢
 (repeat' split at h)<;>first|(exfalso;revert h;simp[Err.e];done)|(rename_i h1 h2 h3;rw[if_neg h1,if_neg h2,if_neg h3])
theorem yv:∀(l:List (List UInt8)) (b:Bool) (a:Nat),(cC b a l).e=0→cC b a l= .none
 |[],_,_,_=>rfl
 |x::xs,b,a,h=>by
  rw[om] at h ⊢
  split at h
  ·rename_i k
   rw[if_pos k]
   exact yv xs _ _ h
  ·rename_i k
   exfalso
   revert h k
   unfold cr
   (repeat' split)<;>simp[Err.e,Err.isNone]
theorem Err.b_none {x:Err}(h:x.e=0→x= .none)(k:x.b.e=0):x.b= .none:=by
 rw[Err.b_e] at k
 rw[h k]
 rfl
theorem Vl.E_zero (v:Vl)(h:v.E.e=0):v.E= .none:=by
 revert h
 unfold Vl.E
 (repeat' split)
 ·intro h;cases h
 ·unfold ptsE;(repeat' split)<;>intro h<;>first|rfl|cases h
 ·exact Err.b_none (Fl _)
 ·unfold Stm.E;(repeat' split)<;>intro h<;>first|rfl|cases h
 ·unfold zprE;(repeat' split)<;>intro h<;>first|rfl|cases h
 ·exact Err.b_none (yv _ _ _)
 ·intro _;rfl
 ·intro h;cases h
attribute [local irreducible] Vl.E Vl.T hdB
theorem zQ {G:Glo}(v:Vl)(hs:v.s.length≤2000000)(hL:Small v.L):ah Tryz.prog G 10 [v.A] [] (fun r H=>(∃a,r= .ret a∧∃b,a= .bool b∧(b=false→v.s.length≤2500))∧H=[]):=by
 have hn:=hL.n
 have hGL:ad G []:=ab
 refine fn_x Tryz.func10 Tryz.call10 rfl rfl rfl rfl hGL ?_
 intro C hC
 refine xw1 ?_
 refine lp hC hGL (fun x:Nat×Nat=>[(3,.int .i64 (x.2:Nat)),(16,.list 1 v.L.length (bY v.L)),(17,.int .i64 (v.L.length:Nat)),(18,.int .i64 (x.1:Nat))]) (fun _=>[]) (fun x=>x.1≤v.L.length∧v.s.length≤x.2∧x.2≤v.s.length+v.L.length+4000000*x.1) (fun x=>v.L.length-x.1) (0,v.s.length+v.L.length) ?_ ae rfl ?_
 ·exact⟨Nat.zero_le _,Nat.le_add_right _ _,Nat.le_refl _⟩
 rintro⟨k,n⟩ ⟨h1,h2,h3⟩
 dsimp only at h1 h2 h3
 have hk:=hL.k k
 refine xw ?_
 repeat' (first|exact Le.n|refine Lc.mk ?_ ?_)
 all_goals intros
 ·refine lp hC hGL (fun x:Nat×Nat=>[(3,.int .i64 (x.2:Nat)),(16,.list 1 v.L.length (bY v.L)),(17,.int .i64 (v.L.length:Nat)),(18,.int .i64 (k:Nat)),(26,.list 1 (v.L.getD k []).length (aq (v.L.getD k []))),(27,.int .i64 ((v.L.getD k []).length:Nat)),(28,.int .i64 (x.1:Nat))]) (fun _=>[]) (fun x=>x.1≤(v.L.getD k []).length∧v.s.length≤x.2∧x.2≤v.s.length+v.L.length+4000000*k+2000000+Lib.lens ((v.L.getD k []).take x.1)) (fun x=>(v.L.getD k []).length-x.1) (0,n+(v.L.getD k []).length) ?_ ae rfl ?_
  ·exact⟨Nat.zero_le _,by dsimp only;omega,by dsimp only;omega⟩
  rintro⟨j,q⟩ ⟨g1,g2,g3⟩
  dsimp only at g1 g2 g3
  have hj1:=Lib.lens_take_le (v.L.getD k []) j
  have hj2:=Lib.lens_take_le (v.L.getD k []) (j+1)
  have hj3:j<(v.L.getD k []).length→Lib.lens ((v.L.getD k []).take (j+1))=Lib.lens ((v.L.getD k []).take j)+((v.L.getD k []).getD j []).length:=fun h=>zN h
  refine xw ?_
  repeat' (first|exact Le.n|refine Lc.mk ?_ ?_)
  all_goals intros
  all_goals try dsimp only at*
  ·refine nxt (j+1,q+((v.L.getD k []).getD j []).length) ⟨by dsimp only;omega,by dsimp only;omega,?_⟩ (by dsimp only;omega) ae rfl
   dsimp only
   rw[hj3 (by omega)]
   omega
  ·exact nxt (k+1,q) ⟨by dsimp only;omega,by dsimp only;omega,by dsimp only;omega⟩ (by dsimp only;omega) ae rfl
 ·refine⟨[],List.nil_sublist _,⟨_,rfl,_,rfl,fun h=> ?_⟩,rfl⟩
  have h:=g8.1 h
  dsimp only at h
  omega
end
section
open Go Go.RowKit
inductive Js where
 |mk (k:Int) (t:List UInt8) (ks:List (List UInt8)) (l:List Js)
def Js.k:Js→Int|.mk k _ _ _=>k
def Js.t:Js→List UInt8|.mk _ t _ _=>t
def Js.ks:Js→List (List UInt8)|.mk _ _ ks _=>ks
def Js.l:Js→List Js|.mk _ _ _ l=>l
def Js.z:Js:=.mk 0 [] [] []
abbrev atJ (l:List Js)(i:Nat):Js:=l.getD i Js.z
def jsF:Nat→List Js→Nat→AVal
 |0,_,_=>.bool false
 |d+1,l,i=>.agg [.int .i64 (atJ l i).k,.str (atJ l i).t,.list 1 (atJ l i).ks.length (aq (atJ l i).ks),.list 4 (atJ l i).l.length (jsF d (atJ l i).l)]
abbrev Js.C (d:Nat)(x:Js):List AVal:=[.int .i64 x.k,.str x.t,.list 1 x.ks.length (aq x.ks),.list 4 x.l.length (jsF d x.l)]
def Js.R (d:Nat)(x:Js):AVal:=.agg (Js.C d x)
def Js.le:Nat→Js→Prop
 |0,x=>x.l=[]
 |d+1,x=>∀i,i<x.l.length→Js.le d (atJ x.l i)
def Js.sz:Nat→Js→Nat
 |0,x=>x.t.length+x.ks.length+Lib.lens x.ks+1
 |d+1,x=>x.t.length+x.ks.length+Lib.lens x.ks+1+((List.range x.l.length).map fun i=>Js.sz d (atJ x.l i)).sum
/-! ## What is wrong with a tree -/
/-! ## A tree as text -/
end
section
open Go Go.RowKit
theorem zL {R:Seal}{sz n:Nat}{f g:Nat→AVal}{u:Value}(h:∀i,i<n→∀vs,RelC R (f i) vs→RelC R (g i) vs):RelC R (.list sz n f) [u]→RelC R (.list sz n g) [u]:=by
 rintro⟨a,cap,e,hle,y⟩
 refine⟨a,cap,e,hle,?_⟩
 rcases y with y|⟨b,o,C,el,fz,ha,hR,hi⟩
 ·exact .inl y
 ·exact .inr ⟨b,o,C,el,fz,ha,hR,fun i hn=>h i hn _ (hi i hn)⟩
theorem lO {R:Seal}{sz n:Nat}{f g:Nat→AVal}(h:∀i,i<n→∀vs,RelC R (f i) vs→RelC R (g i) vs){k:Nat}:∀{l:List AVal} {vs:List Value},l[k]? =some (.list sz n f)→RelV R l vs→RelV R (l.set k (.list sz n g)) vs:=by
 induction k with
 |zero=>
  intro l vs hk ha
  cases l with
  |nil=>cases hk
  |cons a l=>
   simp only[List.getElem?_cons_zero,Option.some.injEq] at hk
   subst hk
   obtain⟨u,us,rfl,hu,k⟩:=ha
   have r:=nM (zL h (aP (show Rel R _ u from hu) rfl)) rfl (by have:=hu.2;exact this.symm)
   exact⟨u,us,rfl,⟨r.1,r.2⟩,k⟩
 |succ k ih=>
  intro l vs hk ha
  cases l with
  |nil=>cases hk
  |cons a l=>
   obtain⟨u,us,rfl,hu,k⟩:=ha
   exact⟨u,us,rfl,hu,ih hk k⟩
theorem Dr {C:Ctx}{n:Nat}{e:Env}{h h':Heap}(hp:h.Perm h'):To C n e h e h':=fun R _ _ hm hf=>⟨R,Seal.le_refl R,hm.perm hp,hf⟩
theorem rA {R:Seal}{j:Nat}{v u:Value}(hv:vAgg v=false):RelC R (.raw v) [u]→RelC R (.own j v) [u]:=by
 intro e
 have e:[u]=v.cells.toList:=e
 cases v<;>first|exact⟨e,rfl⟩|exact absurd hv (by decide)|(simp[vAgg] at hv)
theorem qU {C:Ctx}{n:Nat}{e:Env}{h:Heap}{k:Nat}{a a':AVal}(hk:Env.get e k=some a)(ht:∀R u,Rel R a u→Rel R a' u):To C n e h ((k,a')::e) h:=fun R x w hm hf=>by
 refine⟨R,Seal.le_refl R,hm,fun t y hy=> ?_,hf.size,hf.defers⟩
 simp only[Env.get] at hy
 split at hy
 ·rename_i hb
  have:=Nat.eq_of_beq_eq_true hb
  subst this
  simp only[Option.some.injEq] at hy
  subst hy
  obtain⟨u,hu,hr⟩:=hf.fr k _ hk
  exact⟨u,hu,ht _ _ hr⟩
 ·exact hf.fr t y hy
theorem rD {i j:Nat}{v:Value}(R:Seal)(u:Value)(h:Rel R (.own i v) u):Rel R (.own j v) u:=aL.2 (aL.1 h)
structure CyT {X:Type} (C:Ctx) (n:Nat) (I:X→Env) (J:X→Heap) (Inv:X→Prop) (e:Env) (h:Heap):Prop where
 h:∃x,Inv x∧To C n e h (I x) (J x)
section
variable {P:Program} [Tab P] {C:Ctx} {n:Nat} {env:Env} {H:Heap} {Q:AExit→Env→Heap→Prop}
omit [Tab P] in
theorem cyT {X:Type}{I:X→Env}{J:X→Heap}{Inv:X→Prop}{e:Env}{h:Heap}(x:X)(hp:Inv x)(ht:To C n e h (I x) (J x)):CyT C n I J Inv e h:=⟨⟨x,hp,ht⟩⟩
theorem cutA {a b:Code}{X:Type}(I:X→Env)(J:X→Heap)(Inv:X→Prop)(h1:AWp P C n a env H (cR (fun e h=>CyT C n I J Inv e h) Q))(h2:∀x,Inv x→AWp P C n b (I x) (J x) Q):AWp P C n (.seq a b) env H Q:=
 bq (h1.mono fun x e h q=>by
  cases x with
  |normal=>
   obtain⟨y,hy,ht⟩:=CyT.h q
   exact fp ht (h2 y hy)
  |exit i=>exact q
  |goto i=>exact q
  |ret=>exact q
  |panic v=>exact q)
theorem G6 {a b c:Code}{X:Type}(I:X→Env)(J:X→Heap)(Inv:X→Prop)(h1:AWp P C n a env H (cR (fun e h=>AWp P C n b e h (cR (fun e h=>CyT C n I J Inv e h) Q)) Q))(h2:∀x,Inv x→AWp P C n c (I x) (J x) Q):AWp P C n (.seq a (.seq b c)) env H Q:=
 bq (h1.mono fun x e h q=>by
  cases x with
  |normal=>exact cutA I J Inv q h2
  |exit i=>exact q
  |goto i=>exact q
  |ret=>exact q
  |panic v=>exact q)
variable {G:Glo} {GL:List (Nat×List AVal)}
theorem lpA {c:Code}{X:Type}(_:C.G=G)(_:ad G GL)(I:X→Env)(J:X→Heap)(Inv:X→Prop)(μ:X→Nat)(x0:X)(h0:Inv x0)(hs:Env.sub env (I x0))(hH:H=J x0)
  (round:∀x,Inv x→AWp P C n c (I x) (J x) (cR (fun e h=>Nxt I J Inv μ x e h) Q)):Lp P C n c env H Q:=
 ⟨iR I J Inv μ x0 h0 hs (hH▸List.Sublist.refl _) fun x hx=>(round x hx).mono fun ex e h q=>by
  cases ex with
  |normal=>exact Nxt.h q
  |exit i=>exact q
  |goto i=>exact q
  |ret=>exact q
  |panic v=>exact q⟩
end
end
section
open Go Go.RowKit
abbrev jN:AVal:=.raw (.slice none 0 0)
abbrev jAt (b:Nat):Value:=.pointer (some ⟨b,0,none⟩)
abbrev jZ (b:Nat):HEnt:=.cells b (some 29) [.int .i64 0,.str [],jN,jN]
def jsC (d:Nat)(l:List Js):List AVal:=l.flatMap (Js.C d)
theorem bQ (d:Nat)(l:List Js)(x:Js):jsC d l++Js.C d x=jsC d (l++[x]):=by
 unfold jsC
 rw[List.flatMap_append,List.flatMap_singleton]
theorem Cb (d:Nat):∀(l:List Js) (i:Nat),i<l.length→Js.C d (atJ l i)=((jsC d l).drop (i*4)).take 4
 |[],i,h=>absurd h (Nat.not_lt_zero _)
 |x::l,0,_=>rfl
 |x::l,i+1,h=>by
  have ih:=Cb d l i (by simpa using h)
  have e:jsC d (x::l)=Js.C d x++jsC d l:=rfl
  rw[e,show(i+1)*4=4+i*4 by omega,←List.drop_drop,List.drop_left' (show(Js.C d x).length=4 from rfl)]
  exact ih
theorem fM (d:Nat)(l:List Js):∀i,i<l.length→(jsF (d+1) l i).cells=((jsC d l).drop (i*4)).take 4∧(jsF (d+1) l i).plain=true:=fun i hi=>⟨Cb d l i hi,rfl⟩
theorem yw {R:Seal}{n:Nat}{x:Js}{v:Value}(h1:x.ks=[])(h2:x.l=[])(h:Rel R (.agg [.int .i64 x.k,.str x.t,jN,jN]) v):Rel R (.agg (Js.C n x)) v:=by
 have g1:=o9 (p:=2) (a':=.list 1 0 (aq [])) (Seal.le_refl R) h rfl (fun v=>eh)
 have g2:=o9 (p:=3) (a':=.list 4 0 (jsF n [])) (Seal.le_refl R) g1 rfl (fun v=>eh)
 unfold Js.C
 rw[h1,h2]
 exact g2
end
section
open Go Go.RowKit
def Js.fits (B:Nat):Nat→Js→Prop
 |0,x=>x.ks.length≤B∧x.l=[]
 |d+1,x=>x.ks.length≤B∧x.l.length≤B∧∀i,i<x.l.length→Js.fits B d (atJ x.l i)
theorem dC {B d:Nat}{k:Int}{t:List UInt8}:Js.fits B d (.mk k t [] []):=by
 cases d with
 |zero=>exact⟨Nat.zero_le _,rfl⟩
 |succ d=>exact⟨Nat.zero_le _,Nat.zero_le _,fun i h=>absurd h (Nat.not_lt_zero _)⟩
attribute [local irreducible] AWp AOps aa aA OrOk ad ah
theorem zT {G:Glo}(B:Nat)(hB:B≤1000000000):∀(d:Nat) (x:Js),Js.fits B d x→FnIs Tryz.prog G 8 [.agg (Js.C d x),.agg (Js.C d x)] (.bool true):=by
 intro d
 induction d with
 |zero=>
  intro x hx
  obtain⟨h1,h2⟩:=hx
  have hl0:x.l.length=0:=by rw[h2];rfl
  unfold Js.C
  have hGL:ad G []:=ab
  refine fn_a Tryz.func8 Tryz.call8 rfl rfl rfl rfl ?_
  intro C hC
  refine ap hC hGL (xw1 ?_)
  intros
  refine lp hC hGL (fun k:Nat=>[(2,.rop (Js.C (0) x) 0),(3,.rop (Js.C (0) x) 0),(39,.int .i64 (x.ks.length:Nat)),(40,.int .i64 (k:Nat))]) (fun _=>[]) (fun k=>k≤x.ks.length) (fun k=>x.ks.length-k) 0 (Nat.zero_le _) ae rfl ?_
  intro k hk
  by_cases h:k<x.ks.length
  ·refine xw1 ?_
   intros
   exact nxs (k+1) h (by omega) ae aB
  obtain rfl:k=x.ks.length:=by omega
  refine xw1 ?_
  intros
  refine rds hC hGL 1 ?_
  exact xw0
 |succ d ih=>
  intro x hx
  obtain⟨h1,h2,h3⟩:=hx
  have ih:=fun i hi=>ih (atJ x.l i) (h3 i hi)
  have hcl:=Tryz.call8
  unfold Js.C
  have hGL:ad G []:=ab
  refine fn_a Tryz.func8 Tryz.call8 rfl rfl rfl rfl ?_
  intro C hC
  refine ap hC hGL (xw1 ?_)
  intros
  refine lp hC hGL (fun k:Nat=>[(2,.rop (Js.C (d+1) x) 0),(3,.rop (Js.C (d+1) x) 0),(39,.int .i64 (x.ks.length:Nat)),(40,.int .i64 (k:Nat))]) (fun _=>[]) (fun k=>k≤x.ks.length) (fun k=>x.ks.length-k) 0 (Nat.zero_le _) ae rfl ?_
  intro k hk
  by_cases h:k<x.ks.length
  ·refine xw1 ?_
   intros
   exact nxs (k+1) h (by omega) ae aB
  obtain rfl:k=x.ks.length:=by omega
  refine xw1 ?_
  intros
  refine lp hC hGL (fun k:Nat=>[(2,.rop (Js.C (d+1) x) 0),(3,.rop (Js.C (d+1) x) 0),(57,.int .i64 (x.l.length:Nat)),(58,.int .i64 (k:Nat))]) (fun _=>[]) (fun k=>k≤x.l.length) (fun k=>x.l.length-k) 0 (Nat.zero_le _) ae rfl ?_
  intro k hk
  by_cases h:k<x.l.length
  ·have hi:=ih k h
   refine xw1 ?_
   intros
   exact nxs (k+1) h (by omega) ae aB
  obtain rfl:k=x.l.length:=by omega
  exact xw0
end
section
open Go Go.RowKit
attribute [local irreducible] AWp AOps aa aA OrOk ad ah
theorem uU {G:Glo}(v:Int):FnIs Tryz.prog G 86 [.int .i64 v] (.bool (eqB v 4)):=by
 have hGL:ad G []:=ab
 refine fn_x Tryz.func86 Tryz.call86 rfl rfl rfl rfl hGL ?_
 intro C hC
 exact xw0
end
section
open Go
theorem Tryz.own:ownKnob Tryz.prog.godebug=none:=by kernel_rfl
def az (W:World)(k:Nat):Seal:=fun b=>if b<k then W.heap[b]? else none
theorem qZ (W:World)(k:Nat):cJ (az W k) W:=by
 intro b o h
 unfold az at h
 split at h
 ·exact h
 ·cases h
theorem BQ (W:World)(R:Seal)(G:Glo)(hG:G.p R)(hs:cJ R W):MS ⟨W,R,blks [],G,hG,[]⟩ R [] W:=
 ⟨hs,Seal.le_refl R,fun _ hb=>.inl hb,⟨fun _ h=>absurd h List.not_mem_nil,List.nodup_nil,fun _ h=>absurd h List.not_mem_nil⟩,fun _ h=>absurd h List.not_mem_nil,Ext.refl W _⟩
theorem oo {W W':World}(h:Ext W [] W')(may:MemPlace→Prop):W.keptBut W' may:=by
 refine⟨h.os,h.output,fun i hi=> ?_⟩
 rw[h.block i hi (by simp)]
 generalize W.heap[i]? =o
 cases o with
 |none=>rfl
 |some o=>
  cases o with
  |cells c t fr=>exact⟨rfl,rfl,rfl,fun _ _=>rfl⟩
  |map es clock=>exact .inr ⟨rfl,rfl⟩
  |_=>rfl
end
section
open Go
theorem nx {P:Program}{w:World}{n:String}{g:Nat}{cs:Array Value}(hg:P.globalNamed n=some g)(hv:w.var? P n=some cs):∃e fz,w.heap[g]? =some (.cells cs e fz):=by
 simp only[World.var?,hg,Option.bind_some] at hv
 split at hv
 ·rename_i c e fz hh
  cases hv
  exact⟨_,_,hh⟩
 ·cases hv
def E7 (L:List (Nat×List AVal)):Glo:=⟨fun R=>∀x,x∈L→bX R x.1 0 x.2,fun _ _ hle h x hx=>by
 obtain⟨C,e,fz,h1,h2⟩:=h x hx
 exact⟨C,e,fz,hle _ _ h1,bT hle _ _ h2⟩⟩
theorem oC:∀(L:List (Nat×List AVal)) {g:Nat} {cs:List AVal},iH L g=some cs→(g,cs)∈L
 |[],_,_,h=>by simp[iH] at h
 |(k,c)::r,g,cs,h=>by
  unfold iH at h
  split at h
  ·rename_i e
   obtain rfl:=Nat.eq_of_beq_eq_true e
   cases h
   exact List.mem_cons_self
  ·exact List.mem_cons_of_mem _ (oC r h)
theorem jh {L L':List (Nat×List AVal)}(h:∀x,x∈L'→x∈L):ad (E7 L) L':=fun g cs hg R hR=>hR (g,cs) (h _ (oC L' hg))
theorem dv {W:World}{k g:Nat}{C:Array Value}{e:TypeId}{fz:Nat×Nat}{cs:List AVal}(hk:g<k)(hW:W.heap[g]? =some (.cells C e fz))(h:RelL (az W k) cs (C.toList.take cs.length)):bX (az W k) g 0 cs:=
 ⟨C,e,fz,by unfold az;rw[if_pos hk];exact hW,by rw[List.drop_zero];exact h⟩
theorem nK:∀ty,ty<Tryz.prog.types.size→Tryz.prog.rowNamed ty [101,114,114,111,114]=true→ty=36:=by
 have h:((List.range Tryz.prog.types.size).all fun ty=> !Tryz.prog.rowNamed ty [101,114,114,111,114]||Nat.beq ty 36)=true:=by kernel_rfl
 intro ty h1 h2
 have:=List.all_eq_true.1 h ty (List.mem_range.2 h1)
 rw[h2] at this
 exact Nat.eq_of_beq_eq_true (by simpa using this)
theorem wY {W:World}{k:Nat}(hk:3<k){laid:List (String×DataW Unit)}(hL:laidMetH Tryz.prog laid W)(hm:("errors.errorType",Rows.laid_errors_errorType)∈laid):bX (az W k) 3 0 [rty 36]:=by
 have h:=(laidMetH_iff.1 hL).2 _ (List.mem_filter.2 ⟨hm,by kernel_rfl⟩)
 have h:∃name u ty,(Rows.laid_errors_errorType (H:=Unit)).handleName? =some name∧(Tryz.prog.cutTypes.find? (·.1== "internal/reflectlite.rtype")).map (·.2)=some u∧ty<Tryz.prog.types.size∧Tryz.prog.rowNamed ty name=true∧
   W.var? Tryz.prog "errors.errorType" =some #[.iface u (.agg #[typeHandle Tryz.prog ty])]:=h
 obtain⟨name,u,ty,h1,h2,h3,h4,h5⟩:=h
 obtain rfl:[101,114,114,111,114]=name:=Option.some.inj ((show(Rows.laid_errors_errorType (H:=Unit)).handleName? =some [101,114,114,111,114] by kernel_rfl).symm.trans h1)
 obtain rfl:253=u:=Option.some.inj ((show(Tryz.prog.cutTypes.find? (·.1== "internal/reflectlite.rtype")).map (·.2)=some 253 by kernel_rfl).symm.trans h2)
 obtain rfl:=nK ty h3 h4
 obtain⟨e,fz,hh⟩:=nx (show Tryz.prog.globalNamed "errors.errorType" =some 3 by kernel_rfl) h5
 exact dv hk hh ⟨_,_,rfl,(kK _).1,rfl⟩
noncomputable def fC (os:Os):World:=
 let w0:=World.holding Tryz.prog os ⟨#[],#[],[]⟩
 { w0 with heap:=w0.heap.modify 3 fun
   |.cells _ t frozen=>.cells #[.iface 253 (.agg #[hdl 36])] t frozen
   |o=>o}
def dT (laid:List (String×DataW Unit)):List (String×DataW Unit):=laid.filter fun x=>x.2.handleName?.isNone
noncomputable def cF (os:Os)(laid:List (String×DataW Unit)):World:=(fC os).layVars Tryz.prog (dT laid)
theorem pz (os:Os)(laid:List (String×DataW Unit)):(cF os laid).os=os:=World.layVars_os _ _ _
theorem oA {os:Os}{laid:List (String×DataW Unit)}(args:Array Value)(hf:(fC os).layFits Tryz.prog (dT laid) []=true)(hi:(fC os).layIfaces Tryz.prog (dT laid) (cF os laid)=true)
  (hh:((laid.filter fun x=>x.2.handleName?.isSome).all (handleAtB Tryz.prog ((cF os laid).forCall (fun _ _=>0) ⟨#[],args,[]⟩).memory))=true):
  laidMetH Tryz.prog laid ((cF os laid).forCall (fun _ _=>0) ⟨#[],args,[]⟩).memory:=by
 refine laidMetH_of_parts ?_ hh
 have e1:((dT laid).filter fun x=>((dT laid).map (·.1)).contains x.1)=dT laid:=List.filter_eq_self.2 fun x hx=>List.contains_iff_mem.2 (List.mem_map.2 ⟨x,hx,rfl⟩)
 have e2:((dT laid).filter fun x=> !((dT laid).map (·.1)).contains x.1)=[]:=List.filter_eq_nil_iff.2 fun x hx=>by rw[List.contains_iff_mem.2 (List.mem_map.2 ⟨x,hx,rfl⟩)];simp
 have h:laidMet Tryz.prog (dT laid) (cF os laid):=laidMet_layVars (w0:=fC os) ((dT laid).map (·.1)) [] (by rw[e1];rfl) (by rw[e1];exact hf) (by rw[e1];exact hi) (by rw[e2];exact LaidIn.none)
 exact h.of_heap (by simp[World.memory,World.forCall,Input.heap])
theorem Gi {W:World}{laid:List (String×DataW Unit)}(hL:laidMetH Tryz.prog laid W)(hm:("errors.errorType",Rows.laid_errors_errorType)∈laid):3<W.heap.size:=by
 have h:=(laidMetH_iff.1 hL).2 _ (List.mem_filter.2 ⟨hm,by kernel_rfl⟩)
 obtain⟨name,u,ty,h1,h2,h3,h4,h5⟩:=h
 obtain⟨e,fz,hh⟩:=nx (show Tryz.prog.globalNamed "errors.errorType" =some 3 by kernel_rfl) h5
 exact(Array.getElem?_eq_some_iff.1 hh).1
theorem zR {P:Program}{G:Glo}{f:FuncId}{avs:List AVal}{c:Bool}{args:Array Value}{W:World}{R:Seal}(hs:FnIs P G f avs (.bool c))(hc:(callFunc f args).run P W= .ok (.enter f args) W)
  (hG:G.p R) (hR:cJ R W) (ha:RelV R avs args.toList):Calls P f args W fun e W'=>e= .returned (.bool c)∧(∀may,W.keptBut W' may)∧Go.RowKit.Below W.heap.size W W':=by
 rcases hs R W args hG (BQ W R G hG hR) ha with⟨_,h⟩|⟨v,w',h,_⟩
 ·refine h.mono fun e W' ⟨res,H',R',⟨hr,hH⟩,he,hm⟩=> ?_
  subst hr
  obtain⟨x,rfl,hx⟩:=he
  refine⟨by rw[aH.1 hx],fun may=>oo hm.ext may,⟨hm.ext.os,hm.ext.tape,hm.ext.output,hm.ext.size,fun k hk=>hm.ext.block k hk (fun h=>absurd h List.not_mem_nil)⟩⟩
 ·rw[hc] at h
  cases h
end
end Go.Proofs.YtdpbejofgemloaaGreatDoor
