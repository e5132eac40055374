/- Parts of the proof of jcardTells_card: Ext, Namr, Uri, Mx0, Shc, Spl, Spm, App, Bu, Uf, Ug, Vr, Bw, Bx. -/
import Derived.Lib.ItoaNum
import Derived.Lib.Join
import Derived.Lib.Split
import Derived.Lib.Builder
import Derived.Lib.UnsafeStr
import Derived.Scope
import Derived.Lib.IndexAny
import Derived.Test.YtdpbejofgemloaaGreatDoorBad
import Derived.Test.YtdpbejofgemloaaGreatDoorBae
set_option linter.unusedVariables false
set_option linter.unusedSimpArgs false
set_option linter.unusedSectionVars false
namespace Go.Proofs.YtdpbejofgemloaaGreatDoor
set_option maxRecDepth 20000
set_option maxHeartbeats 4000000
section
open Go
attribute [local irreducible] AWp AOps aa aA OrOk ad ah
def idxF (c:Int):List UInt8→Nat→Int
 |[],_=> -1
 |x::t,k=>if(x.toNat:Int)=c then k else idxF c t (k+1)
def idxB (s:List UInt8)(c:Int):Int:=idxF c s 0
theorem qo {c:UInt8}(b:ByteArray):∀(t:List UInt8) (k:Nat),(∀j,j<t.length→b[k+j]! =t.getD j 0)→
  (match (List.range' k t.length).find? fun i=>b[i]! ==c with|some i=>(i:Int)|none=> -1)=idxF (c.toNat:Int) t k
 |[],_,_=>by simp[idxF]
 |x::t,k,h=>by
  have h0:=h 0 (by simp)
  simp only[Nat.add_zero,List.getD_cons_zero] at h0
  rw[List.length_cons,List.range'_succ,List.find?_cons,h0]
  by_cases e:x=c
  ·subst e;simp[idxF]
  ·have e1:(x==c)=false:=by simpa using e
   rw[e1]
   have e2:¬((x.toNat:Int)=(c.toNat:Int)):=by
    intro h;exact e (UInt8.toNat_inj.1 (by omega))
   simp only[idxF,if_neg e2]
   exact qo b t (k+1) (fun j hj=>by
    have:=h (j+1) (by simpa using hj)
    rw[show k+1+j=k+(j+1) by omega,this];simp)
theorem gm {G:Glo}(s:List UInt8)(c:Int)(h0:0≤c)(h1:c≤255):FnIs Tryz.prog G 115 [.str s,.int .u8 c] (.int .i64 (idxB s c)):=by
 refine bM Tryz.func115 (by kernel_rfl) (by kernel_rfl) (by kernel_rfl) (e:=Go.Extern.BytealgIndexByte.indexByte) (by kernel_rfl) ?_
 intro R args ha w
 obtain⟨x,t,e,hx,y,t',e',hy,rfl⟩:=ha
 have hx:=aE.1 hx
 have hy:=am.1 hy
 subst hx hy
 obtain rfl:args=#[.string ⟨s.toArray⟩,.int .u8 c]:=by cases args;simp_all
 refine⟨.int .i64 (idxB s c),?_,am.2 rfl⟩
 have hc:(c.toNat.toUInt8).toNat=c.toNat:=by
  show(UInt8.ofNat c.toNat).toNat=_
  rw[UInt8.toNat_ofNat'];omega
 have key:=qo (c:=c.toNat.toUInt8) ⟨s.toArray⟩ s 0 (fun j hj=>by
  rw[Nat.zero_add]
  rw[getElem!_pos (⟨s.toArray⟩:ByteArray) j (by rw[ba];exact hj)]
  show s.toArray[j]=_
  simp[List.getD,hj])
 rw[hc,Int.toNat_of_nonneg h0] at key
 have e:Go.Extern.BytealgIndexByte.indexByte #[.string ⟨s.toArray⟩,.int .u8 c]=(match (List.range (⟨s.toArray⟩:ByteArray).size).find? fun i=>(⟨s.toArray⟩:ByteArray)[i]! ==c.toNat.toUInt8 with|some i=>pure (goInt i)|none=>pure (goInt (-1))):=rfl
 rw[e,ba,List.range_eq_range']
 unfold idxB
 rw[←key]
 generalize List.find? _ _=o
 cases o<;>rfl
theorem dF {G:Glo}(s:List UInt8)(c:Int)(h0:0≤c)(h1:c≤255):FnIs Tryz.prog G 64 [.str s,.int .u8 c] (.int .i64 (idxB s c)):=by
 have hb:=gm (G:=G) s c h0 h1
 have hGL:ad G []:=ab
 refine fn_x Tryz.func64 Tryz.call64 rfl rfl rfl rfl hGL ?_
 intro C hC
 repeat' (first|(conv=>whnf);first|refine .w ?_|refine .v ?_|refine sc_c ?_ ?_<;>(intro hb;try exact dd hb)|apply ao|apply aG|(apply sc_i<;>intro hb)|(apply bx_i;intro hbd)|(apply ax;first|exact hb)|(apply aw (i:=0) rfl;first|exact hb)|(apply ab_i;intro bl)|(apply as_i;intro va vk vc hva)|(apply av_i;intro v)|(apply ac_i;intro bl cap hcap)|apply bo_l|(apply nx_i<;>intro hnx)|apply dw_q mixed hC hGL (by kernel_rfl)|(apply cq;assumption;(first|exact hb);exact rfl)|(show Rt _ _ _;exact rt_w)|fail)
 all_goals try conv=>whnf
theorem aV {G:Glo}(s:List UInt8)(c:Int)(h0:0≤c)(h1:c≤255):FnIs Tryz.prog G 37 [.str s,.int .u8 c] (.int .i64 (idxB s c)):=by
 have hb:=dF (G:=G) s c h0 h1
 have hGL:ad G []:=ab
 refine fn_x Tryz.func37 Tryz.call37 rfl rfl rfl rfl hGL ?_
 intro C hC
 repeat' (first|(conv=>whnf);first|refine .w ?_|refine .v ?_|refine sc_c ?_ ?_<;>(intro hb;try exact dd hb)|apply ao|apply aG|(apply sc_i<;>intro hb)|(apply bx_i;intro hbd)|(apply ax;first|exact hb)|(apply aw (i:=0) rfl;first|exact hb)|(apply ab_i;intro bl)|(apply as_i;intro va vk vc hva)|(apply av_i;intro v)|(apply ac_i;intro bl cap hcap)|apply bo_l|(apply nx_i<;>intro hnx)|apply dw_q mixed hC hGL (by kernel_rfl)|(apply cq;assumption;(first|exact hb);exact rfl)|(show Rt _ _ _;exact rt_w)|fail)
 all_goals try conv=>whnf
end
section
open Go Go.RowKit
attribute [local irreducible] AWp AOps aa aA OrOk ad ah
attribute [local irreducible] idxB
theorem mH {G:Glo}(s:List UInt8)(hs:s.length≤140737488355328)(ha:∀j,j<s.length→aa s j<128):FnIs Tryz.prog G 38 [.str s] (.str (Lib.toLowerA s)):=by
 refine bB rfl Tryz.call38 ?_
 intro R args hr w _ _
 obtain⟨x,t,e,hx,rfl⟩:=hr
 have hx:=aE.1 hx
 subst hx
 obtain rfl:args=#[.string ⟨s.toArray⟩]:=by cases args;simp_all
 have:=Tryz.strings_ToLower_ascii ⟨s.toArray⟩ w (by rw[ba];exact hs) (fun j b hb=>by
  have hb':s[j]? =some b:=by simpa using hb
  have hj:=(List.getElem?_eq_some_iff.1 hb').1
  have h2:=ha j hj
  unfold aa at h2
  simpa[List.getD,hb'] using h2)
 simp only[AVal.conc]
 simpa using this
def abcU:List UInt8:=[65,66,67,68,69,70,71,72,73,74,75,76,77,78,79,80,81,82,83,84,85,86,87,88,89,90]
def abcL:List UInt8:=[97,98,99,100,101,102,103,104,105,106,107,108,109,110,111,112,113,114,115,116,117,118,119,120,121,122]
def CG:List UInt8:=[48,49,50,51,52,53,54,55,56,57,45]
theorem fu {G:Glo}:FnIs Tryz.prog G 38 [.str abcU] (.str abcL):=by
 have h:=mH (G:=G) abcU (by decide) (by decide+kernel)
 have e:Lib.toLowerA abcU=abcL:=by decide
 rwa [e] at h
theorem gq {p:Int→Bool}(h:∀c:Fin 256,p (c.1:Int)=true){c:Int}(h0:0≤c)(h1:c≤255):p c=true:=by
 have:=h ⟨c.toNat,by omega⟩
 simpa only[Int.toNat_of_nonneg h0] using this
theorem oy {c:Int}(h0:0≤c)(h1:c≤255):decide (idxB ((abcU++abcL)++CG) c<0)= !bu c:=by
 have:=gq (p:=fun c=>decide (idxB ((abcU++abcL)++CG) c<0)== !bu c) (by decide+kernel) h0 h1
 simpa using this
theorem nQ {G:Glo}(s:List UInt8)(hl:s.length≤9223372036854775807):FnIs Tryz.prog G 107 [.str s] (.bool (isS s)):=by
 have hGL:ad G []:=ab
 refine fn_x Tryz.func107 Tryz.call107 rfl rfl rfl rfl hGL ?_
 intro C hC
 have hT:=fu (G:=G)
 have hI:=fun c h0 h1=>aV (G:=G) ((abcU++abcL)++CG) c h0 h1
 have hW:=cE (G:=G) (s.length:Int) 1 40
 repeat' (first|(conv=>whnf);first|refine .w ?_|refine .v ?_|refine sc_c ?_ ?_<;>(intro hb;try exact dd hb)|apply ao|apply aG|(apply sc_i<;>intro hb)|(apply bx_i;intro hbd)|(apply ax;first|fail)|(apply aw (i:=0) rfl;first|fail)|(apply ab_i;intro bl)|(apply as_i;intro va vk vc hva)|(apply av_i;intro v)|(apply ac_i;intro bl cap hcap)|apply bo_l|(apply nx_i<;>intro hnx)|apply dw_q mixed hC hGL (by kernel_rfl)|(apply cq;assumption;(first|fail);exact rfl)|(show Rt _ _ _;exact rt_w)|fail)
 all_goals try conv=>whnf
 refine lp hC hGL (fun(i:Nat)=>[(0,.str s),(6,.own 0 (.slice (some ⟨bl,0,none⟩) s.length cap)),(7,.int .i64 s.length),(8,.int .i64 i)]) (fun _=>[.buf bl s cap]) (fun i=>i≤s.length∧∀j,j<i→bu (aa s j)=true) (fun i=>s.length-i) 0 ?_ ae rfl ?_
 ·exact⟨Nat.zero_le _,by intro j hj;omega⟩
 rintro i ⟨hi,hb0⟩
 repeat' (first|(conv=>whnf);first|refine .w ?_|refine .v ?_|refine sc_c ?_ ?_<;>(intro hb;try exact dd hb)|apply ao|apply aG|(apply sc_i<;>intro hb)|(apply bx_i;intro hbd)|(apply ax;first|exact hT|exact hW|(exact hI _ (by omega) (by omega)))|(apply aw (i:=0) rfl;first|exact hT|exact hW|(exact hI _ (by omega) (by omega)))|(apply ab_i;intro bl)|(apply as_i;intro va vk vc hva)|(apply av_i;intro v)|(apply ac_i;intro bl cap hcap)|apply bo_l|(apply nx_i<;>intro hnx)|apply dw_q mixed hC hGL (by kernel_rfl)|(apply cq;assumption;(first|exact hT|exact hW|(exact hI _ (by omega) (by omega)));exact rfl)|(show Rt _ _ _;exact rt_w)|fail)
 all_goals try conv=>whnf
 ·apply ak
  have hx:=oy (c:=(aa s i:Int)) (by omega) (by omega)
  rw[decide_eq_true hb] at hx
  rw[isS,Dj (j:=i) (by omega) (by simpa using hx.symm)]
  rfl
 ·have hx:=oy (c:=(aa s i:Int)) (by omega) (by omega)
  rw[decide_eq_false (by omega)] at hx
  refine nxt (i+1) ?_ ?_ ae rfl
  ·exact⟨by omega,bG hb0 (by simpa using hx.symm)⟩
  ·omega
 ·apply ak
  refine congrArg AVal.bool ?_
  have ha:allB bu s=true:=o8.2 fun j hj=>hb0 j (by omega)
  simp only[isS,ha,Bool.true_and]
  rw[Bool.eq_iff_iff]
  simp only[Bool.and_eq_true,decide_eq_true_eq]
  omega
theorem Ci {c:Int}(h0:0≤c)(h1:c≤255):(if 0≤idxB abcL c then idxB abcL c<26∧(aa abcU (idxB abcL c).toNat:Int)=bO 97 122 (-32) c.toNat else bO 97 122 (-32) c.toNat=c):=by
 have:=gq (p:=fun c=>decide (if 0≤idxB abcL c then idxB abcL c<26∧(aa abcU (idxB abcL c).toNat:Int)=bO 97 122 (-32) c.toNat else bO 97 122 (-32) c.toNat=c)) (by decide+kernel) h0 h1
 simpa using this
theorem yz {c:Int}(h0:0≤c)(h1:c≤255):(if 0≤idxB abcU c then idxB abcU c<26∧(aa abcL (idxB abcU c).toNat:Int)=bO 65 90 32 c.toNat else bO 65 90 32 c.toNat=c):=by
 have:=gq (p:=fun c=>decide (if 0≤idxB abcU c then idxB abcU c<26∧(aa abcL (idxB abcU c).toNat:Int)=bO 65 90 32 c.toNat else bO 65 90 32 c.toNat=c)) (by decide+kernel) h0 h1
 simpa using this
theorem zF {G:Glo}(s:List UInt8)(hl:s.length≤9223372036854775807):FnIs Tryz.prog G 110 [.str s] (.str (aj 97 122 (-32) s)):=by
 have hGL:ad G []:=ab
 refine fn_x Tryz.func110 Tryz.call110 rfl rfl rfl rfl hGL ?_
 intro C hC
 have hT:=fu (G:=G)
 have hcT:=Tryz.call38
 have hcI:=Tryz.call37
 have hI:=fun c h0 h1=>aV (G:=G) abcL c h0 h1
 have eU:abcU.length=26:=rfl
 repeat' (first|(conv=>whnf);first|refine .w ?_|refine .v ?_|refine sc_c ?_ ?_<;>(intro hb;try exact dd hb)|apply ao|apply aG|(apply sc_i<;>intro hb)|(apply bx_i;intro hbd)|(apply ax;first|fail)|(apply aw (i:=0) rfl;first|fail)|(apply ab_i;intro bl)|(apply as_i;intro va vk vc hva)|(apply av_i;intro v)|(apply ac_i;intro bl cap hcap)|apply bo_l|(apply nx_i<;>intro hnx)|apply dw_q mixed hC hGL (by kernel_rfl)|(apply cq;assumption;(first|fail);exact rfl)|(show Rt _ _ _;exact rt_w)|fail)
 all_goals try conv=>whnf
 refine lp hC hGL (fun(x:Nat×List UInt8)=>[(3,.own 0 (.slice (some ⟨bl,0,none⟩) s.length cap)),(9,.int .i64 s.length),(10,.int .i64 x.1)]) (fun x=>[.buf bl x.2 cap]) (fR 97 122 (-32) s) (fun x=>s.length-x.1) (0,s) ?_ ae rfl ?_
 ·exact nz
 rintro⟨i,t⟩ hI0
 have hi:=hI0.1
 have ht:=hI0.2.1
 dsimp only at hi ht ⊢
 repeat' (first|(conv=>whnf);first|refine .w ?_|refine .v ?_|refine sc_c ?_ ?_<;>(intro hb;try exact dd hb)|apply ao|apply aG|(apply sc_i<;>intro hb)|(apply bx_i;intro hbd)|(apply ax;first|exact hT|(exact hI _ (by omega) (by omega)))|(apply aw (i:=0) rfl;first|exact hT|(exact hI _ (by omega) (by omega)))|(apply ab_i;intro bl)|(apply as_i;intro va vk vc hva)|(apply av_i;intro v)|(apply ac_i;intro bl cap hcap)|apply bo_l|(apply nx_i<;>intro hnx)|apply dw_q mixed hC hGL (by kernel_rfl)|(apply cq;assumption;(first|exact hT|(exact hI _ (by omega) (by omega)));exact rfl)|(show Rt _ _ _;exact rt_w)|fail)
 all_goals try conv=>whnf
 ·have e:=eP hI0 (by omega)
  have hx:=Ci (c:=(aa s i:Int)) (by omega) (by omega)
  rw[if_pos (by rw[←e];exact hb),←e] at hx
  refine xw1 ?_
  intros
  refine nxt (i+1,t.set i (UInt8.ofNat ((aa abcU (idxB abcL (aa t i)).toNat:Nat):Int).toNat)) ?_ ?_ ae rfl
  ·refine jS hI0 (by omega) ?_ (by omega) (by have:=aO abcU (idxB abcL (aa t i)).toNat;omega)
   rw[hx.2,e]
   simp only[Int.toNat_natCast]
  ·dsimp only;omega
 ·have e:=eP hI0 (by omega)
  have hx:=Ci (c:=(aa s i:Int)) (by omega) (by omega)
  rw[if_neg (by rw[←e];omega)] at hx
  refine nxt (i+1,t) ?_ ?_ ae rfl
  ·exact il hI0 (by omega) (by simpa using hx)
  ·dsimp only;omega
 ·apply ak
  rw[jU (by decide) (by decide) hI0 (by omega)]
theorem f9 {G:Glo}(s:List UInt8)(hl:s.length≤9223372036854775807):FnIs Tryz.prog G 18 [.str s] (.str (aj 65 90 32 s)):=by
 have hGL:ad G []:=ab
 refine fn_x Tryz.func18 Tryz.call18 rfl rfl rfl rfl hGL ?_
 intro C hC
 have hT:=fu (G:=G)
 have hI:=fun c h0 h1=>aV (G:=G) abcU c h0 h1
 have eL:abcL.length=26:=rfl
 repeat' (first|(conv=>whnf);first|refine .w ?_|refine .v ?_|refine sc_c ?_ ?_<;>(intro hb;try exact dd hb)|apply ao|apply aG|(apply sc_i<;>intro hb)|(apply bx_i;intro hbd)|(apply ax;first|fail)|(apply aw (i:=0) rfl;first|fail)|(apply ab_i;intro bl)|(apply as_i;intro va vk vc hva)|(apply av_i;intro v)|(apply ac_i;intro bl cap hcap)|apply bo_l|(apply nx_i<;>intro hnx)|apply dw_q mixed hC hGL (by kernel_rfl)|(apply cq;assumption;(first|fail);exact rfl)|(show Rt _ _ _;exact rt_w)|fail)
 all_goals try conv=>whnf
 refine lp hC hGL (fun(x:Nat×List UInt8)=>[(3,.own 0 (.slice (some ⟨bl,0,none⟩) s.length cap)),(9,.int .i64 s.length),(10,.int .i64 x.1)]) (fun x=>[.buf bl x.2 cap]) (fR 65 90 32 s) (fun x=>s.length-x.1) (0,s) ?_ ae rfl ?_
 ·exact nz
 rintro⟨i,t⟩ hI0
 have hi:=hI0.1
 have ht:=hI0.2.1
 dsimp only at hi ht ⊢
 repeat' (first|(conv=>whnf);first|refine .w ?_|refine .v ?_|refine sc_c ?_ ?_<;>(intro hb;try exact dd hb)|apply ao|apply aG|(apply sc_i<;>intro hb)|(apply bx_i;intro hbd)|(apply ax;first|exact hT|(exact hI _ (by omega) (by omega)))|(apply aw (i:=0) rfl;first|exact hT|(exact hI _ (by omega) (by omega)))|(apply ab_i;intro bl)|(apply as_i;intro va vk vc hva)|(apply av_i;intro v)|(apply ac_i;intro bl cap hcap)|apply bo_l|(apply nx_i<;>intro hnx)|apply dw_q mixed hC hGL (by kernel_rfl)|(apply cq;assumption;(first|exact hT|(exact hI _ (by omega) (by omega)));exact rfl)|(show Rt _ _ _;exact rt_w)|fail)
 all_goals try conv=>whnf
 ·have e:=eP hI0 (by omega)
  have hx:=yz (c:=(aa s i:Int)) (by omega) (by omega)
  rw[if_pos (by rw[←e];exact hb),←e] at hx
  refine xw1 ?_
  intros
  refine nxt (i+1,t.set i (UInt8.ofNat ((aa abcL (idxB abcU (aa t i)).toNat:Nat):Int).toNat)) ?_ ?_ ae rfl
  ·refine jS hI0 (by omega) ?_ (by omega) (by have:=aO abcL (idxB abcU (aa t i)).toNat;omega)
   rw[hx.2,e]
   simp only[Int.toNat_natCast]
  ·dsimp only;omega
 ·have e:=eP hI0 (by omega)
  have hx:=yz (c:=(aa s i:Int)) (by omega) (by omega)
  rw[if_neg (by rw[←e];omega)] at hx
  refine nxt (i+1,t) ?_ ?_ ae rfl
  ·exact il hI0 (by omega) (by simpa using hx)
  ·dsimp only;omega
 ·apply ak
  rw[jU (by decide) (by decide) hI0 (by omega)]
end
section
open Go
theorem je {c:Int}:∀(t:List UInt8) (k:Nat),(idxF c t k= -1∧∀j,j<t.length→(aa t j:Int)≠c)∨∃m,m<t.length∧idxF c t k=((k+m:Nat):Int)∧(aa t m:Int)=c∧∀j,j<m→(aa t j:Int)≠c
 |[],_=>.inl ⟨rfl,fun j h=>absurd h (Nat.not_lt_zero _)⟩
 |x::t,k=>by
  by_cases e:(x.toNat:Int)=c
  ·refine .inr ⟨0,by simp,by simp[idxF,e],by simpa[aa] using e,fun j h=>absurd h (Nat.not_lt_zero _)⟩
  ·have e1:idxF c (x::t) k=idxF c t (k+1):=by simp[idxF,e]
   have h0:∀{p:Prop},(∀j,j<t.length→(aa t j:Int)≠c)→∀j,j<(x::t).length→(aa (x::t) j:Int)≠c:=by
    intro _ h j hj
    cases j with
    |zero=>simpa[aa] using e
    |succ j=>simpa[aa] using h j (by simpa using hj)
   rcases je (c:=c) t (k+1) with⟨h1,h2⟩|⟨m,h1,h2,h3,h4⟩
   ·exact .inl ⟨by rw[e1,h1],h0 (p:=True) h2⟩
   ·refine .inr ⟨m+1,by simpa using h1,by rw[e1,h2];omega,by simpa[aa] using h3,fun j hj=> ?_⟩
    cases j with
    |zero=>simpa[aa] using e
    |succ j=>simpa[aa] using h4 j (by omega)
theorem rT {s:List UInt8}{c:Int}{i:Nat}(hi:i<s.length)(h:(aa s i:Int)=c)(h0:∀j,j<i→(aa s j:Int)≠c):idxB s c=i:=by
 rcases je (c:=c) s 0 with⟨h1,h2⟩|⟨m,h1,h2,h3,h4⟩
 ·exact absurd h (h2 i hi)
 ·unfold idxB
  rw[h2]
  have:m=i:=by
   rcases Nat.lt_trichotomy m i with h5|h5|h5
   ·exact absurd h3 (h0 m h5)
   ·exact h5
   ·exact absurd h (h4 i h5)
  omega
theorem qp {s:List UInt8}{c:Int}(h0:∀j,j<s.length→(aa s j:Int)≠c):idxB s c= -1:=by
 rcases je (c:=c) s 0 with⟨h1,h2⟩|⟨m,h1,h2,h3,h4⟩
 ·exact h1
 ·exact absurd h3 (h0 m h1)
theorem gK (s:List UInt8)(c:Int):(idxB s c= -1∧∀j,j<s.length→(aa s j:Int)≠c)∨∃m,m<s.length∧idxB s c=(m:Int)∧(aa s m:Int)=c∧∀j,j<m→(aa s j:Int)≠c:=by
 rcases je (c:=c) s 0 with h|⟨m,h1,h2,h3⟩
 ·exact .inl h
 ·exact .inr ⟨m,h1,by unfold idxB;rw[h2];omega,h3⟩
def schB (i:Nat)(c:Int):Bool:=decide ((97≤c∧c≤122)∨(65≤c∧c≤90)∨(0<i∧((48≤c∧c≤57)∨c=43∨c=45∨c=46)))
theorem vL {i:Nat}{c:Int}:schB i c=true↔((97≤c∧c≤122)∨(65≤c∧c≤90)∨(0<i∧((48≤c∧c≤57)∨c=43∨c=45∨c=46))):=by simp[schB]
theorem FA {i:Nat}{c:Int}:schB i c=false↔¬((97≤c∧c≤122)∨(65≤c∧c≤90)∨(0<i∧((48≤c∧c≤57)∨c=43∨c=45∨c=46))):=by simp[schB]
def begN (s:List UInt8):Nat:=if idxB s 58<1 then 0 else if ∀j,j<(idxB s 58).toNat→schB j (aa s j)=true then(idxB s 58).toNat else 0
theorem EC {s:List UInt8}{i:Nat}(hi:i<s.length)(h:(aa s i:Int)=58)(h0:∀j,j<i→(aa s j:Int)≠58∧schB j (aa s j)=true):begN s=i:=by
 have e:=rT hi h fun j hj=>(h0 j hj).1
 unfold begN
 rw[e]
 by_cases h1:(i:Int)<1
 ·rw[if_pos h1];omega
 ·rw[if_neg h1,if_pos (fun j hj=>(h0 j (by omega)).2)]
  omega
theorem C3 {s:List UInt8}{i:Nat}(hi:i<s.length)(h:(aa s i:Int)≠58)(hb:schB i (aa s i)=false)(h0:∀j,j<i→(aa s j:Int)≠58∧schB j (aa s j)=true):begN s=0:=by
 rcases gK s 58 with⟨h1,_⟩|⟨m,h1,h2,h3,h4⟩
 ·unfold begN;rw[h1];rfl
 ·have:i<m:=by
   rcases Nat.lt_trichotomy m i with h5|h5|h5
   ·exact absurd h3 (h0 m h5).1
   ·subst h5;exact absurd h3 h
   ·exact h5
  unfold begN
  rw[h2]
  split
  ·rfl
  ·rw[if_neg]
   intro hh
   have:=hh i (by omega)
   rw[hb] at this
   cases this
theorem Ax {s:List UInt8}(h0:∀j,j<s.length→(aa s j:Int)≠58):begN s=0:=by
 unfold begN;rw[qp h0];rfl
theorem sr {s:List UInt8}(h:begN s≠0):begN s<s.length∧aa s (begN s)=58∧idxB s 58=begN s:=by
 rcases gK s 58 with⟨h1,_⟩|⟨m,h1,h2,h3,h4⟩
 ·unfold begN at h;rw[h1] at h;exact absurd rfl h
 ·have e:begN s=m:=by
   unfold begN at*
   generalize idxB s 58=z at*
   subst h2
   by_cases e1:(m:Int)<1
   ·rw[if_pos e1] at h;exact absurd rfl h
   ·rw[if_neg e1] at h ⊢
    by_cases e2:∀j,j<(m:Int).toNat→schB j (aa s j)=true
    ·rw[if_pos e2];omega
    ·rw[if_neg e2] at h;exact absurd rfl h
  rw[e]
  exact⟨h1,by omega,h2⟩
attribute [local irreducible] AWp AOps aa aA OrOk ad ah
attribute [local irreducible] idxB begN schB
theorem vA {G:Glo}(s:List UInt8)(hl:s.length≤9223372036854775807):FnIs Tryz.prog G 145 [.str s] (.int .i64 (begN s)):=by
  have hGL:ad G []:=ab
  refine fn_x Tryz.func145 Tryz.call145 rfl rfl rfl rfl hGL ?_
  intro C hC
  refine xw1 ?_
  intros
  refine lp hC hGL (fun(i:Nat)=>[(0,.str s),(6,.int .i64 s.length),(7,.int .i64 i)]) (fun _=>[]) (fun i=>i≤s.length∧∀j,j<i→(aa s j:Int)≠58∧schB j (aa s j)=true) (fun i=>s.length-i) 0 ?_ ae rfl ?_
  · exact⟨Nat.zero_le _,by intro j hj;omega⟩
  rintro i ⟨hi,hb0⟩
  refine xw ?_
  repeat' (first|exact Le.n|refine Lc.mk ?_ ?_)
  all_goals intros
  all_goals first
    |(apply ak;refine congrArg (AVal.int .i64) ?_;rw[EC (i:=i) (by omega) (by omega) hb0];first|done|rfl)
    |(apply ak;refine congrArg (AVal.int .i64) ?_;rw[C3 (i:=i) (by omega) (by omega) (FA.2 (by omega)) hb0];first|done|rfl)
    |(apply ak;refine congrArg (AVal.int .i64) ?_;rw[Ax (fun j hj=>(hb0 j (by omega)).1)];first|done|rfl)
    | (refine nxt (i+1) ?_ ?_ ae rfl
       · exact⟨by omega,bG hb0 ⟨by omega,vL.2 (by omega)⟩⟩
       · omega)
def schE (s:List UInt8):Int:=if begN s=0 then 8 else 0
def j9 (c:Int):Bool:=decide (33≤c∧c≤126)
theorem oB {c:Int}:j9 c=true↔(33≤c∧c≤126):=by simp[j9]
theorem Cp {c:Int}:j9 c=false↔¬(33≤c∧c≤126):=by simp[j9]
def fstG (f:Int→Bool):List UInt8→Nat→Int
 |[],_=> -1
 |x::t,k=>if f (x.toNat:Int) then k else fstG f t (k+1)
def fstB (f:Int→Bool)(s:List UInt8):Int:=fstG f s 0
theorem jj {f:Int→Bool}:∀(t:List UInt8) (k:Nat),(fstG f t k= -1∧∀j,j<t.length→f (aa t j:Int)=false)∨∃m,m<t.length∧fstG f t k=((k+m:Nat):Int)∧f (aa t m:Int)=true∧∀j,j<m→f (aa t j:Int)=false
 |[],_=>.inl ⟨rfl,fun j h=>absurd h (Nat.not_lt_zero _)⟩
 |x::t,k=>by
  by_cases e:f (x.toNat:Int)=true
  ·refine .inr ⟨0,by simp,by simp[fstG,e],by simpa[aa] using e,fun j h=>absurd h (Nat.not_lt_zero _)⟩
  ·have e1:fstG f (x::t) k=fstG f t (k+1):=by simp[fstG,e]
   rcases jj (f:=f) t (k+1) with⟨h1,h2⟩|⟨m,h1,h2,h3,h4⟩
   ·refine .inl ⟨by rw[e1,h1],fun j hj=> ?_⟩
    cases j with
    |zero=>simpa[aa] using e
    |succ j=>simpa[aa] using h2 j (by simpa using hj)
   ·refine .inr ⟨m+1,by simpa using h1,by rw[e1,h2];omega,by simpa[aa] using h3,fun j hj=> ?_⟩
    cases j with
    |zero=>simpa[aa] using e
    |succ j=>simpa[aa] using h4 j (by omega)
theorem gN {f:Int→Bool}{s:List UInt8}{i:Nat}(hi:i<s.length)(h:f (aa s i:Int)=true)(h0:∀j,j<i→f (aa s j:Int)=false):fstB f s=i:=by
 rcases jj (f:=f) s 0 with⟨h1,h2⟩|⟨m,h1,h2,h3,h4⟩
 ·rw[h2 i hi] at h;cases h
 ·unfold fstB
  rw[h2]
  have:m=i:=by
   rcases Nat.lt_trichotomy m i with h5|h5|h5
   ·rw[h0 m h5] at h3;cases h3
   ·exact h5
   ·rw[h4 i h5] at h;cases h
  omega
theorem dP {f:Int→Bool}{s:List UInt8}(h0:∀j,j<s.length→f (aa s j:Int)=false):fstB f s= -1:=by
 rcases jj (f:=f) s 0 with⟨h1,h2⟩|⟨m,h1,h2,h3,h4⟩
 ·exact h1
 ·rw[h0 m h1] at h3;cases h3
theorem gM (f:Int→Bool)(s:List UInt8):(fstB f s= -1∧∀j,j<s.length→f (aa s j:Int)=false)∨∃m,m<s.length∧fstB f s=(m:Int)∧f (aa s m:Int)=true∧∀j,j<m→f (aa s j:Int)=false:=by
 rcases jj (f:=f) s 0 with h|⟨m,h1,h2,h3⟩
 ·exact .inl h
 ·exact .inr ⟨m,h1,by unfold fstB;rw[h2];omega,h3⟩
attribute [local irreducible] j9 fstB
theorem ir {G:Glo}(s:List UInt8)(f:Nat)(p:Int→Bool)(hl:s.length≤9223372036854775807)(hp:∀c:Nat,c<256→FnIs Tryz.prog G f [.int .u8 (c:Int)] (.bool (p c))):FnIs Tryz.prog G 125 [.str s,.func (.func f) [] []] (.int .i64 (fstB p s)):=by
 have hGL:ad G []:=ab
 refine fn_x Tryz.func125 Tryz.call125 rfl rfl rfl rfl hGL ?_
 intro C hC
 repeat' (first|(conv=>whnf);first|refine .w ?_|refine .v ?_|refine sc_c ?_ ?_<;>(intro hb;try exact dd hb)|apply ao|apply aG|(apply sc_i<;>intro hb)|(apply bx_i;intro hbd)|(apply ax;first|fail)|(apply aw (i:=0) rfl;first|fail)|(apply ab_i;intro bl)|(apply as_i;intro va vk vc hva)|(apply av_i;intro v)|(apply ac_i;intro bl cap hcap)|apply bo_l|(apply nx_i<;>intro hnx)|apply dw_q mixed hC hGL (by kernel_rfl)|(apply cq;assumption;(first|fail);exact rfl)|(show Rt _ _ _;exact rt_w)|fail)
 all_goals try conv=>whnf
 refine lp hC hGL (fun(i:Nat)=>[(1,.func (.func f) [] []),(8,.own 0 (.slice (some ⟨bl,0,none⟩) s.length cap)),(9,.int .i64 s.length),(10,.int .i64 i)]) (fun _=>[.buf bl s cap]) (fun i=>i≤s.length∧∀j,j<i→p (aa s j:Int)=false) (fun i=>s.length-i) 0 ?_ ae rfl ?_
 ·exact⟨Nat.zero_le _,by intro j hj;omega⟩
 rintro i ⟨hi,hb0⟩
 repeat' (first|(conv=>whnf);first|refine .w ?_|refine .v ?_|refine sc_c ?_ ?_<;>(intro hb;try exact dd hb)|apply ao|apply aG|(apply sc_i<;>intro hb)|(apply bx_i;intro hbd)|(apply ax;first|exact hp _ (by omega))|(apply aw (i:=0) rfl;first|exact hp _ (by omega))|(apply ab_i;intro bl)|(apply as_i;intro va vk vc hva)|(apply av_i;intro v)|(apply ac_i;intro bl cap hcap)|apply bo_l|(apply nx_i<;>intro hnx)|apply dw_q mixed hC hGL (by kernel_rfl)|(apply cq;assumption;(first|exact hp _ (by omega));exact rfl)|(show Rt _ _ _;exact rt_w)|fail)
 all_goals try conv=>whnf
 ·apply ak
  rw[gN (i:=i) (by omega) hb hb0]
 ·refine nxt (i+1) ?_ ?_ ae rfl
  ·exact⟨by omega,bG hb0 hb⟩
  ·omega
 ·apply ak
  rw[dP (fun j hj=>hb0 j (by omega))]
  rfl
theorem ut {c:Int}(h0:0≤c)(h1:c≤255):decide (idxB ((abcU++abcL)++[]) c<0)= !schB 0 c:=by
 have:=gq (p:=fun c=>decide (idxB ((abcU++abcL)++[]) c<0)== !schB 0 c) (by decide+kernel) h0 h1
 simpa using this
def schD:List UInt8:=[48,49,50,51,52,53,54,55,56,57,43,45,46]
theorem ur {c:Int}(h0:0≤c)(h1:c≤255):decide (idxB ((abcU++abcL)++schD) c<0)= !schB 1 c:=by
 have:=gq (p:=fun c=>decide (idxB ((abcU++abcL)++schD) c<0)== !schB 1 c) (by decide+kernel) h0 h1
 simpa using this
theorem pT {i:Nat}{c:Int}(h:i=0):schB i c=schB 0 c:=by rw[h]
theorem pU {i:Nat}{c:Int}(h:0<i):schB i c=schB 1 c:=by
 rw[Bool.eq_iff_iff,vL,vL];omega
theorem C4 {s:List UInt8}{m:Nat}(hm:idxB s 58=m)(h1:0<m)(h:∀j,j<m→schB j (aa s j)=true):begN s=m:=by
 unfold begN
 rw[hm,if_neg (by omega),if_pos (fun j hj=>h j (by omega))]
 omega
theorem C1 {s:List UInt8}{m:Nat}(hm:idxB s 58=m){i:Nat}(hi:i<m)(h:schB i (aa s i)=false):begN s=0:=by
 unfold begN
 rw[hm]
 split
 ·rfl
 ·rw[if_neg]
  intro hh
  have:=hh i (by omega)
  rw[h] at this
  cases this
theorem wd {G:Glo}(s:List UInt8)(hl:s.length≤9223372036854775807):FnIs Tryz.prog G 128 [.str s] (.tuple [.str (s.take (begN s)),.int .i64 (schE s)]):=by
 have hGL:ad G []:=ab
 refine fn_x Tryz.func128 Tryz.call128 rfl rfl rfl rfl hGL ?_
 intro C hC
 have hI:=aV (G:=G) s 58 (by decide) (by decide)
 have hT:=fu (G:=G)
 have hJ0:=fun c h0 h1=>aV (G:=G) ((abcU++abcL)++[]) c h0 h1
 have hJ1:=fun c h0 h1=>aV (G:=G) ((abcU++abcL)++schD) c h0 h1
 have hle:idxB s 58<s.length:=by
  rcases gK s 58 with⟨h1,_⟩|⟨m,h1,h2,_⟩<;>omega
 repeat' (first|(conv=>whnf);first|refine .w ?_|refine .v ?_|refine sc_c ?_ ?_<;>(intro hb;try exact dd hb)|apply ao|apply aG|(apply sc_i<;>intro hb)|(apply bx_i;intro hbd)|(apply ax;first|exact hI)|(apply aw (i:=0) rfl;first|exact hI)|(apply ab_i;intro bl)|(apply as_i;intro va vk vc hva)|(apply av_i;intro v)|(apply ac_i;intro bl cap hcap)|apply bo_l|(apply nx_i<;>intro hnx)|apply dw_q mixed hC hGL (by kernel_rfl)|(apply cq;assumption;(first|exact hI);exact rfl)|(show Rt _ _ _;exact rt_w)|fail)
 all_goals try conv=>whnf
 ·apply ak
  have e:begN s=0:=by unfold begN;rw[if_pos (by omega)]
  rw[schE,if_pos e,e]
  rfl
 have hm0:∃m:Nat,idxB s 58=m∧0<m∧m<s.length:=⟨(idxB s 58).toNat,by omega,by omega,by omega⟩
 obtain⟨m,hm,hm1,hm2⟩:=hm0
 have hA:=C4 hm hm1
 have hN:=fun i hi h=>C1 (i:=i) hm hi h
 have hbt:=fun j (hj:j<m)=>fE (s:=s) hj
 rw[hm] at*
 rw[show(m:Int).toNat=m from rfl] at*
 have ht:(s.take m).length=m:=by rw[List.length_take];omega
 rw[ht] at*
 refine lp hC hGL (fun(i:Nat)=>[(0,.str s),(4,.int .i64 m),(15,.own 0 (.slice (some ⟨bl,0,none⟩) m cap)),(16,.int .i64 m),(17,.int .i64 i)]) (fun _=>[.buf bl (s.take m) cap]) (fun i=>i≤m∧∀j,j<i→schB j (aa s j)=true) (fun i=>m-i) 0 ?_ ae rfl ?_
 ·exact⟨Nat.zero_le _,by intro j hj;omega⟩
 rintro i ⟨hi,hb0⟩
 repeat' (first|(conv=>whnf);first|refine .w ?_|refine .v ?_|refine sc_c ?_ ?_<;>(intro hb;try exact dd hb)|apply ao|apply aG|(apply sc_i<;>intro hb)|(apply bx_i;intro hbd)|(apply ax;first|exact hT|(exact hJ0 _ (by omega) (by omega))|(exact hJ1 _ (by omega) (by omega)))|(apply aw (i:=0) rfl;first|exact hT|(exact hJ0 _ (by omega) (by omega))|(exact hJ1 _ (by omega) (by omega)))|(apply ab_i;intro bl)|(apply as_i;intro va vk vc hva)|(apply av_i;intro v)|(apply ac_i;intro bl cap hcap)|apply bo_l|(apply nx_i<;>intro hnx)|apply dw_q mixed hC hGL (by kernel_rfl)|(apply cq;assumption;(first|exact hT|(exact hJ0 _ (by omega) (by omega))|(exact hJ1 _ (by omega) (by omega)));exact rfl)|(show Rt _ _ _;exact rt_w)|fail)
 all_goals try conv=>whnf
 ·apply ak
  have hx:=ut (c:=(aa (s.take m) i:Int)) (by omega) (by omega)
  rw[decide_eq_true hb,hbt i (by omega)] at hx
  have e:=hN i (by omega) (by rw[pT (by omega)];simpa using hx.symm)
  rw[schE,if_pos e,e]
  rfl
 ·have hx:=ut (c:=(aa (s.take m) i:Int)) (by omega) (by omega)
  rw[decide_eq_false (by omega),hbt i (by omega)] at hx
  refine nxt (i+1) ?_ ?_ ae rfl
  ·exact⟨by omega,bG hb0 (by rw[pT (by omega)];simpa using hx.symm)⟩
  ·omega
 ·apply ak
  have hx:=ur (c:=(aa (s.take m) i:Int)) (by omega) (by omega)
  rw[decide_eq_true hb,hbt i (by omega)] at hx
  have e:=hN i (by omega) (by rw[pU (by omega)];simpa using hx.symm)
  rw[schE,if_pos e,e]
  rfl
 ·have hx:=ur (c:=(aa (s.take m) i:Int)) (by omega) (by omega)
  rw[decide_eq_false (by omega),hbt i (by omega)] at hx
  refine nxt (i+1) ?_ ?_ ae rfl
  ·exact⟨by omega,bG hb0 (by rw[pU (by omega)];simpa using hx.symm)⟩
  ·omega
 ·apply ak
  have e:=hA (fun j hj=>hb0 j (by omega))
  rw[schE,if_neg (by omega),e]
  rfl
def cw (c:Int):Bool:= !j9 c
theorem n8 {c:Int}:cw c=true↔¬(33≤c∧c≤126):=by simp[cw,oB,Cp]
theorem n9 {c:Int}:cw c=false↔(33≤c∧c≤126):=by simp[cw,oB]
def uriE (s:List UInt8):Err:=if begN s=0 then .errno 8 else if 0≤fstB cw s then .at 3 (fstB cw s) else if begN s+1=s.length then .at 7 s.length else .none
attribute [local irreducible] cw
theorem y9 {G:Glo}(s:List UInt8)(hl:s.length≤9223372036854775807):FnIs Tryz.prog G 96 [.str s] (uriE s).A:=by
 have hGL:ad G []:=ab
 refine fn_x Tryz.func96 Tryz.call96 rfl rfl rfl rfl hGL ?_
 intro C hC
 have hb0:=vA (G:=G) s hl
 have hlt:begN s≠0→begN s<s.length:=fun h=>(sr h).1
 refine xw ?_
 repeat' (first|exact Le.n|refine Lc.mk ?_ ?_)
 all_goals intros
 ·apply ak
  rw[uriE,if_pos (by omega)]
  rfl
 refine lp hC hGL (fun(i:Nat)=>[(0,.str s),(3,.int .i64 (begN s)),(11,.int .i64 s.length),(12,.int .i64 i)]) (fun _=>[]) (fun i=>i≤s.length∧∀j,j<i→cw (aa s j)=false) (fun i=>s.length-i) 0 ?_ ae rfl ?_
 ·exact⟨Nat.zero_le _,by intro j hj;omega⟩
 rintro i ⟨hi,hg0⟩
 refine xw ?_
 repeat' (first|exact Le.n|refine Lc.mk ?_ ?_)
 all_goals intros
 ·apply ak
  rw[uriE,if_neg (by omega),gN (i:=i) (by omega) (n8.2 (by omega)) hg0,if_pos (by omega)]
  rfl
 ·apply ak
  rw[uriE,if_neg (by omega),gN (i:=i) (by omega) (n8.2 (by omega)) hg0,if_pos (by omega)]
  rfl
 ·refine nxt (i+1) ?_ ?_ ae rfl
  ·exact⟨by omega,bG hg0 (n9.2 (by omega))⟩
  ·omega
 ·apply ak
  rw[uriE,if_neg (by omega),dP (fun j hj=>hg0 j (by omega)),if_neg (by omega),if_pos (by omega)]
  rfl
 ·apply ak
  rw[uriE,if_neg (by omega),dP (fun j hj=>hg0 j (by omega)),if_neg (by omega),if_neg (by omega)]
  rfl
theorem zE {G:Glo}(c:Int)(h0:0≤c)(h1:c≤255):FnIs Tryz.prog G 130 [.int .u8 c] (.bool (j9 c)):=by
 have hGL:ad G []:=ab
 refine fn_x Tryz.func130 Tryz.call130 rfl rfl rfl rfl hGL ?_
 intro C hC
 have hw:=cE (G:=G) c 33 126
 refine xw1 ?_
 intros
 apply ak
 refine congrArg AVal.bool ?_
 rw[Bool.eq_iff_iff,oB]
 simp
theorem rt {G:Glo}(c:Int)(h0:0≤c)(h1:c≤255):FnIs Tryz.prog G 129 [.int .u8 c] (.bool (cw c)):=by
 have hGL:ad G []:=ab
 refine fn_x Tryz.func129 Tryz.call129 rfl rfl rfl rfl hGL ?_
 intro C hC
 have hw:=zE (G:=G) c h0 h1
 refine xw1 ?_
 intros
 apply ak
 unfold cw
 rfl
theorem rz {G:Glo}(s:List UInt8)(hl:s.length≤9223372036854775807):FnIs Tryz.prog G 74 [.str s] (.agg [.int .i64 (uriE s).e,.int .i64 (uriE s).p]):=by
 have hGL:ad G []:=ab
 refine fn_x Tryz.func74 Tryz.call74 rfl rfl rfl rfl hGL ?_
 intro C hC
 have h1:=wd (G:=G) s hl
 have h2:=ir (G:=G) s 129 cw hl (fun c hc=>rt (G:=G) c (by omega) (by omega))
 have h3:=fb (G:=G)
 have h4:=fa (G:=G)
 have hn:schE s=0→begN s<s.length∧begN s≠0:=fun h=>by
  unfold schE at h
  split at h
  ·cases h
  ·exact⟨(sr (by assumption)).1,by assumption⟩
 have hln:schE s=0→(s.take (begN s)).length=begN s:=fun h=>by
  have:=(hn h).1
  rw[List.length_take];omega
 have hs58:schE s=0→(s=s.take (begN s)++[58]↔begN s+1=s.length):=fun h=>by
  have h1:=hn h
  have h2:=hln h
  have h3:=(sr h1.2).2.1
  constructor
  ·intro e
   have:=congrArg List.length e
   rw[List.length_append,h2] at this
   simpa using this.symm
  ·intro e
   refine List.ext_getElem (by rw[List.length_append,h2];simpa using e.symm) (fun j j1 j2=> ?_)
   by_cases hj:j<begN s
   ·rw[List.getElem_append_left (by omega),List.getElem_take]
   ·rw[List.getElem_append_right (by omega)]
    have ej:j=begN s:=by omega
    subst ej
    rw[bp (by omega)] at h3
    have:s[begN s]=58:=UInt8.toNat_inj.1 (by simpa using h3)
    simp[h2,this]
 repeat' (first|(conv=>whnf);first|refine .w ?_|refine .v ?_|refine sc_c ?_ ?_<;>(intro hb;try exact dd hb)|apply ao|apply aG|(apply sc_i<;>intro hb)|(apply bx_i;intro hbd)|(apply ax;first|exact h1|exact h2|exact h3 _|exact h4)|(apply aw (i:=0) rfl;first|exact h1|exact h2|exact h3 _|exact h4)|(apply ab_i;intro bl)|(apply as_i;intro va vk vc hva)|(apply av_i;intro v)|(apply ac_i;intro bl cap hcap)|apply bo_l|(apply nx_i<;>intro hnx)|apply dw_q mixed hC hGL (by kernel_rfl)|(apply cq;assumption;(first|exact h1|exact h2|exact h3 _|exact h4);exact rfl)|(show Rt _ _ _;exact rt_w)|fail)
 all_goals try conv=>whnf
 ·apply ak
  have e:begN s=0:=by unfold schE at hb;split at hb;assumption;exact absurd rfl hb
  rw[uriE,schE,if_pos e,if_pos e]
  rfl
 ·apply ak
  rw[uriE,if_neg (hn (by assumption)).2,if_pos (by omega)]
  rfl
 ·apply ak
  rw[uriE,if_neg (hn (by assumption)).2,if_neg (by omega),if_pos ((hs58 (by assumption)).1 hb)]
  rfl
 ·apply ak
  rw[uriE,if_neg (hn (by assumption)).2,if_neg (by omega),if_neg (fun h=>hb ((hs58 (by assumption)).2 h))]
  rfl
end
section
open Go Go.RowKit
noncomputable abbrev bW (m:Int):List (Nat×List AVal):=[(4,[.int .i64 m])]
theorem oc {G:Glo}{m:Int}(hU:ad G (bW m)){R:Seal}{w:World}(hG:G.p R)(hs:cJ R w):w.cell? ⟨4,0,none⟩=some (.int .i64 m):=by
 obtain⟨v,hc,hr⟩:=bX.cell hs (hU 4 [.int .i64 m] rfl R hG) (i:=0) rfl
 have hr:[v]=[Value.int .i64 m]:=hr
 rw[(List.cons.inj hr).1] at hc
 exact hc
def cQ (G:Glo):Prop:=∀R,G.p R→∃e fz,R 10=some (.cells (Lib.pow10Tab.map fun z=>Value.int .u64 z).toArray e fz)
end
section
open Go Go.RowKit
theorem MS.below {C:Ctx}{R:Seal}{H:Heap}{w w':World}(h:MS C R H w)(hb:Below w.heap.size w w'):MS C R H w':=by
 have hlt:∀{b:Nat} {o:Obj},w.heap[b]? =some o→b<w.heap.size:=fun{b o} h1=>by
  rcases Nat.lt_or_ge b w.heap.size with h|h
  ·exact h
  ·rw[Array.getElem?_eq_none h] at h1;cases h1
 refine⟨fun b o ho=> ?_,h.ge,h.fresh,⟨fun x hx=> ?_,h.heap.nodup,h.heap.apart⟩,h.own,?_⟩
 ·have h1:=h.sealed b o ho
  rw[hb.block b (hlt h1),h1]
 ·exact HEnt.holds_mono (h.heap.holds x hx) (Seal.le_refl R) (fun b hbk=>hb.block b (HEnt.blk_lt (h.heap.holds x hx) hbk))
 ·exact⟨hb.os.trans h.ext.os,hb.tape.trans h.ext.tape,hb.output.trans h.ext.output,Nat.le_trans h.ext.size hb.size,fun b hlt hn=>by
   rw[hb.block b (Nat.lt_of_lt_of_le hlt h.ext.size)];exact h.ext.block b hlt hn⟩
theorem mW {P:Program}{G:Glo}{f:FuncId}{avs:List AVal}{H:Heap}{v:AVal}(u:Value)(hu:∀R,Rel R v u)(hc:∀args w,(callFunc f args).run P w= .ok (.enter f args) w)
  (h:∀C R args,RelV R avs args.toList→∀w,G.p R→MS C R H w→Calls P f args w fun e w'=>e= .returned u∧Below w.heap.size w w'):ah P G f avs H (fun r H'=>r= .ret v∧H'=H):=by
 intro R w args hG hm ha
 refine .inl ⟨hc args w,(h _ R args ha w hG hm).mono ?_⟩
 rintro e w' ⟨rfl,hb⟩
 exact⟨.ret v,H,R,⟨rfl,rfl⟩,⟨_,rfl,hu R⟩,hm.below hb⟩
def aS (l:List (List UInt8)):List AVal:=l.map .str
def aq (l:List (List UInt8))(i:Nat):AVal:=.str (l.getD i [])
theorem ea (l:List (List UInt8)):∀i,i<l.length→(aq l i).cells=((aS l).drop (i*1)).take 1∧(aq l i).plain=true:=by
 intro i hi
 refine⟨?_,rfl⟩
 have:i<(aS l).length:=by simpa[aS] using hi
 rw[Nat.mul_one,List.drop_eq_getElem_cons this]
 simp[aq,AVal.cells,aS,List.getD,hi]
theorem co (l:List (List UInt8))(s:List UInt8):aS l++[.str s]=aS (l++[s]):=by simp[aS]
theorem pQ (l:List (List UInt8)):(aS l).length=l.length:=by simp[aS]
def baS (l:List (List UInt8)):List ByteArray:=l.map fun s=>⟨s.toArray⟩
theorem vg (l:List (List UInt8)):(baS l).map (·.data.toList)=l:=by
 unfold baS
 rw[List.map_map]
 refine(List.map_congr_left (g:=id) fun x _=> ?_).trans (List.map_id l)
 simp
theorem nl (l:List (List UInt8)):(baS l).length=l.length:=by simp[baS]
theorem jA {R:Seal}:∀{l:List (List UInt8)} {vs:List Value},RelL R (aS l) vs→vs=l.map fun s=>Value.string ⟨s.toArray⟩
 |[],_,h=>h
 |s::l,_,h=>by
  obtain⟨v,t,rfl,h1,h2⟩:=h
  have h1:[v]=[.string ⟨s.toArray⟩]:=h1
  rw[List.cons.injEq] at h1
  rw[jA h2,h1.1]
  rfl
theorem zf {R:Seal}{w:World}{bl o:Nat}{Cs:Array Value}{e:TypeId}{fz:Nat×Nat}{l:List (List UInt8)}(hb:w.heap[bl]? =some (.cells Cs e fz))(hl:RelL R (aS l) ((Cs.toList.drop o).take l.length)):
  ∀(j:Nat) x,(baS l)[j]? =some x→w.cell? ⟨bl,o+j,none⟩=some (.string x):=by
 intro j x hx
 have hj:j<l.length:=by have:=(List.getElem?_eq_some_iff.1 hx).1;rwa [nl] at this
 have:=jA hl
 simp only[World.cell?,hb]
 have h2:((Cs.toList.drop o).take l.length)[j]? =(l.map fun s=>Value.string ⟨s.toArray⟩)[j]? :=by rw[this]
 rw[List.getElem?_take_of_lt hj,List.getElem?_drop] at h2
 have hx:x=⟨(l[j]).toArray⟩:=by
  unfold baS at hx
  rw[List.getElem?_map,List.getElem?_eq_getElem hj] at hx
  simpa using hx.symm
 rw[hx]
 simpa[List.getElem?_eq_getElem hj] using h2
theorem zM {R:Seal}{w:World}(hs:cJ R w){l:List (List UInt8)}{v:Value}(h:Rel R (.list 1 l.length (aq l)) v):∃a cap,v= .slice a l.length cap∧l.length≤cap∧(l=[]∨∃b o C e fz,a=some ⟨b,o,none⟩∧w.heap[b]? =some (.cells C e fz)∧RelL R (aS l) ((C.toList.drop o).take l.length)):=by
 obtain⟨a,cap,e1,hle,h7⟩:=aP h rfl
 simp only[List.cons.injEq,and_true] at e1
 refine⟨a,cap,e1,hle,?_⟩
 rcases h7 with h7|⟨b,o,C,e,fz,ha,hR,hall⟩
 ·exact .inl (List.eq_nil_of_length_eq_zero h7)
 ·refine .inr ⟨b,o,C,e,fz,ha,hs _ _ hR,?_⟩
  have key:∀(m:Nat) (l':List (List UInt8)) (o':Nat),l'.length=m→(∀i,i<m→RelC R (aq l' i) ((C.toList.drop (o'+i*1)).take 1))→RelL R (aS l') ((C.toList.drop o').take m):=by
   intro m
   induction m with
   |zero=>intro l' o' hl _;rw[List.eq_nil_of_length_eq_zero hl];simp[aS,RelL]
   |succ m ih=>
    intro l' o' hl hi
    match l',hl with
    |s::t,hl=>
     have h0:=hi 0 (by omega)
     have h0:(C.toList.drop (o'+0*1)).take 1=[.string ⟨s.toArray⟩]:=h0
     rw[Nat.zero_mul,Nat.add_zero] at h0
     have hlt:o'<C.toList.length:=by
      rcases Nat.lt_or_ge o' C.toList.length with h|h
      ·exact h
      ·rw[List.drop_eq_nil_of_le h] at h0;cases h0
     rw[List.drop_eq_getElem_cons hlt] at h0 ⊢
     simp only[List.take_succ_cons,List.take_zero,List.cons.injEq,and_true] at h0
     rw[List.take_succ_cons,h0]
     refine⟨_,_,rfl,rfl,ih t (o'+1) (by simpa using hl) (fun i h=> ?_)⟩
     have:=hi (i+1) (by omega)
     rw[show o'+(i+1)*1=o'+1+i*1 by omega] at this
     exact this
  exact key _ l o rfl hall
theorem ou {l:List (List UInt8)}{sep:List UInt8}{w:World}{b o cap:Nat}{C:Array Value}{e:TypeId}{fz:Nat×Nat}{R:Seal}(hb:w.heap[b]? =some (.cells C e fz))(hl:RelL R (aS l) ((C.toList.drop o).take l.length))(hcap:l.length≤cap)(hN:l.length≤140737488355328)(hlen:(Lib.join l sep).length≤140737488355328):
  Calls Tryz.prog 79 #[.slice (some ⟨b,o,none⟩) l.length cap,.string ⟨sep.toArray⟩] w fun e w'=>e= .returned (.string ⟨(Lib.join l sep).toArray⟩)∧Below w.heap.size w w':=by
 have hlt:b<w.heap.size:=by
  rcases Nat.lt_or_ge b w.heap.size with h|h
  ·exact h
  ·rw[Array.getElem?_eq_none h] at hb;cases hb
 have:=Tryz.strings_Join b o cap (baS l) ⟨sep.toArray⟩ w (zf hb hl) hlt (by rw[nl];exact hN) (by rw[nl];exact hcap) (by rw[vg];simpa using hlen)
 rw[nl,vg] at this
 simpa using this
theorem qj {sep:List UInt8}{w:World}{a:Option Addr}{cap:Nat}:Calls Tryz.prog 79 #[.slice a 0 cap,.string ⟨sep.toArray⟩] w fun e w'=>e= .returned (.string ⟨#[]⟩)∧Below w.heap.size w w':=by
 refine(Tryz.strings_Join_none a cap ⟨sep.toArray⟩ w).mono ?_
 rintro e w' ⟨rfl,rfl⟩
 exact⟨rfl,Below.refl _ _⟩
theorem cb {G:Glo}{eT:Option TypeId}(l:List (List UInt8))(sep:List UInt8)(v:Value)(hN:l.length≤140737488355328)(hlen:(Lib.join l sep).length≤140737488355328):
  ah Tryz.prog G 79 [.raw v,.str sep] [.row v eT 1 l.length (aS l)] (fun r H=>r= .ret (.str (Lib.join l sep))∧H=[.row v eT 1 l.length (aS l)]):=by
 refine mW (.string ⟨(Lib.join l sep).toArray⟩) (fun R=>aE.2 rfl) Tryz.call79 ?_
 rintro C R args ⟨x,t,e,hx,y,t',e',hy,rfl⟩ w hG hm
 obtain rfl:=an.1 hx
 obtain rfl:=aE.1 hy
 subst e'
 obtain rfl:=eA e
 obtain⟨hlen',hx'⟩:=hm.heap.holds _ (List.mem_singleton.2 rfl)
 rcases hx' with⟨rfl,h0⟩|⟨bl,cap,Cs,el,fz,rfl,hb,hcs,hnc,hl,hfz⟩
 ·have:l=[]:=List.eq_nil_of_length_eq_zero h0
  subst this
  exact qj
 ·exact ou (o:=0) hb (by simpa using hl) hnc hN hlen
theorem strings_Join {G:Glo}(l:List (List UInt8))(sep:List UInt8)(hN:l.length≤140737488355328)(hlen:(Lib.join l sep).length≤140737488355328):
  FnIs Tryz.prog G 79 [.list 1 l.length (aq l),.str sep] (.str (Lib.join l sep)):=by
 refine bB rfl Tryz.call79 ?_
 rintro R args ⟨x,t,e,hx,y,t',e',hy,rfl⟩ w hG hs
 obtain rfl:=aE.1 hy
 subst e'
 obtain⟨a,cap,rfl,hcap,h7⟩:=zM hs hx
 obtain rfl:=eA e
 rcases h7 with rfl|⟨b,o,C,e,fz,rfl,hb,hl⟩
 ·exact qj
 ·exact ou hb hl hcap hN hlen
end
section
open Go Go.RowKit
def splS (c:UInt8):List UInt8→List (List UInt8)
 |[]=>[[]]
 |x::t=>if x=c then[]::splS c t else match splS c t with
  |[]=>[[x]]
  |p::ps=>(x::p)::ps
theorem kx (c:UInt8):∀s:List UInt8,splS c s≠[]
 |[]=>by simp[splS]
 |x::t=>by
  unfold splS
  split
  ·simp
  ·split<;>simp
theorem wE (c:UInt8):Lib.index [] [c]= -1:=rfl
theorem wG {x c:UInt8}{t:List UInt8}(h:x=c):Lib.index (x::t) [c]=0:=by
 subst h
 simp[Lib.index,List.isPrefixOf]
theorem uq {x c:UInt8}{t:List UInt8}(h:x≠c):Lib.index (x::t) [c]=if Lib.index t [c]== -1 then-1 else Lib.index t [c]+1:=by
 have:(c==x)=false:=by simpa using Ne.symm h
 simp[Lib.index,List.isPrefixOf,this]
theorem gw {sep s:List UInt8}{k i:Nat}(h:Lib.index s sep=i):Lib.splitK sep 0 (k+1) s=s.take i::Lib.splitK sep 0 k (s.drop (i+sep.length)):=by
 have hm:¬(Lib.index s sep== -1)=true:=fun e=>by have:=beq_iff_eq.1 e;omega
 rw[Lib.splitK,if_neg hm,h]
 simp
theorem gv (c:UInt8):∀s:List UInt8,Lib.splitK [c] 0 (Lib.count s [c]) s=splS c s
 |[]=>by rw[Lib.count_miss (wE c)];rfl
 |x::t=>by
  have ih:=gv c t
  by_cases hx:x=c
  ·have h0:Lib.index (x::t) [c]=(0:Nat):=wG hx
   rw[Lib.count_hit (by simp) h0,Nat.add_comm,gw h0]
   simp only[List.take_zero,List.length_cons,List.length_nil,Nat.zero_add,List.drop_succ_cons,List.drop_zero]
   rw[ih,splS,if_pos hx]
  ·have h1:=uq (t:=t) hx
   rcases Lib.index_spec t [c] with⟨h2,_⟩|⟨i,h2,_⟩
   ·rw[h2] at h1
    have h1:Lib.index (x::t) [c]= -1:=by simpa using h1
    rw[Lib.count_miss h2] at ih
    rw[Lib.count_miss h1,splS,if_neg hx,←ih]
    rfl
   ·have hne:¬((i:Int)== -1)=true:=fun e=>by have:=beq_iff_eq.1 e;omega
    rw[h2,if_neg hne] at h1
    have h1:Lib.index (x::t) [c]=((i+1:Nat):Int):=by rw[h1];omega
    rw[Lib.count_hit (by simp) h2,Nat.add_comm,gw h2] at ih
    rw[Lib.count_hit (by simp) h1,Nat.add_comm,gw h1,splS,if_neg hx,←ih]
    rfl
theorem iI {P:Program}{G:Glo}{f:FuncId}{avs:List AVal}{H:Heap}{sz m:Nat}{cs:List AVal}{T:TypeId}(hc:∀args w,(callFunc f args).run P w= .ok (.enter f args) w)
  (hlen:cs.length=m*sz)
  (h:∀C R args,RelV R avs args.toList→∀w,G.p R→MS C R H w→Calls P f args w fun e w'=>∃(w1:World) (Cs:Array Value),Below w.heap.size w w1∧e= .returned (.slice (some ⟨w1.heap.size,0,none⟩) m m)∧w'=w1.alloc (.cells Cs T)∧Cs.size=m*sz∧∀R,RelL R cs Cs.toList):
  ah P G f avs H (fun r H'=>∃b,r= .ret (.own H.length (.slice (some ⟨b,0,none⟩) m m))∧H'=H++[.row (.slice (some ⟨b,0,none⟩) m m) (some T) sz m cs]):=by
 intro R w args hG hm ha
 refine .inl ⟨hc args w,(h _ R args ha w hG hm).mono ?_⟩
 rintro e w' ⟨w1,Cs,hb,rfl,rfl,hsz,hr⟩
 have hm1:=hm.below hb
 have hm2:=hm1.alloc (.cells Cs T) (.row (.slice (some ⟨w1.heap.size,0,none⟩) m m) (some T) sz m cs) rfl ?_
 ·exact⟨_,_,R,⟨w1.heap.size,rfl,rfl⟩,⟨_,rfl,aL.2 ⟨rfl,rfl⟩⟩,hm2.perm (List.perm_append_singleton _ _).symm⟩
 ·refine⟨hlen,.inr ⟨w1.heap.size,m,Cs,T,(0,0),rfl,cN _ _,hsz,Nat.le_refl _,?_,.inl (Nat.le_refl _),fun t ht=>Option.some.inj ht⟩⟩
  have:=hr R
  have hl:=ay this
  rwa [List.take_of_length_le (by omega)]
theorem lP (R:Seal):∀l:List (List UInt8),RelL R (aS l) (l.map fun s=>Value.string ⟨s.toArray⟩)
 |[]=>rfl
 |_::l=>⟨_,_,rfl,rfl,lP R l⟩
theorem zh {G:Glo}{m:Int}(hU:ad G (bW m))(H:Heap)(s:List UInt8)(c:UInt8)(hl:s.length<100000):
  ah Tryz.prog G 113 [.str s,.str [c]] H (fun r H'=>∃b,r= .ret (.own H.length (.slice (some ⟨b,0,none⟩) (splS c s).length (splS c s).length))∧H'=H++[.row (.slice (some ⟨b,0,none⟩) (splS c s).length (splS c s).length) (some 9) 1 (splS c s).length (aS (splS c s))]):=by
 refine iI Tryz.call113 (by rw[pQ,Nat.mul_one]) ?_
 rintro C R args ⟨x,t,e,hx,y,t',e',hy,rfl⟩ w hG hm
 obtain rfl:=aE.1 hx
 obtain rfl:=aE.1 hy
 subst e'
 obtain rfl:=eA e
 refine(Tryz.strings_Split ⟨s.toArray⟩ ⟨#[c]⟩ m w (by rw[ba];omega) (oc hU hG hm.sealed) (Nat.le_refl 1)).mono ?_
 rintro e w' ⟨rfl,rfl⟩
 have hd:=Lib.splitB_data ⟨#[c]⟩ 0 (Lib.countB ⟨s.toArray⟩ ⟨#[c]⟩) ⟨s.toArray⟩
 have hd:(Lib.splitB ⟨#[c]⟩ 0 (Lib.countB ⟨s.toArray⟩ ⟨#[c]⟩) ⟨s.toArray⟩).map (·.data.toList)=splS c s:=hd.trans (gv c s)
 have hn:(splS c s).length=Lib.countB ⟨s.toArray⟩ ⟨#[c]⟩+1:=by
  have h1:=Lib.splitB_all ⟨#[c]⟩ (Nat.le_refl 1) 0 _ ⟨s.toArray⟩ rfl
  rw[←hd,List.length_map,h1]
 rw[hn]
 have hm2:(Lib.splitB ⟨#[c]⟩ 0 (Lib.countB ⟨s.toArray⟩ ⟨#[c]⟩) ⟨s.toArray⟩).map Value.string=(splS c s).map fun s=>Value.string ⟨s.toArray⟩:=by
  rw[←hd,List.map_map]
  refine List.map_congr_left fun x _=> ?_
  simp
 refine⟨w,_,Below.refl _ _,rfl,rfl,?_,fun R=> ?_⟩
 ·rw[hm2];simp[hn]
 ·rw[hm2]
  exact lP R _
theorem nD {G:Glo}{m:Int}(hU:ad G (bW m))(s:List UInt8)(c:UInt8)(hl:s.length<100000):
  FnIs Tryz.prog G 113 [.str s,.str [c]] (.list 1 (splS c s).length (aq (splS c s))):=
 ng (fun a=>a) EY (aq (splS c s)) (ea _) ((zh hU [] s c hl).mono fun _ _ ⟨_,h1,h2⟩=>⟨_,_,h1,h2⟩)
end
section
open Go Go.RowKit
theorem pR {c:UInt8}:∀{s:List UInt8},c∉s→splS c s=[s]
 |[],_=>rfl
 |x::t,h=>by
  simp only[List.mem_cons,not_or] at h
  rw[splS,if_neg (Ne.symm h.1),pR h.2]
theorem nE {c:UInt8}:∀{u:List UInt8} {v:List UInt8},c∉u→∃p ps,splS c v=p::ps∧splS c (u++v)=(u++p)::ps
 |[],v,_=>by
  cases h:splS c v with
  |nil=>exact absurd h (kx c v)
  |cons p ps=>exact⟨p,ps,rfl,h⟩
 |x::u,v,h=>by
  simp only[List.mem_cons,not_or] at h
  obtain⟨p,ps,h1,h2⟩:=nE (v:=v) h.2
  refine⟨p,ps,h1,?_⟩
  rw[List.cons_append,splS,if_neg (Ne.symm h.1),h2]
  rfl
theorem Ba {c:UInt8}{u v:List UInt8}(h:c∉u):splS c (u++c::v)=u::splS c v:=by
 obtain⟨p,ps,h1,h2⟩:=nE (v:=c::v) h
 rw[splS,if_pos rfl] at h1
 cases h1
 rw[h2,List.append_nil]
end
section
open Go Go.RowKit
abbrev mg (s:List UInt8):List AVal:=s.map fun c=>.int .u8 (c.toNat:Int)
section
variable {P:Program} [Tab P] {C:Ctx} {n:Nat} {env:Env} {H:Heap} {Q:AExit→Env→Heap→Prop} {ops:Array Oper} {rest:List Oper} {G:Glo} {GL:List (Nat×List AVal)}
variable {d:Nat} {t:TypeId} {p:String} {af:Array Edge} {g:Option (Nat×Bool)} {b:Bool}
variable {x y:Operand} {T:TypeId} {xT:TI} {tx ty:TypeId}
theorem BK {i n0:Nat}{v:Value}{s:List UInt8}{cs z:List AVal}{eT:Option TypeId}{e:TypeId}{xe xx:TI}(hC:C.G=G)(hGL:ad G GL)(hg:aI ops env g=some (b,b))(hdn:Nat.ble (d+1) n=true)
  (hx:ai env x=some (.own i v)) (hi:H[i]? =some (.row v eT 1 n0 cs)) (hy:ai env y=some (.str s))
  (h1:tab P T=some xT) (h2:xT.desc= .slice e) (h3:tab P e=some xe) (h4:xe.size=1) (h6:Nat.ble xe.bytes 1024=true) (h7:aT xe.zero=some z) (h8:z.length=1) (h9:tab P tx=some xx) (h10:xx.desc= .string)
  (hlen:n0+s.length≤137438953472) (hty:tyOK eT e=true)
  (h:∀a k c,opsX P C n G GL ops Q rest ((d,.own i (.slice a k c))::env) (H.set i (.row (.slice a k c) eT 1 (n0+s.length) (cs++mg s)))):
  Op1 P C n ops ({dst:=some d,op:=.call {callee:=.builtin .append,args:=[x,y].toArray,argTypes:=[T,tx].toArray},type:=t,pos:=p,after:=af,guard:=g}::rest) env H Q:=
 ⟨p8 hg hdn hx hi hy h1 h2 h3 h4 rfl h6 h7 h8 (fun R v hv=>Du hv h9 h10) hlen (xP hty) fun v'=>fH (ji hi) fun⟨a,k,c,e,_⟩=>by subst e;exact ct hC hGL _ _ _ (h a k c)⟩
end
end
section
open Go
attribute [local irreducible] AWp AOps aa aA OrOk ad ah
abbrev ptrA (b:Nat):Value:=.pointer (some ⟨b,0,none⟩)
abbrev bldC (b:Nat)(p:Value)(j:Nat)(v:Value):HEnt:=.cells b (some 123) [.raw p,.own j v]
abbrev bldR (v:Value)(s:List UInt8):HEnt:=.row v (some 5) 1 s.length (mg s)
theorem oF {P:Program}[Tab P]{G:Glo}{GL:List (Nat×List AVal)}{n:Nat}{H:Heap}{v:Value}(i:Nat){f:FuncId}{fn:Func}{c:Code}{avs:List AVal}{Qf:ARes→Heap→Prop}{rs:List ResultVar}(hf:P.funcs[f]? =some fn)
  (hc:∀args w,(callFunc f args).run P w= .ok (.enter f args) w) (hb:fn.body=some c) (hn:fn.ntmps=n) (hrs:fn.results=rs.toArray) (hlen:Nat.ble (AVal.raw v::avs).length n=true) (hGL:ad G GL) (hv:vAgg v=false)
  (h:∀C:Ctx,C.G=G→dG P C n G GL c ((0,.own i v)::di 0 (.raw v::avs)) H (RetX P rs Qf)):ah P G f (.raw v::avs) H Qf:=
 k8 hf hb hc hn hrs hlen fun w0 R0 hG=>(tQ (C:=⟨w0,R0,blks H,G,hG,[]⟩) (k:=0) i rfl hGL hv rfl (h ⟨w0,R0,blks H,G,hG,[]⟩ rfl)).mono fun _ _ _ q=>fI q
theorem lT {G:Glo}(b:Nat):FnIs Tryz.prog G 159 [.raw (ptrA b)] (.raw (ptrA b)):=by
 refine bM Tryz.func159 (by kernel_rfl) (by kernel_rfl) (by kernel_rfl) (e:=Go.Extern.AbiNoEscape.same) (by kernel_rfl) ?_
 rintro R args ⟨x,t,e,h1,h2⟩ w
 obtain rfl:t=[]:=h2
 obtain⟨l⟩:=args
 obtain rfl:l=[x]:=e
 exact⟨x,rfl,h1⟩
theorem tZ {C:Ctx}{R:Seal}{H:Heap}{w:World}(hm:MS C R H w){i b:Nat}{e:TypeId}{cs:List AVal}(hi:H[i]? =some (.cells b (some e) cs)):w.shape? b=some (e,cs.length):=by
 obtain⟨Cs,el,fz,hb,hl,_,ht⟩:=eR hm hi
 have:=ay hl
 simp only[Array.length_toList] at this
 simp[World.shape?,hb,this,ht e rfl]
section
variable {C:Ctx} {H:Heap} {env:Env} {x y:Operand} {i j b:Nat} {c0 c1:AVal}
theorem Dy (hx:ai env x=some (.own i (ptrA b)))(hi:H[j]? =some (.cells b (some 123) [c0,c1])):RunV Tryz.prog C H env (.convert 121 211 x) (.own i (ptrA b)):=by
 intro R ρ w hm hf dst t p af g
 refine⟨ptrA b,?_,aL.2 ⟨rfl,rfl⟩⟩
 obtain⟨ie,hie,hs1,_⟩:=du (P:=Tryz.prog) (t:=123) rfl
 have hr:=Lib.run_to_unsafe (P:=Tryz.prog) w (src:=121) (dst:=211) (t:=123) (j:=ie) ⟨b,0,none⟩ Tryz.underlying121 Tryz.underlying211 hie (by rw[hs1];exact Nat.succ_ne_zero _) (tZ hm hi) (Nat.zero_lt_succ _)
 simp only[execOp,(aL.1 (hf _ _ hx)).1,Sem.run_bind,hr,Result.andThen_ok,Sem.run_pure]
theorem DB (hx:ai env x=some (.raw (ptrA b)))(hi:H[j]? =some (.cells b (some 123) [c0,c1])):RunV Tryz.prog C H env (.convert 211 121 x) (.raw (ptrA b)):=by
 intro R ρ w hm hf dst t p af g
 refine⟨ptrA b,?_,an.2 rfl⟩
 obtain⟨ie,hie,hs1,_⟩:=du (P:=Tryz.prog) (t:=123) rfl
 have hr:=Lib.run_from_unsafe (P:=Tryz.prog) w (src:=211) (dst:=121) (u:=123) (j:=ie) ⟨b,0,none⟩ Tryz.underlying211 Tryz.underlying121 hie (tZ hm hi) (by kernel_rfl)
 simp only[execOp,an.1 (hf _ _ hx),Sem.run_bind,hr,Result.andThen_ok,Sem.run_pure]
theorem Bh (hx:ai env x=some (.raw (ptrA b)))(hy:ai env y=some (.own i (ptrA b))):RunV Tryz.prog C H env (.binOp .neq 121 x y 121) (.bool false):=by
 intro R ρ w hm hf dst t p af g
 refine⟨.bool false,?_,aH.2 rfl⟩
 obtain⟨ie,hie,hs1,_⟩:=du (P:=Tryz.prog) (t:=123) rfl
 have hr:=Lib.run_neq_ptr_same (P:=Tryz.prog) w (tp:=121) (te:=123) (j:=ie) ⟨b,0,none⟩ Tryz.underlying121 hie
 have hg:(eqGuard BinOp.neq 121 x y (ptrA b) (ptrA b)).run Tryz.prog w= .ok () w:=rfl
 simp only[execOp,an.1 (hf _ _ hx),(aL.1 (hf _ _ hy)).1,Sem.run_bind,hg,hr,Result.andThen_ok,Sem.run_pure]
end
theorem pC {G:Glo}(b:Nat)(j:Nat)(v:Value):ah Tryz.prog G 116 [.raw (ptrA b)] [bldC b (.pointer none) j v] (fun r H=>r= .ret (.tuple [])∧H=[bldC b (ptrA b) j v]):=by
 have hGL:ad G []:=ab
 refine oF 0 Tryz.func116 Tryz.call116 rfl rfl rfl rfl hGL rfl ?_
 intro C hC
 refine xw1 ?_
 intros
 refine aF hC hGL (Dy (j:=0) rfl rfl) rfl rfl ?_
 repeat' (first|(conv=>whnf);first|refine .w ?_|refine .v ?_|refine sc_c ?_ ?_<;>(intro hb;try exact dd hb)|apply ao|apply aG|(apply sc_i<;>intro hb)|(apply bx_i;intro hbd)|(apply ax;first|exact lT _)|(apply aw (i:=0) rfl;first|exact lT _)|(apply ab_i;intro bl)|(apply as_i;intro va vk vc hva)|(apply av_i;intro v)|(apply ac_i;intro bl cap hcap)|apply bo_l|(apply nx_i<;>intro hnx)|apply dw_q mixed hC hGL (by kernel_rfl)|(apply cq;assumption;(first|exact lT _);exact rfl)|(show Rt _ _ _;exact rt_w)|fail)
 all_goals try conv=>whnf
 refine aF hC hGL (DB (j:=0) rfl rfl) rfl rfl ?_
 exact xw0
theorem pB {G:Glo}(b:Nat)(j:Nat)(v:Value):ah Tryz.prog G 116 [.raw (ptrA b)] [bldC b (ptrA b) j v] (fun r H=>r= .ret (.tuple [])∧H=[bldC b (ptrA b) j v]):=by
 have hGL:ad G []:=ab
 refine oF 0 Tryz.func116 Tryz.call116 rfl rfl rfl rfl hGL rfl ?_
 intro C hC
 refine xw1 ?_
 intros
 refine aF hC hGL (Bh rfl rfl) rfl rfl ?_
 exact xw0
def xJ (b:Nat)(p:Value):Prop:=p= .pointer none∨p=ptrA b
theorem fP {G:Glo}{b:Nat}{p:Value}(hp:xJ b p)(j:Nat)(v:Value):ah Tryz.prog G 116 [.raw (ptrA b)] [bldC b p j v] (fun r H=>r= .ret (.tuple [])∧H=[bldC b (ptrA b) j v]):=by
 rcases hp with rfl|rfl
 ·exact pC b j v
 ·exact pB b j v
theorem CZ (v:Value)(s t:List UInt8):HEnt.row v (some 5) 1 (s.length+t.length) (mg s++mg t)=bldR v (s++t):=by
 simp only[bldR,mg,List.length_append,List.map_append]
theorem sT {H:Heap}{i j:Nat}{x0 y0:HEnt}(hne:i≠j)(hi:H[i]? =some x0)(hj:H[j]? =some y0):∃rest:Heap,H.Perm ([x0,y0]++rest)∧∀x y,((H.set i x).set j y).Perm ([x,y]++rest):=by
 have key:∃rest:Heap,∀x y,((H.set i x).set j y).Perm ([x,y]++rest):=by
  rcases Nat.lt_or_gt_of_ne hne with h|h
  ·refine⟨(H.eraseIdx j).eraseIdx i,fun x y=> ?_⟩
   have h1:=eY (H:=H.set i x) (i:=j) (x:=y0) y (by rw[List.getElem?_set_ne (by omega)];exact hj)
   rw[List.eraseIdx_set_gt h] at h1
   have h2:=eY (H:=H.eraseIdx j) (i:=i) (x:=x0) x (by rw[List.getElem?_eraseIdx_of_lt h];exact hi)
   refine h1.symm.trans ?_
   refine(List.Perm.append_left [y] h2.symm).trans ?_
   exact List.Perm.swap x y _
  ·refine⟨(H.eraseIdx j).eraseIdx (i-1),fun x y=> ?_⟩
   have h1:=eY (H:=H.set i x) (i:=j) (x:=y0) y (by rw[List.getElem?_set_ne (by omega)];exact hj)
   rw[List.eraseIdx_set_lt h] at h1
   have h2:=eY (H:=H.eraseIdx j) (i:=i-1) (x:=x0) x (by rw[List.getElem?_eraseIdx_of_ge (by omega),show i-1+1=i by omega];exact hi)
   refine h1.symm.trans ?_
   refine(List.Perm.append_left [y] h2.symm).trans ?_
   exact List.Perm.swap x y _
 obtain⟨rest,h⟩:=key
 refine⟨rest,?_,h⟩
 have:=h x0 y0
 have e1:H.set i x0=H:=by
  obtain⟨hl,he⟩:=List.getElem?_eq_some_iff.1 hi
  rw[←he];exact List.set_getElem_self hl
 have e2:H.set j y0=H:=by
  obtain⟨hl,he⟩:=List.getElem?_eq_some_iff.1 hj
  rw[←he];exact List.set_getElem_self hl
 rw[e1,e2] at this
 exact this
theorem yo {C:Ctx}{R:Seal}{H:Heap}{w:World}{b j:Nat}{p v:Value}(k:Nat)(h:MS C R (bldC b p j v::H) w):MS C R (bldC b p k v::H) w:=
 h.swap (i:=0) (x:=bldC b p j v) (y:=bldC b p k v) rfl rfl (h.heap.holds (bldC b p j v) List.mem_cons_self)
theorem yK {P:Program}{G:Glo}{f:FuncId}{avs:List AVal}{H H0:Heap}{Qf Qf':ARes→Heap→Prop}(hb:∀k,k∈blks H↔k∈blks H0)(hpre:∀C R w,MS C R H0 w→MS C R H w)(h:ah P G f avs H Qf)
  (hq:∀r H',Qf r H'→∃H'',Qf' r H''∧∀C R w,MS C R H' w→MS C R H'' w):ah P G f avs H0 Qf':=by
 unfold ah at h ⊢
 intro R w args hG hm ha
 rcases h R w args hG ((hpre _ _ _ hm).blks_iff fun k=>(hb k).symm) ha with⟨h1,h2⟩|⟨v,w',h1,res,H',R',q,er,hm'⟩
 ·exact .inl ⟨h1,h2.mono fun e w' ⟨res,H',R',q,er,hm'⟩=>let ⟨H'',q',hc⟩:=hq _ _ q;⟨res,H'',R',q',er,hc _ _ _ (hm'.blks_iff hb)⟩⟩
 ·obtain⟨H'',q',hc⟩:=hq _ _ q
  exact .inr ⟨v,w',h1,res,H'',R',q',er,hc _ _ _ (hm'.blks_iff hb)⟩
theorem yM {P:Program}{G:Glo}{f:FuncId}{avs:List AVal}{b j k:Nat}{p v:Value}{H:Heap}{Qf Qf':ARes→Heap→Prop}(h:ah P G f avs (bldC b p k v::H) Qf)
  (hq:∀r H',Qf r H'→∃H'',Qf' r H''∧∀C R w,MS C R H' w→MS C R H'' w):ah P G f avs (bldC b p j v::H) Qf':=
 yK (H:=bldC b p k v::H) (H0:=bldC b p j v::H) (fun _=>Iff.rfl) (fun _ _ _ h=>yo k h) h hq
abbrev df:HEnt:=.row (.slice none 0 0) none 1 0 []
theorem MS.spoil {C:Ctx}{R:Seal}{H:Heap}{w w':World}{i b:Nat}{x:HEnt}{o:Obj}(h:MS C R H w)(hi:H[i]? =some x)(hb:x.blk=some b)(hw:OneBlk w b o w'):MS C R (H.set i df) w':=by
 obtain⟨a,c,rfl,hset⟩:=iW (y:=df) hi
 rw[hset]
 have hx:x∈a++x::c:=by simp
 have hRb:=h.heap.apart x hx b hb
 have hnd:=h.heap.nodup
 rw[List.filterMap_append,List.filterMap_cons,hb] at hnd
 have hd:=List.nodup_append.1 hnd
 have hother:∀z,z∈a∨z∈c→∀k,z.blk=some k→k≠b:=by
  rintro z hz k hk rfl
  rcases hz with hz|hz
  ·exact hd.2.2 k (List.mem_filterMap.2 ⟨z,hz,hk⟩) k (by simp) rfl
  ·exact(List.nodup_cons.1 hd.2.1).1 (List.mem_filterMap.2 ⟨z,hz,hk⟩)
 have hmem:∀z,z∈a++df::c→z=df∨((z∈a∨z∈c)∧z∈a++x::c):=by
  intro z hz
  simp only[List.mem_append,List.mem_cons] at hz ⊢
  rcases hz with hz|hz|hz
  ·exact .inr ⟨.inl hz,.inl hz⟩
  ·exact .inl hz
  ·exact .inr ⟨.inr hz,.inr (.inr hz)⟩
 refine⟨?_,h.ge,h.fresh,⟨?_,?_,?_⟩,?_,?_⟩
 ·intro k o' hk
  rw[hw.other k (by rintro rfl;rw[hRb] at hk;cases hk)]
  exact h.sealed k o' hk
 ·intro z hz
  rcases hmem z hz with rfl|⟨hz',hz''⟩
  ·exact⟨rfl,.inl ⟨rfl,rfl⟩⟩
  ·exact HEnt.holds_mono (h.heap.holds z hz'') (Seal.le_refl R) fun k hk=>hw.other k (hother z hz' k hk)
 ·rw[List.filterMap_append,List.filterMap_cons]
  refine List.nodup_append.2 ⟨hd.1,(List.nodup_cons.1 hd.2.1).2,fun k hk l hl=>hd.2.2 k hk l (List.mem_cons_of_mem _ hl)⟩
 ·intro z hz k hk
  rcases hmem z hz with rfl|⟨_,hz''⟩
  ·cases hk
  ·exact h.heap.apart z hz'' k hk
 ·intro z hz k hk
  rcases hmem z hz with rfl|⟨_,hz''⟩
  ·cases hk
  ·exact h.own z hz'' k hk
 ·have hob:=h.own x hx b hb
  refine⟨hw.os.trans h.ext.os,hw.tape.trans h.ext.tape,hw.output.trans h.ext.output,by rw[hw.size];exact h.ext.size,fun k hk hB=> ?_⟩
  rw[hw.other k (by rintro rfl;rcases hob with h1|h1;omega;exact hB h1)]
  exact h.ext.block k hk hB
theorem gS {P:Program}[Tab P]{G:Glo}{f:FuncId}{avs:List AVal}{H:Heap}{K Kp:AVal→Heap→Prop}{i j b:Nat}{p v:Value}{s s':List UInt8}{r:AVal}(hi:H[i]? =some (bldC b p j v))(hj:H[j]? =some (bldR v s))(hne:i≠j)
  (hs:ah P G f avs [bldC b p 1 v,bldR v s] (fun x H=>∃va vk vc,x= .ret r∧H=[bldC b (ptrA b) 1 (.slice va vk vc),bldR (.slice va vk vc) s']))
  (k:∀va vk vc,bS ((H.set i (bldC b (ptrA b) j (.slice va vk vc))).set j (bldR (.slice va vk vc) s')) (K r)):Cx P G f avs H K Kp:=by
 obtain⟨rest,hp,hp2⟩:=sT hne hi hj
 have h1:ah P G f avs [bldC b p j v,bldR v s] (fun x H=>∃va vk vc,x= .ret r∧H=[bldC b (ptrA b) j (.slice va vk vc),bldR (.slice va vk vc) s']):=by
  refine yM hs ?_
  rintro x H' ⟨va,vk,vc,rfl,rfl⟩
  exact⟨_,⟨va,vk,vc,rfl,rfl⟩,fun C R w h=>yo j h⟩
 refine⟨fun x H'=>∃va vk vc,x= .ret r∧H'=(H.set i (bldC b (ptrA b) j (.slice va vk vc))).set j (bldR (.slice va vk vc) s'),dW (dV (H1:=[bldC b p j v,bldR v s]++rest) hp.symm (fe rest h1)) ?_,?_,?_⟩
 ·rintro x H' ⟨H1',⟨va,vk,vc,rfl,rfl⟩,rfl⟩
  exact⟨_,(hp2 _ _).symm,va,vk,vc,rfl,rfl⟩
 ·rintro v' H' ⟨va,vk,vc,e,rfl⟩
  cases e
  have:=k va vk vc
  rw[aR] at this
  exact this
 ·rintro v' H' ⟨va,vk,vc,e,rfl⟩;cases e
theorem Gl {P:Program}[Tab P]{G:Glo}{f:FuncId}{avs:List AVal}{H:Heap}{K Kp:AVal→Heap→Prop}{i j b:Nat}{p v:Value}{s:List UInt8}{r:AVal}(hi:H[i]? =some (bldC b p j v))(hj:H[j]? =some (bldR v s))(hne:i≠j)
  (hs:ah P G f avs [bldC b p 1 v,bldR v s] (fun x H=>x= .ret r∧H=[]))
  (k:bS ((H.set i df).set j df) (K r)):Cx P G f avs H K Kp:=by
 obtain⟨rest,hp,hp2⟩:=sT hne hi hj
 have h1:ah P G f avs [bldC b p j v,bldR v s] (fun x H=>x= .ret r∧H=[df,df]):=by
  refine yM hs ?_
  rintro x H' ⟨rfl,rfl⟩
  exact⟨_,⟨rfl,rfl⟩,fun C R w h=>(h.ghost 1).ghost 1⟩
 refine⟨fun x H'=>x= .ret r∧H'=(H.set i df).set j df,dW (dV (H1:=[bldC b p j v,bldR v s]++rest) hp.symm (fe rest h1)) ?_,?_,?_⟩
 ·rintro x H' ⟨H1',⟨rfl,rfl⟩,rfl⟩
  exact⟨_,(hp2 _ _).symm,rfl,rfl⟩
 ·rintro v' H' ⟨e,rfl⟩
  cases e
  rw[aR] at k
  exact k
 ·rintro v' H' ⟨e,rfl⟩;cases e
theorem bx {G:Glo}{b:Nat}{p:Value}(hp:xJ b p)(v:Value)(s t:List UInt8)(hl:s.length+t.length≤137438953472):ah Tryz.prog G 66 [.raw (ptrA b),.str t] [bldC b p 1 v,bldR v s]
  (fun r H=>∃va vk vc,r= .ret (.tuple [.int .i64 t.length,.raw .nilIface])∧H=[bldC b (ptrA b) 1 (.slice va vk vc),bldR (.slice va vk vc) (s++t)]):=by
 have hGL:ad G []:=ab
 refine oF 0 Tryz.func66 Tryz.call66 rfl rfl rfl rfl hGL rfl ?_
 intro C hC
 repeat' (first|(conv=>whnf);first|refine .w ?_|refine .v ?_|refine sc_c ?_ ?_<;>(intro hb;try exact dd hb)|apply ao|apply aG|(apply sc_i<;>intro hb)|(apply bx_i;intro hbd)|(apply ax;first|exact fP hp _ _)|(apply aw (i:=0) rfl;first|exact fP hp _ _)|(apply ab_i;intro bl)|(apply as_i;intro va vk vc hva)|(apply av_i;intro v)|(apply ac_i;intro bl cap hcap)|apply bo_l|(apply nx_i<;>intro hnx)|apply dw_q mixed hC hGL (by kernel_rfl)|(apply cq;assumption;(first|exact fP hp _ _);exact rfl)|(show Rt _ _ _;exact rt_w)|fail)
 all_goals try conv=>whnf
 refine BK hC hGL rfl rfl rfl rfl rfl rfl rfl rfl rfl rfl rfl rfl rfl rfl hl rfl ?_
 intro va vk vc
 refine xw1 ?_
 intros
 exact⟨_,List.Sublist.refl _,va,vk,vc,rfl,by rw[CZ]⟩
theorem Ge {P:Program}{G:Glo}{f:FuncId}{avs:List AVal}{H:Heap}{Qf:ARes→Heap→Prop}{i sz m:Nat}{v:Value}{eT:Option TypeId}{cs:List AVal}(hi:H[i]? =some (.row v eT sz m cs))
  (h:((v= .slice none 0 0∧m=0)∨∃g cap,v= .slice (some ⟨g,0,none⟩) m cap∧m≤cap)→ah P G f avs H Qf):ah P G f avs H Qf:=by
 unfold ah at h ⊢
 intro R w args hG hm ha
 obtain⟨_,hh⟩:=hm.heap.holds _ (List.mem_of_getElem? hi)
 refine h ?_ R w args hG hm ha
 rcases hh with⟨rfl,rfl⟩|⟨g,cap,_,_,_,rfl,_,_,hle,_⟩
 ·exact .inl ⟨rfl,rfl⟩
 ·exact .inr ⟨g,cap,rfl,hle⟩
section
variable {P:Program} [Tab P] {C:Ctx} {n:Nat} {env:Env} {H:Heap} {Q:AExit→Env→Heap→Prop} {ops:Array Oper} {rest:List Oper} {G:Glo} {GL:List (Nat×List AVal)}
variable {d:Nat} {t:TypeId} {p:String} {af:Array Edge} {g:Option (Nat×Bool)} {b:Bool} {x y:Operand}
omit [Tab P] in
theorem Bf {i k c:Nat}{a:Addr}{ts:Array TypeId}(hx:ai env x=some (.own i (.slice (some a) k c)))(hc:c≠0):RunV P C H env (.call {callee:=.builtin .unsafeSliceData,args:=#[x],argTypes:=ts}) (.raw (.pointer (some a))):=by
 intro R ρ w hm hf dst t p af g
 refine⟨.pointer (some a),?_,an.2 rfl⟩
 have hr:=Lib.run_unsafeSliceData_row (P:=P) w ts t a k c hc
 have e:(#[x].map ρ)=#[.slice (some a) k c]:=by simp[(aL.1 (hf _ _ hx)).1]
 simp only[execOp,resolve,Sem.run_bind,Sem.run_pure,Result.andThen_ok,invoke,builtin,e,hr]
theorem BJ {i0 gb cap:Nat}{s:List UInt8}{pt it:TypeId}{e:TypeId}(hC:C.G=G)(hGL:ad G GL)(hg:aI ops env g=some (b,b))(hdn:Nat.ble (d+1) n=true)
  (hx:ai env x=some (.raw (ptrA gb))) (hy:ai env y=some (.int .i64 s.length)) (hi:H[i0]? =some (.row (.slice (some ⟨gb,0,none⟩) s.length cap) (some e) 1 s.length (mg s))) (hs:s≠[]) (hlen:s.length≤137438953472)
  (hp:P.underlying pt=some (.pointer e)) (hce:P.cellsOf e=1) (k:opsX P C n G GL ops Q rest ((d,.str s)::env) (H.set i0 df)):
  Op1 P C n ops ({dst:=some d,op:=.call {callee:=.builtin .unsafeString,args:=#[x,y],argTypes:=#[pt,it]},type:=t,pos:=p,after:=af,guard:=g}::rest) env H Q:=by
 refine⟨db (X:=Unit) (av:=fun _=>.str s) (H':=fun _=>H.set i0 df) hg rfl hdn (fun R ρ w hm hf=> ?_) fun _=>ct hC hGL _ _ _ k⟩
 obtain⟨_,hh⟩:=hm.heap.holds _ (List.mem_of_getElem? hi)
 rcases hh with⟨h,_⟩|⟨g',cap',Cs,el,fz,h,hb,hcs,hle,hl,hfz,ht⟩
 ·cases h
 ·cases h
  obtain rfl:=ht e rfl
  rw[Nat.mul_one] at hcs hl
  have hcell:∀j x,s[j]? =some x→w.cell? ((⟨gb,0,none⟩:Addr).add j)=some (.int .u8 x.toNat):=by
   intro j x hj
   obtain⟨hj1,hj2⟩:=List.getElem?_eq_some_iff.1 hj
   have:=oS (s:=s) (o:=0) hb (by rw[List.drop_zero];exact hl) j hj1
   rw[hj2] at this
   exact this
  have hsh:w.shape? gb=some (el,Cs.size):=by simp[World.shape?,hb]
  have hr:=Lib.run_unsafeString_row (P:=P) w pt it t el hp hce gb Cs.size hsh s hs (by omega) (by omega) hcell
  have e2:(#[x,y].map ρ)=#[ptrA gb,.int .i64 s.length]:=by simp[an.1 (hf _ _ hx),am.1 (hf _ _ hy)]
  have hone:∃o,OneBlk w gb o (w.freeze ⟨gb,0,none⟩ s.length):=by
   have h0:s.length≠0:=by simpa using hs
   unfold World.freeze
   rw[if_neg h0]
   obtain⟨lo,hi⟩:=fz
   refine⟨.cells Cs el (if lo==hi then(0,0+s.length) else(min lo 0,max hi (0+s.length))),rfl,rfl,rfl,by simp,?_,?_⟩
   ·simp[Array.getElem?_modify,hb]
   ·intro k hk;simp[Array.getElem?_modify,Ne.symm hk]
  obtain⟨o,hone⟩:=hone
  refine⟨(),.string ⟨s.toArray⟩,w.freeze ⟨gb,0,none⟩ s.length,R,?_,Seal.le_refl R,aE.2 rfl,hm.spoil hi rfl hone⟩
  simp only[execOp,resolve,Sem.run_bind,Sem.run_pure,Result.andThen_ok,invoke,builtin,e2,hr]
omit [Tab P] in
theorem FB {i k c:Nat}{ts:Array TypeId}(hx:ai env x=some (.own i (.slice none k c))):RunV P C H env (.call {callee:=.builtin .unsafeSliceData,args:=#[x],argTypes:=ts}) (.raw (.pointer none)):=by
 intro R ρ w hm hf dst t p af g
 refine⟨.pointer none,?_,an.2 rfl⟩
 have hr:=Lib.run_unsafeSliceData_nil (P:=P) w ts t k c
 have e:(#[x].map ρ)=#[.slice none k c]:=by simp[(aL.1 (hf _ _ hx)).1]
 simp only[execOp,resolve,Sem.run_bind,Sem.run_pure,Result.andThen_ok,invoke,builtin,e,hr]
omit [Tab P] in
theorem q8 {pt it:TypeId}{a:Option Addr}(hx:ai env x=some (.raw (.pointer a)))(hy:ai env y=some (.int .i64 0)):RunV P C H env (.call {callee:=.builtin .unsafeString,args:=#[x,y],argTypes:=#[pt,it]}) (.str []):=by
 intro R ρ w hm hf dst t p af g
 refine⟨.string .empty,?_,aE.2 rfl⟩
 have hr:=Lib.run_unsafeString_none (P:=P) w pt it t a
 have e:(#[x,y].map ρ)=#[.pointer a,.int .i64 0]:=by simp[an.1 (hf _ _ hx),am.1 (hf _ _ hy)]
 simp only[execOp,resolve,Sem.run_bind,Sem.run_pure,Result.andThen_ok,invoke,builtin,e,hr]
theorem DP {i0 i k gb:Nat}{ts:Array TypeId}{e:TypeId}{eT:Option TypeId}{cs:List AVal}(hC:C.G=G)(hGL:ad G GL)(hg:aI ops env g=some (b,b))(hdn:Nat.ble (d+1) n=true)
  (hx:ai env x=some (.own i (.slice (some ⟨gb,0,none⟩) k 0))) (hi:H[i0]? =some (.row (.slice (some ⟨gb,0,none⟩) k 0) eT 1 k cs)) (hp:P.underlying t=some (.pointer e))
  (kk:∀bl,opsX P C n G GL ops Q rest ((d,.raw (ptrA bl))::env) H):
  Op1 P C n ops ({dst:=some d,op:=.call {callee:=.builtin .unsafeSliceData,args:=#[x],argTypes:=ts},type:=t,pos:=p,after:=af,guard:=g}::rest) env H Q:=by
 refine⟨db (X:=Nat) (av:=fun bl=>.raw (ptrA bl)) (H':=fun _=>H) hg rfl hdn (fun R ρ w hm hf=> ?_) fun bl=>ct hC hGL _ _ _ (kk bl)⟩
 obtain⟨_,hh⟩:=hm.heap.holds _ (List.mem_of_getElem? hi)
 rcases hh with⟨h,_⟩|⟨g',cap',Cs,el,fz,h,hb,hcs,hle,hl,hfz,ht⟩
 ·cases h
 ·cases h
  have hr:=Lib.run_unsafeSliceData_zero (P:=P) w ts t e hp ⟨gb,0,none⟩ k (el,Cs.size) (by simp[World.shape?,hb])
  have e2:(#[x].map ρ)=#[.slice (some ⟨gb,0,none⟩) k 0]:=by simp[(aL.1 (hf _ _ hx)).1]
  refine⟨w.heap.size,ptrA w.heap.size,_,R.put w.heap.size (.view ⟨gb,0,none⟩ e),?_,Seal.put_le hm.seal_free,an.2 rfl,hm.alloc_sealed _⟩
  simp only[execOp,resolve,Sem.run_bind,Sem.run_pure,Result.andThen_ok,invoke,builtin,e2,hr]
  rfl
end
theorem m5 {G:Glo}{b:Nat}{p:Value}(g cap:Nat)(s:List UInt8)(hs:s≠[])(hlen:s.length≤137438953472)(hc0:cap≠0):ah Tryz.prog G 68 [.raw (ptrA b)] [bldC b p 1 (.slice (some ⟨g,0,none⟩) s.length cap),bldR (.slice (some ⟨g,0,none⟩) s.length cap) s] (fun r H=>r= .ret (.str s)∧H=[bldC b p 1 (.slice (some ⟨g,0,none⟩) s.length cap)]):=by
 have hGL:ad G []:=ab
 refine oF 0 Tryz.func68 Tryz.call68 rfl rfl rfl rfl hGL rfl ?_
 intro C hC
 refine xn1 ?_
 intros
 refine dw_p mixed hC hGL false (fun(_:Unit)=>[(2,.str s)]) (fun _=>[bldC b p 1 (.slice (some ⟨g,0,none⟩) s.length cap),df]) (.take 0 (.take 1 (.take 2 (.take 5 (.take 6 (.take 7 (.br 3 (.br 4 (.br 8 (.br 9 (.br 10 (.take 11 (.done)) (.nil)) (.nil)) (.nil)) (.br 8 (.br 4 (.br 9 (.br 10 (.take 11 (.done)) (.nil)) (.nil)) (.br 9 (.br 4 (.br 10 (.take 11 (.done)) (.nil)) (.nil)) (.nil))) (.nil))) (.br 8 (.br 3 (.br 4 (.br 9 (.br 10 (.take 11 (.done)) (.nil)) (.nil)) (.br 9 (.br 4 (.br 10 (.take 11 (.done)) (.nil)) (.nil)) (.nil))) (.br 9 (.br 3 (.br 4 (.br 10 (.take 11 (.done)) (.nil)) (.nil)) (.nil)) (.nil))) (.nil))))))))) (by kernel_rfl) ?_ ?_
 ·repeat' (first|(conv=>whnf);first|refine .w ?_|refine Ix.v ?_|refine Sd.v ?_|refine Sl.v ?_|apply aX|refine sc_d ?_ ?_<;>(intro hb;try exact dd hb)|apply ao|(apply sc_i<;>intro hb)|(apply bx_i;intro hbd)|(apply ax;first|fail)|(apply ab_i;intro bl)|exact True.intro|(apply bc_i;intro C hC)|apply bt_i|apply og_n|(apply og_a;exact rfl)|(show Rt _ _ _;exact rt_w)|fail)
  all_goals try conv=>whnf
  all_goals (apply aF hC hGL;exact Bf rfl hc0;exact rfl;exact rfl)
  all_goals (
   repeat' (first|(conv=>whnf);first|refine .w ?_|refine Ix.v ?_|refine Sd.v ?_|refine Sl.v ?_|apply aX|refine sc_d ?_ ?_<;>(intro hb;try exact dd hb)|apply ao|(apply sc_i<;>intro hb)|(apply bx_i;intro hbd)|(apply ax;first|fail)|(apply ab_i;intro bl)|exact True.intro|(apply bc_i;intro C hC)|apply bt_i|apply og_n|(apply og_a;exact rfl)|(show Rt _ _ _;exact rt_w)|fail)
   all_goals try conv=>whnf
  )
  all_goals (apply BJ (i0:=1) (s:=s) (cap:=cap) (gb:=g) hC hGL;exact rfl;exact rfl;exact rfl;exact rfl;exact rfl;exact hs;exact hlen;exact Tryz.underlying169;kernel_rfl)
  all_goals (
   repeat' (first|(conv=>whnf);first|refine .w ?_|refine Ix.v ?_|refine Sd.v ?_|refine Sl.v ?_|apply aX|refine sc_d ?_ ?_<;>(intro hb;try exact dd hb)|apply ao|(apply sc_i<;>intro hb)|(apply bx_i;intro hbd)|(apply ax;first|fail)|(apply ab_i;intro bl)|exact True.intro|(apply bc_i;intro C hC)|apply bt_i|apply og_n|(apply og_a;exact rfl)|(show Rt _ _ _;exact rt_w)|fail)
   all_goals try conv=>whnf
  )
  all_goals (exact⟨(),⟨rfl,trivial⟩,rfl⟩)
 ·intro _
  exact xn0
theorem m0 {G:Glo}{b:Nat}{p:Value}(g cap:Nat)(hc0:cap≠0):ah Tryz.prog G 68 [.raw (ptrA b)] [bldC b p 1 (.slice (some ⟨g,0,none⟩) 0 cap),bldR (.slice (some ⟨g,0,none⟩) 0 cap) []] (fun r H=>r= .ret (.str [])∧H=[bldC b p 1 (.slice (some ⟨g,0,none⟩) 0 cap)]):=by
 have hGL:ad G []:=ab
 refine oF 0 Tryz.func68 Tryz.call68 rfl rfl rfl rfl hGL rfl ?_
 intro C hC
 refine xn1 ?_
 intros
 refine dw_p mixed hC hGL false (fun(_:Unit)=>[(2,.str [])]) (fun _=>[bldC b p 1 (.slice (some ⟨g,0,none⟩) 0 cap),bldR (.slice (some ⟨g,0,none⟩) 0 cap) []]) (.take 0 (.take 1 (.take 2 (.take 5 (.take 6 (.take 7 (.br 3 (.br 4 (.br 8 (.br 9 (.br 10 (.take 11 (.done)) (.nil)) (.nil)) (.nil)) (.br 8 (.br 4 (.br 9 (.br 10 (.take 11 (.done)) (.nil)) (.nil)) (.br 9 (.br 4 (.br 10 (.take 11 (.done)) (.nil)) (.nil)) (.nil))) (.nil))) (.br 8 (.br 3 (.br 4 (.br 9 (.br 10 (.take 11 (.done)) (.nil)) (.nil)) (.br 9 (.br 4 (.br 10 (.take 11 (.done)) (.nil)) (.nil)) (.nil))) (.br 9 (.br 3 (.br 4 (.br 10 (.take 11 (.done)) (.nil)) (.nil)) (.nil)) (.nil))) (.nil))))))))) (by kernel_rfl) ?_ ?_
 ·repeat' (first|(conv=>whnf);first|refine .w ?_|refine Ix.v ?_|refine Sd.v ?_|refine Sl.v ?_|apply aX|refine sc_d ?_ ?_<;>(intro hb;try exact dd hb)|apply ao|(apply sc_i<;>intro hb)|(apply bx_i;intro hbd)|(apply ax;first|fail)|(apply ab_i;intro bl)|exact True.intro|(apply bc_i;intro C hC)|apply bt_i|apply og_n|(apply og_a;exact rfl)|(show Rt _ _ _;exact rt_w)|fail)
  all_goals try conv=>whnf
  all_goals (apply aF hC hGL;exact Bf rfl hc0;exact rfl;exact rfl)
  all_goals (
   repeat' (first|(conv=>whnf);first|refine .w ?_|refine Ix.v ?_|refine Sd.v ?_|refine Sl.v ?_|apply aX|refine sc_d ?_ ?_<;>(intro hb;try exact dd hb)|apply ao|(apply sc_i<;>intro hb)|(apply bx_i;intro hbd)|(apply ax;first|fail)|(apply ab_i;intro bl)|exact True.intro|(apply bc_i;intro C hC)|apply bt_i|apply og_n|(apply og_a;exact rfl)|(show Rt _ _ _;exact rt_w)|fail)
   all_goals try conv=>whnf
  )
  all_goals (apply aF hC hGL;exact q8 rfl rfl;exact rfl;exact rfl)
  all_goals (
   repeat' (first|(conv=>whnf);first|refine .w ?_|refine Ix.v ?_|refine Sd.v ?_|refine Sl.v ?_|apply aX|refine sc_d ?_ ?_<;>(intro hb;try exact dd hb)|apply ao|(apply sc_i<;>intro hb)|(apply bx_i;intro hbd)|(apply ax;first|fail)|(apply ab_i;intro bl)|exact True.intro|(apply bc_i;intro C hC)|apply bt_i|apply og_n|(apply og_a;exact rfl)|(show Rt _ _ _;exact rt_w)|fail)
   all_goals try conv=>whnf
  )
  all_goals (exact⟨(),⟨rfl,trivial⟩,rfl⟩)
 ·intro _
  exact xn0
theorem mZ {G:Glo}{b:Nat}{p:Value}:ah Tryz.prog G 68 [.raw (ptrA b)] [bldC b p 1 (.slice none 0 0),bldR (.slice none 0 0) []] (fun r H=>r= .ret (.str [])∧H=[bldC b p 1 (.slice none 0 0)]):=by
 have hGL:ad G []:=ab
 refine oF 0 Tryz.func68 Tryz.call68 rfl rfl rfl rfl hGL rfl ?_
 intro C hC
 refine xn1 ?_
 intros
 refine dw_p mixed hC hGL false (fun(_:Unit)=>[(2,.str [])]) (fun _=>[bldC b p 1 (.slice none 0 0),bldR (.slice none 0 0) []]) (.take 0 (.take 1 (.take 2 (.take 5 (.take 6 (.take 7 (.br 3 (.br 4 (.br 8 (.br 9 (.br 10 (.take 11 (.done)) (.nil)) (.nil)) (.nil)) (.br 8 (.br 4 (.br 9 (.br 10 (.take 11 (.done)) (.nil)) (.nil)) (.br 9 (.br 4 (.br 10 (.take 11 (.done)) (.nil)) (.nil)) (.nil))) (.nil))) (.br 8 (.br 3 (.br 4 (.br 9 (.br 10 (.take 11 (.done)) (.nil)) (.nil)) (.br 9 (.br 4 (.br 10 (.take 11 (.done)) (.nil)) (.nil)) (.nil))) (.br 9 (.br 3 (.br 4 (.br 10 (.take 11 (.done)) (.nil)) (.nil)) (.nil)) (.nil))) (.nil))))))))) (by kernel_rfl) ?_ ?_
 ·repeat' (first|(conv=>whnf);first|refine .w ?_|refine Ix.v ?_|refine Sd.v ?_|refine Sl.v ?_|apply aX|refine sc_d ?_ ?_<;>(intro hb;try exact dd hb)|apply ao|(apply sc_i<;>intro hb)|(apply bx_i;intro hbd)|(apply ax;first|fail)|(apply ab_i;intro bl)|exact True.intro|(apply bc_i;intro C hC)|apply bt_i|apply og_n|(apply og_a;exact rfl)|(show Rt _ _ _;exact rt_w)|fail)
  all_goals try conv=>whnf
  all_goals (apply aF hC hGL;exact FB rfl;exact rfl;exact rfl)
  all_goals (
   repeat' (first|(conv=>whnf);first|refine .w ?_|refine Ix.v ?_|refine Sd.v ?_|refine Sl.v ?_|apply aX|refine sc_d ?_ ?_<;>(intro hb;try exact dd hb)|apply ao|(apply sc_i<;>intro hb)|(apply bx_i;intro hbd)|(apply ax;first|fail)|(apply ab_i;intro bl)|exact True.intro|(apply bc_i;intro C hC)|apply bt_i|apply og_n|(apply og_a;exact rfl)|(show Rt _ _ _;exact rt_w)|fail)
   all_goals try conv=>whnf
  )
  all_goals (apply aF hC hGL;exact q8 rfl rfl;exact rfl;exact rfl)
  all_goals (
   repeat' (first|(conv=>whnf);first|refine .w ?_|refine Ix.v ?_|refine Sd.v ?_|refine Sl.v ?_|apply aX|refine sc_d ?_ ?_<;>(intro hb;try exact dd hb)|apply ao|(apply sc_i<;>intro hb)|(apply bx_i;intro hbd)|(apply ax;first|fail)|(apply ab_i;intro bl)|exact True.intro|(apply bc_i;intro C hC)|apply bt_i|apply og_n|(apply og_a;exact rfl)|(show Rt _ _ _;exact rt_w)|fail)
   all_goals try conv=>whnf
  )
  all_goals (exact⟨(),⟨rfl,trivial⟩,rfl⟩)
 ·intro _
  exact xn0
theorem mY {G:Glo}{b:Nat}{p:Value}(g:Nat):ah Tryz.prog G 68 [.raw (ptrA b)] [bldC b p 1 (.slice (some ⟨g,0,none⟩) 0 0),bldR (.slice (some ⟨g,0,none⟩) 0 0) []] (fun r H=>r= .ret (.str [])∧H=[bldC b p 1 (.slice (some ⟨g,0,none⟩) 0 0)]):=by
 have hGL:ad G []:=ab
 refine oF 0 Tryz.func68 Tryz.call68 rfl rfl rfl rfl hGL rfl ?_
 intro C hC
 refine xn1 ?_
 intros
 refine dw_p mixed hC hGL false (fun(_:Unit)=>[(2,.str [])]) (fun _=>[bldC b p 1 (.slice (some ⟨g,0,none⟩) 0 0),bldR (.slice (some ⟨g,0,none⟩) 0 0) []]) (.take 0 (.take 1 (.take 2 (.take 5 (.take 6 (.take 7 (.br 3 (.br 4 (.br 8 (.br 9 (.br 10 (.take 11 (.done)) (.nil)) (.nil)) (.nil)) (.br 8 (.br 4 (.br 9 (.br 10 (.take 11 (.done)) (.nil)) (.nil)) (.br 9 (.br 4 (.br 10 (.take 11 (.done)) (.nil)) (.nil)) (.nil))) (.nil))) (.br 8 (.br 3 (.br 4 (.br 9 (.br 10 (.take 11 (.done)) (.nil)) (.nil)) (.br 9 (.br 4 (.br 10 (.take 11 (.done)) (.nil)) (.nil)) (.nil))) (.br 9 (.br 3 (.br 4 (.br 10 (.take 11 (.done)) (.nil)) (.nil)) (.nil)) (.nil))) (.nil))))))))) (by kernel_rfl) ?_ ?_
 ·repeat' (first|(conv=>whnf);first|refine .w ?_|refine Ix.v ?_|refine Sd.v ?_|refine Sl.v ?_|apply aX|refine sc_d ?_ ?_<;>(intro hb;try exact dd hb)|apply ao|(apply sc_i<;>intro hb)|(apply bx_i;intro hbd)|(apply ax;first|fail)|(apply ab_i;intro bl)|exact True.intro|(apply bc_i;intro C hC)|apply bt_i|apply og_n|(apply og_a;exact rfl)|(show Rt _ _ _;exact rt_w)|fail)
  all_goals try conv=>whnf
  all_goals (apply DP (i0:=1) hC hGL;exact rfl;exact rfl;exact rfl;exact rfl;exact Tryz.underlying169;intro bl)
  all_goals (
   repeat' (first|(conv=>whnf);first|refine .w ?_|refine Ix.v ?_|refine Sd.v ?_|refine Sl.v ?_|apply aX|refine sc_d ?_ ?_<;>(intro hb;try exact dd hb)|apply ao|(apply sc_i<;>intro hb)|(apply bx_i;intro hbd)|(apply ax;first|fail)|(apply ab_i;intro bl)|exact True.intro|(apply bc_i;intro C hC)|apply bt_i|apply og_n|(apply og_a;exact rfl)|(show Rt _ _ _;exact rt_w)|fail)
   all_goals try conv=>whnf
  )
  all_goals (apply aF hC hGL;exact q8 rfl rfl;exact rfl;exact rfl)
  all_goals (
   repeat' (first|(conv=>whnf);first|refine .w ?_|refine Ix.v ?_|refine Sd.v ?_|refine Sl.v ?_|apply aX|refine sc_d ?_ ?_<;>(intro hb;try exact dd hb)|apply ao|(apply sc_i<;>intro hb)|(apply bx_i;intro hbd)|(apply ax;first|fail)|(apply ab_i;intro bl)|exact True.intro|(apply bc_i;intro C hC)|apply bt_i|apply og_n|(apply og_a;exact rfl)|(show Rt _ _ _;exact rt_w)|fail)
   all_goals try conv=>whnf
  )
  all_goals (exact⟨(),⟨rfl,trivial⟩,rfl⟩)
 ·intro _
  exact xn0
theorem sm {G:Glo}{b:Nat}{p v:Value}(s:List UInt8)(hlen:s.length≤137438953472):ah Tryz.prog G 68 [.raw (ptrA b)] [bldC b p 1 v,bldR v s] (fun r H=>r= .ret (.str s)∧H=[bldC b p 1 v]):=by
 refine Ge (i:=1) rfl ?_
 rintro(⟨rfl,h0⟩|⟨g,cap,rfl,hc⟩)
 ·obtain rfl:s=[]:=List.eq_nil_of_length_eq_zero h0
  exact mZ
 ·by_cases hs:s=[]
  ·subst hs
   by_cases hc0:cap=0
   ·subst hc0;exact mY g
   ·exact m0 g cap hc0
  ·have h1:s.length≠0:=by simpa using hs
   exact m5 g cap s hs hlen (by omega)
theorem oU {G:Glo}{b:Nat}{p v:Value}(s:List UInt8)(hlen:s.length≤137438953472):ah Tryz.prog G 68 [.raw (ptrA b)] [bldC b p 1 v,bldR v s] (fun r H=>r= .ret (.str s)∧H=[]):=
 yK (fun _=>Iff.rfl) (fun _ _ _ h=>h) (sm s hlen) fun r H' ⟨e,eH⟩=>⟨[],⟨e,rfl⟩,fun _ _ _ h=>h.drop (List.nil_sublist _)⟩
end
section
open Go
attribute [local irreducible] AWp AOps aa aA OrOk ad ah
attribute [local irreducible] au badI badS cA rngR ownB
def mayZ (r:Int):Bool:=decide (0≤r∧r≤1114111∧(r<55296∨57343<r))
theorem j4 {r:Int}:mayZ r=true↔(0≤r∧r≤1114111∧(r<55296∨57343<r)):=by simp[mayZ]
theorem FV {r:Int}:mayZ r=false↔¬(0≤r∧r≤1114111∧(r<55296∨57343<r)):=by simp[mayZ]
attribute [local irreducible] mayZ
theorem iU {G:Glo}(r:Int):FnIs Tryz.prog G 205 [.int .i64 r] (.bool (mayZ r)):=by
 have hGL:ad G []:=ab
 refine fn_x Tryz.func205 Tryz.call205 rfl rfl rfl rfl hGL ?_
 intro C hC
 repeat' (first|(conv=>whnf);first|refine .w ?_|refine .v ?_|refine sc_c ?_ ?_<;>(intro hb;try exact dd hb)|apply ao|apply aG|(apply sc_i<;>intro hb)|(apply bx_i;intro hbd)|(apply ax;first|fail)|(apply aw (i:=0) rfl;first|fail)|(apply ab_i;intro bl)|(apply as_i;intro va vk vc hva)|(apply av_i;intro v)|(apply ac_i;intro bl cap hcap)|apply bo_l|(apply nx_i<;>intro hnx)|apply dw_q mixed hC hGL (by kernel_rfl)|(apply cq;assumption;(first|fail);exact rfl)|(show Rt _ _ _;exact rt_w)|fail)
 all_goals try conv=>whnf
 all_goals (apply ak)
 all_goals (refine congrArg AVal.bool ?_)
 all_goals (rw[Bool.eq_iff_iff];simp[j4,jJ,g8,Bool.not_eq_true']<;>omega)
theorem tup2 {k j:IntKind}{a b c e:Int}{H':Heap}(h:c=a∧e=b):Rt (fun(x:ARes) (H:Heap)=>x= .ret (.tuple [.int k c,.int j e])∧H=[]) (.tuple [.int k a,.int j b]) H':=by
 obtain⟨rfl,rfl⟩:=h
 exact ak rfl
theorem sN {G:Glo}(s:List UInt8):FnIs Tryz.prog G 178 [.str s] (.tuple [.int .i64 ((au s).1:Int),.int .i64 ((au s).2:Int)]):=by
 have hGL:ad G []:=ab
 refine fn_x Tryz.func178 Tryz.call178 rfl rfl rfl rfl hGL ?_
 intro C hC
 repeat' (first|(conv=>whnf);first|refine .w ?_|refine .v ?_|refine sc_c ?_ ?_<;>(intro hb;try exact dd hb)|apply ao|apply aG|(apply sc_i<;>intro hb)|(apply bx_i;intro hbd)|(apply ax;first|exact iU _)|(apply aw (i:=0) rfl;first|exact iU _)|(apply ab_i;intro bl)|(apply as_i;intro va vk vc hva)|(apply av_i;intro v)|(apply ac_i;intro bl cap hcap)|apply bo_l|(apply nx_i<;>intro hnx)|apply dw_q mixed hC hGL (by kernel_rfl)|(apply cq;assumption;(first|exact iU _);exact rfl)|(show Rt _ _ _;exact rt_w)|fail)
 all_goals try conv=>whnf
 any_goals (refine rds hC hGL 4 ?_)
 repeat' (first|(conv=>whnf);first|refine .w ?_|refine .v ?_|refine sc_c ?_ ?_<;>(intro hb;try exact dd hb)|apply ao|apply aG|(apply sc_i<;>intro hb)|(apply bx_i;intro hbd)|(apply ax;first|exact iU _)|(apply aw (i:=0) rfl;first|exact iU _)|(apply ab_i;intro bl)|(apply as_i;intro va vk vc hva)|(apply av_i;intro v)|(apply ac_i;intro bl cap hcap)|apply bo_l|(apply nx_i<;>intro hnx)|apply dw_q mixed hC hGL (by kernel_rfl)|(apply cq;assumption;(first|exact iU _);exact rfl)|(show Rt _ _ _;exact rt_w)|fail)
 all_goals try conv=>whnf
 all_goals (refine tup2 ?_)
 all_goals (
  try simp only[show Int.toNat 0=0 from rfl,show Int.toNat 1=1 from rfl,show Int.toNat (1+1)=2 from rfl,show Int.toNat (1+1+1)=3 from rfl,Int.ofNat_toNat,j4,FV,jJ,g8] at*
  generalize hz:au s=z
  unfold au aW mayN cp2 cp3 cp4 at hz
  generalize aa s 0=b0 at*
  generalize aa s 1=b1 at*
  generalize aa s 2=b2 at*
  generalize aa s 3=b3 at*
  generalize s.length=l at*)
 all_goals (
  repeat' (split at hz;try (exfalso;omega))
  all_goals (try subst z)
  all_goals (first
   |exact⟨rfl,rfl⟩
   |(simp only[Bool.and_eq_true,Bool.or_eq_true,decide_eq_true_eq,beq_iff_eq] at*;first|(exfalso;omega)|omega)))
end
section
open Go
attribute [local irreducible] AWp AOps aa aA OrOk ad ah
attribute [local irreducible] au badI badS cA rngR ownB
theorem xN {G:Glo}(s:List UInt8)(hl:s.length≤9223372036854775807):FnIs Tryz.prog G 144 [.str s] (.int .i64 (badI s)):=by
 have hGL:ad G []:=ab
 refine fn_x Tryz.func144 Tryz.call144 rfl rfl rfl rfl hGL ?_
 intro C hC
 have hle:=fun k=>kS (s.drop k)
 have k1:=@sN
 refine xw1 ?_
 intros
 refine lp hC hGL (fun(i:Nat)=>[(0,.str s),(3,.int .i64 i)]) (fun _=>[]) (fun i=>i≤s.length∧badS s=(badS (s.drop i)).map (· +i)) (fun i=>s.length-i) 0 ?_ ae rfl ?_
 ·exact⟨Nat.zero_le _,by simp⟩
 rintro i ⟨hi,hb0⟩
 have hn:=hle i
 rw[List.length_drop] at hn
 have k1:=@sN
 refine xw ?_
 repeat' (first|exact Le.n|refine Lc.mk ?_ ?_)
 all_goals intros
 ·apply ak
  refine congrArg (AVal.int .i64) ?_
  have h1:=jv (s.drop i) (by rw[List.length_drop];omega)
  rw[if_pos (by omega)] at h1
  rw[h1] at hb0
  simp only[badI,hb0,Option.map_some,Nat.zero_add]
 ·have h1:=jv (s.drop i) (by rw[List.length_drop];omega)
  rw[if_neg (by omega)] at h1
  refine nxt (i+(au (s.drop i)).2) ?_ ?_ ae rfl
  ·refine⟨by omega,?_⟩
   rw[hb0,h1,List.drop_drop]
   cases badS (s.drop (i+(au (s.drop i)).2))<;>simp<;>omega
  ·omega
 ·apply ak
  refine congrArg (AVal.int .i64) ?_
  rw[vf (s.drop i) (by rw[List.length_drop];omega)] at hb0
  simp only[badI,hb0,Option.map_none]
end
section
open Go
attribute [local irreducible] AWp AOps aa aA OrOk ad ah
attribute [local irreducible] au badI badS cA rngR ownB mayZ
theorem vy {G:Glo}(r:Int):FnIs Tryz.prog G 220 [.int .i32 r] (.bool (mayZ r)):=by
 have hGL:ad G []:=ab
 refine fn_x Tryz.func220 Tryz.call220 rfl rfl rfl rfl hGL ?_
 intro C hC
 repeat' (first|(conv=>whnf);first|refine .w ?_|refine .v ?_|refine sc_c ?_ ?_<;>(intro hb;try exact dd hb)|apply ao|apply aG|(apply sc_i<;>intro hb)|(apply bx_i;intro hbd)|(apply ax;first|fail)|(apply aw (i:=0) rfl;first|fail)|(apply ab_i;intro bl)|(apply as_i;intro va vk vc hva)|(apply av_i;intro v)|(apply ac_i;intro bl cap hcap)|apply bo_l|(apply nx_i<;>intro hnx)|apply dw_q mixed hC hGL (by kernel_rfl)|(apply cq;assumption;(first|fail);exact rfl)|(show Rt _ _ _;exact rt_w)|fail)
 all_goals try conv=>whnf
 all_goals (apply ak;refine congrArg AVal.bool ?_)
 all_goals (rw[Bool.eq_iff_iff];simp[j4,jJ,g8,Bool.not_eq_true']<;>omega)
theorem Es {r:Int}(hz:0≤r∧r≤1114111∧(r<55296∨57343<r)):(Utf8.encode r).data.toList=
  if r.toNat<128 then[UInt8.ofNat r.toNat] else if r.toNat<2048 then[UInt8.ofNat (192+r.toNat/64),UInt8.ofNat (128+r.toNat%64)]
  else if r.toNat<65536 then[UInt8.ofNat (224+r.toNat/4096),UInt8.ofNat (128+r.toNat/64%64),UInt8.ofNat (128+r.toNat%64)]
  else[UInt8.ofNat (240+r.toNat/262144),UInt8.ofNat (128+r.toNat/4096%64),UInt8.ofNat (128+r.toNat/64%64),UInt8.ofNat (128+r.toNat%64)]:=by
 have hv:Utf8.valid r=true:=by simp[Utf8.valid];omega
 unfold Utf8.encode
 simp only[hv,if_true]
 (repeat' split)<;>first|rfl|omega
end
section
open Go
theorem DV {x:UInt8}{t:List UInt8}(h:x.toNat<128):au (x::t)=(x.toNat,1):=by
 unfold au
 simp[aa,h]
theorem vW {x:UInt8}{t:List UInt8}(h:x.toNat<128):rngR (x::t)=x.toNat∧cA (x::t)=1:=by
 unfold rngR cA
 rw[DV h]
 simp
theorem two1 {a b:UInt8}:aa [a,b] 1=b.toNat:=rfl
def noGo (Q:AExit→Env→Heap→Prop):AExit→Env→Heap→Prop
 |.goto _,_,_=>False
 |x,e,h=>Q x e h
theorem iN {P:Program}[Tab P]{C:Ctx}{n:Nat}{env:Env}{H:Heap}{Q:AExit→Env→Heap→Prop}{c:Code}{G:Glo}{GL:List (Nat×List AVal)}(hC:C.G=G)(hGL:ad G GL)(h:dG P C n G GL c env H (noGo Q)):Cd P C n (.scope c) env H Q:=by
 refine⟨fun R a w hm hf=>wp_scope_straight (wp_mono (bI hC hGL c _ _ _ h R a w hm hf) ?_)⟩
 rintro ex a w ⟨x,e,h,R,hq,hr,hm,hf⟩
 cases x with
 |goto l=>exact hq.elim
 |normal=>simp only[aD] at hr;subst hr;exact⟨.normal,e,h,R,hq,rfl,hm,hf⟩
 |exit i=>simp only[aD] at hr;subst hr;exact⟨.exit i,e,h,R,hq,rfl,hm,hf⟩
 |ret=>simp only[aD] at hr;subst hr;exact⟨.ret,e,h,R,hq,rfl,hm,hf⟩
 |panic v=>
  obtain⟨x,rfl,hx⟩:=hr
  exact⟨.panic v,e,h,R,hq,⟨x,rfl,hx⟩,hm,hf⟩
attribute [local irreducible] AWp AOps aa aA OrOk ad ah
attribute [local irreducible] au badI badS cA rngR ownB mayZ
end
section
open Go Go.RowKit
theorem tX (t:List UInt8)(h:(au t).2≠0):((au t).1<128→(au t).2=1∧aa t 0=(au t).1)∧(128≤(au t).1→∀j,j<(au t).2→128≤aa t j)∧mayZ (au t).1=true:=by
 have hb:=aO t 0
 rw[j4]
 revert h
 unfold au
 repeat' split
 all_goals (intro h;try (exact absurd rfl h))
 all_goals (simp only[aW,mayN,Bool.and_eq_true,Bool.or_eq_true,decide_eq_true_eq,beq_iff_eq] at*)
 ·refine⟨fun _=>by simp,fun h=>by omega,by omega⟩
 ·refine⟨fun h=>by omega,fun _ j hj=> ?_,by omega⟩
  obtain rfl|rfl:j=0∨j=1:=by omega
  all_goals omega
 ·refine⟨fun h=>by omega,fun _ j hj=> ?_,by omega⟩
  obtain rfl|rfl|rfl:j=0∨j=1∨j=2:=by omega
  all_goals omega
 ·refine⟨fun h=>by omega,fun _ j hj=> ?_,by omega⟩
  obtain rfl|rfl|rfl|rfl:j=0∨j=1∨j=2∨j=3:=by omega
  all_goals omega
theorem wm (t:List UInt8)(h:(au t).2=0)(h0:t.length≠0):128≤aa t 0:=by
 rcases Nat.lt_or_ge (aa t 0) 128 with h1|h1
 ·exfalso
  revert h
  unfold au
  rw[if_neg h0,if_pos h1]
  simp
 ·exact h1
theorem cU {s:List UInt8}{i:Nat}{x:UInt8}(h:s[i]? =some x):x.toNat=aa s i:=by simp[aa,List.getD,h]
attribute [local irreducible] AWp AOps aa aA OrOk ad ah
attribute [local irreducible] au badI badS cA rngR ownB mayZ
theorem vI {G:Glo}(n:Int):FnIs Tryz.prog G 199 [.int .i64 n] (.bool (ltB 8 n)):=by
 have hGL:ad G []:=ab
 refine fn_x Tryz.func199 Tryz.call199 rfl rfl rfl rfl hGL ?_
 intro C hC
 repeat' (first|(conv=>whnf);first|refine .w ?_|refine .v ?_|refine sc_c ?_ ?_<;>(intro hb;try exact dd hb)|apply ao|apply aG|(apply sc_i<;>intro hb)|(apply bx_i;intro hbd)|(apply ax;first|fail)|(apply aw (i:=0) rfl;first|fail)|(apply ab_i;intro bl)|(apply as_i;intro va vk vc hva)|(apply av_i;intro v)|(apply ac_i;intro bl cap hcap)|apply bo_l|(apply nx_i<;>intro hnx)|apply dw_q mixed hC hGL (by kernel_rfl)|(apply cq;assumption;(first|fail);exact rfl)|(show Rt _ _ _;exact rt_w)|fail)
 all_goals try conv=>whnf
theorem zt (t:List UInt8)(h0:t.length≠0):mayZ (rngR t:Int)=true∧0<cA t∧cA t≤t.length∧((rngR t:Int)<128→cA t=1∧(aa t 0:Int)=rngR t)∧(128≤(rngR t:Int)→∀j,j<cA t→128≤aa t j):=by
 have hle:=kS t
 by_cases hn:(au t).2=0
 ·have h1:=wm t hn h0
  unfold rngR cA
  rw[if_pos hn,if_pos hn]
  refine⟨by rw[j4];omega,by omega,by omega,fun h=>by omega,fun _ j hj=>by rw[show j=0 by omega];exact h1⟩
 ·have h1:=tX t hn
  unfold rngR cA
  rw[if_neg hn,if_neg hn]
  refine⟨h1.2.2,by omega,hle.1,fun h=> ?_,fun h=>h1.2.1 (by omega)⟩
  have:=h1.1 (by omega)
  omega
end
end Go.Proofs.YtdpbejofgemloaaGreatDoor
