/- Parts of the proof of jcardTells_card: Ftc, Mxc, Thr, Ftd, Ruk, Syn, Onc, Ond, Mak, Cpy, Rpl, Rpm, Rpn, Lna, Dc, Rf, Hdb, Lnk, Cno, Wm, Idt. -/
import Derived.Laws.LoneSync
import Derived.Laws.MakeOwn
import Derived.Laws.IdiomCopy
import GoSem.PinnedTables
import Derived.Test.YtdpbejofgemloaaGreatDoorBah
import Derived.Test.YtdpbejofgemloaaGreatDoorBaf
import Derived.Test.YtdpbejofgemloaaGreatDoorBae
import Derived.Test.YtdpbejofgemloaaGreatDoorBad
import Derived.Test.YtdpbejofgemloaaGreatDoorBag
set_option linter.unusedVariables false
set_option linter.unusedSimpArgs false
set_option linter.unusedSectionVars false
namespace Go.Proofs.YtdpbejofgemloaaGreatDoor
set_option maxRecDepth 20000
set_option maxHeartbeats 4000000
section
open Go Go.RowKit
theorem sY (c:UInt8)(s:List UInt8):splS c s=if(Lib.cut s [c]).2.2 then(Lib.cut s [c]).1::splS c (Lib.cut s [c]).2.1 else[s]:=by
 have h:=gv c s
 rcases Lib.index_spec s [c] with⟨h2,_⟩|⟨i,h2,_⟩
 ·rw[Lib.count_miss h2] at h
  have e:Lib.cut s [c]=(s,[],false):=by unfold Lib.cut;rw[if_neg (by omega)]
  rw[e,if_neg Bool.false_ne_true,←h]
  rfl
 ·have e:Lib.cut s [c]=(s.take i,s.drop (i+1),true):=by unfold Lib.cut;rw[if_pos (by omega),h2];rfl
  rw[Lib.count_hit (by simp) h2,Nat.add_comm,gw h2] at h
  rw[e,if_pos rfl,←h]
  congr 1
  exact gv c _
theorem Ah:∀k:Fin 1000,(46:UInt8)∉Lib.decDigits k.val:=by decide+kernel
theorem Ak {m:Nat}{s:List UInt8}(hm:m≤999)(h:(46:UInt8)∈s):cntB m s=false:=by
 refine oP.2 fun n h1 h2 h3=> ?_
 subst h3
 exact Ah ⟨n,by omega⟩ h
theorem Gm {s:List UInt8}{c:UInt8}(h:(Lib.cut s [c]).2.2=true):c∈s:=by
 unfold Lib.cut at h
 split at h
 ·rename_i hi
  rw[Lib.index_one] at hi
  rcases Classical.em (c∈s) with g|g
  ·exact g
  ·exfalso
   have:Lib.indexByte s c= -1:=by
    have:=Lib.index_spec s [c]
    rcases this with⟨h1,_⟩|⟨i,h1,h2,h3,_⟩
    ·rwa [Lib.index_one] at h1
    ·exfalso
     apply g
     unfold Lib.occAt at h3
     cases hd:s.drop i with
     |nil=>rw[hd] at h3;simp at h3
     |cons x t=>
      rw[hd] at h3
      have:c=x:=by simpa[List.isPrefixOf] using h3
      rw[this]
      exact List.mem_of_mem_drop (by rw[hd];exact List.mem_cons_self ..)
   omega
 ·cases h
def pidL (l:List (List UInt8)):Bool:=decide (l.length≤2)&&l.all (cntB 999)
theorem DO (v:List UInt8):pidL (splS 46 v)=pidB v:=by
 rw[sY]
 unfold pidB pidL
 cases ht:(Lib.cut v [46]).2.2 with
 |false=>
  have e:(Lib.cut v [46]).1=v:=by
   unfold Lib.cut at ht ⊢
   split at ht
   ·cases ht
   ·rename_i h;rw[if_neg h]
  rw[e]
  simp
 |true=>
  rw[if_pos rfl,sY]
  cases ht2:(Lib.cut (Lib.cut v [46]).2.1 [46]).2.2 with
  |false=>simp
  |true=>
   have h1:=Ak (m:=999) (Nat.le_refl _) (Gm ht2)
   rw[h1,if_pos rfl]
   have h3:=kx 46 (Lib.cut (Lib.cut v [46]).2.1 [46]).2.1
   have h4:0<(splS 46 (Lib.cut (Lib.cut v [46]).2.1 [46]).2.1).length:=List.length_pos_iff.2 h3
   rw[decide_eq_false (by simp only[List.length_cons];omega)]
   simp
abbrev sixS:List UInt8:=[32,86,65,76,85,69,32,65,76,84,73,68,32,77,69,68,73,65,84,89,80,69,32,69,78,67,79,68,73,78,71,32,76,65,78,71,85,65,71,69,32,80,82,69,70,32]
def sixB (n:List UInt8):Bool:=decide (n=nVAL∨n=nALT∨n=nMED∨n=nENC∨n=nLAN∨n=nPRE)
theorem tJ:∀{n L:List UInt8},(n++[32]).isPrefixOf L=true→(32:UInt8)∉n→n=L.takeWhile (· != 32)
 |[],[],h,_=>by simp at h
 |[],x::L,h,_=>by
  simp only[List.nil_append,List.isPrefixOf,Bool.and_true,beq_iff_eq] at h
  subst h
  simp
 |a::n,[],h,_=>by simp at h
 |a::n,x::L,h,hn=>by
  simp only[List.cons_append,List.isPrefixOf,Bool.and_eq_true,beq_iff_eq] at h
  obtain⟨rfl,h⟩:=h
  have ha:a≠32:=fun e=>hn (by rw[e];exact List.mem_cons_self ..)
  have:=tJ h (fun e=>hn (List.mem_cons_of_mem _ e))
  rw[List.takeWhile_cons,if_pos (by simpa using ha),←this]
theorem zj:∀i:Fin 47,∀L,sixS.drop i.val=32::L→L.takeWhile (· != 32)=[]∨sixB (L.takeWhile (· != 32))=true:=by
 have h:∀i:Fin 47,(match sixS.drop i.val with|x::L=>x != 32||((L.takeWhile (· != 32)).isEmpty||sixB (L.takeWhile (· != 32)))|[]=>true)=true:=by decide+kernel
 intro i L hL
 have:=h i
 rw[hL] at this
 replace this:((32:UInt8) != 32||((L.takeWhile (· != 32)).isEmpty||sixB (L.takeWhile (· != 32))))=true:=this
 generalize L.takeWhile (· != 32)=u at*
 rw[show((32:UInt8) != 32)=false by decide,Bool.false_or,Bool.or_eq_true,List.isEmpty_iff] at this
 exact this
theorem Fw {n:List UInt8}(h:sixB n=true):Lib.contains sixS (32::n++[32])=true:=by
 have h:n=nVAL∨n=nALT∨n=nMED∨n=nENC∨n=nLAN∨n=nPRE:=of_decide_eq_true h
 rcases h with rfl|rfl|rfl|rfl|rfl|rfl<;>decide+kernel
theorem Fx {n:List UInt8}(h0:n≠[])(hn:(32:UInt8)∉n):Lib.contains sixS (32::n++[32])=sixB n:=by
 cases hb:sixB n with
 |true=>exact Fw hb
 |false=>
  unfold Lib.contains
  rcases Lib.index_spec sixS (32::n++[32]) with⟨h1,_⟩|⟨i,h1,h2,h3,_⟩
  ·rw[h1];rfl
  ·exfalso
   unfold Lib.occAt at h3
   cases hd:sixS.drop i with
   |nil=>rw[hd] at h3;simp at h3
   |cons x L=>
    rw[hd] at h3
    simp only[List.cons_append,List.isPrefixOf,Bool.and_eq_true,beq_iff_eq] at h3
    obtain⟨rfl,h3⟩:=h3
    have e:=tJ h3 hn
    rcases zj ⟨i,by have:sixS.length=46:=rfl;omega⟩ L hd with h|h
    ·exact h0 (e.trans h)
    ·rw[←e,hb] at h;cases h
theorem rJ {s:List UInt8}(h:isS s=true):aj 97 122 (-32) s≠[]∧(32:UInt8)∉aj 97 122 (-32) s:=by
 unfold isS at h
 simp only[Bool.and_eq_true,decide_eq_true_eq] at h
 obtain⟨h1,h2,_⟩:=h
 refine⟨fun e=>h2 ?_,fun hm=> ?_⟩
 ·have:=congrArg List.length e
  unfold aj at this
  rwa [List.length_map] at this
 ·unfold aj at hm
  rw[List.mem_map] at hm
  obtain⟨c,hc,e⟩:=hm
  unfold allB at h1
  have hl:=List.all_eq_true.1 h1 c hc
  unfold bu at hl
  have hl:=of_decide_eq_true hl
  have e:=congrArg UInt8.toNat e
  rw[UInt8.toNat_ofNat'] at e
  have hlt:=UInt8.toNat_lt c
  unfold bO at e
  have e32:(32:UInt8).toNat=32:=rfl
  rw[e32] at e
  split at e<;>omega
end
section
open Go Go.RowKit
theorem fZ {G:Glo}{m:Int}(hU:ad G (bW m))(s t:List UInt8)(hl:s.length<100000):FnIs Tryz.prog G 111 [.str s,.str t] (.bool (Lib.contains s t)):=by
 refine bB rfl Tryz.call111 ?_
 rintro R args ⟨x,u,e,hx,y,u',e',hy,rfl⟩ w hG hs
 obtain rfl:=aE.1 hx
 obtain rfl:=aE.1 hy
 subst e'
 obtain rfl:=eA e
 refine(Tryz.strings_Contains ⟨s.toArray⟩ ⟨t.toArray⟩ m w (by show s.toArray.size<_;simp;omega) (oc hU hG hs)).mono ?_
 rintro e w' ⟨rfl,rfl⟩
 exact⟨by simp[AVal.conc],Below.refl _ _⟩
end
section
open Go Go.RowKit
attribute [local irreducible] AWp AOps aa aA OrOk ad ah
attribute [local irreducible] fJ Lv AWpD To
theorem gF {G:Glo}(e p:Int):FnIs Tryz.prog G 12 [.agg [.int .i64 e,.int .i64 p]] (.bool (eqB e 0)):=by
 have hGL:ad G []:=ab
 refine fn_x Tryz.func12 Tryz.call12 rfl rfl rfl rfl hGL ?_
 intro C hC
 repeat' (first|(conv=>whnf);first|refine .w ?_|refine .v ?_|refine sc_c ?_ ?_<;>(intro hb;try exact dd hb)|apply ao|apply aG|(apply sc_i<;>intro hb)|(apply bx_i;intro hbd)|(apply ax;first|fail)|(apply aw (i:=0) rfl;first|fail)|(apply ab_i;intro bl)|(apply as_i;intro va vk vc hva)|(apply av_i;intro v)|(apply ac_i;intro bl cap hcap)|apply bo_l|(apply nx_i<;>intro hnx)|apply dw_q mixed hC hGL (by kernel_rfl)|(apply cq;assumption;(first|fail);exact rfl)|(show Rt _ _ _;exact rt_w)|fail)
 all_goals try conv=>whnf
 all_goals skip
end
section
open Go Go.RowKit
def okV (n:List UInt8)(v:List UInt8):Bool:=if n=nLAN then(b6 v).isNone else if n=nPRE then cntB 100 v else if n=nTYP then isS v else if n=nPID then pidB v else true
theorem Gh (n:List UInt8)(vs:List (List UInt8)):fitN n vs=(decide (vs.length≠0)&&((!sixB n||decide (vs.length=1))&&vs.all (okV n))):=by
 have one:∀{p:List UInt8→Bool},vs.length=1→vs.all p=p (vs.getD 0 []):=fun h=>by
  obtain⟨v,rfl⟩:=List.length_eq_one_iff.1 h
  simp
 cases nmC n with
 |one h=>
  have e:∀v,okV n v=true:=fun v=>by
   unfold okV
   rcases h with rfl|rfl|rfl|rfl<;>rfl
  have e2:vs.all (okV n)=true:=List.all_eq_true.2 fun v _=>e v
  have e3:sixB n=true:=by rcases h with rfl|rfl|rfl|rfl<;>rfl
  unfold fitN
  rw[if_pos h,e2,e3]
  by_cases hv:vs.length=1
  ·simp[hv]
  ·simp[hv]
 |lan h=>
  subst h
  show(decide (vs.length=1)&&(b6 (vs.getD 0 [])).isNone)=_
  rw[show sixB nLAN=true from rfl]
  by_cases hv:vs.length=1
  ·rw[one hv];simp[hv,okV]
  ·simp[hv]
 |pre h=>
  subst h
  show(decide (vs.length=1)&&cntB 100 (vs.getD 0 []))=_
  rw[show sixB nPRE=true from rfl]
  by_cases hv:vs.length=1
  ·rw[one hv];simp[hv,okV]
  ·simp[hv]
 |typ h=>
  subst h
  show(vs.all isS&&decide (0<vs.length))=_
  rw[show sixB nTYP=false from rfl,show okV nTYP=isS from rfl]
  by_cases hv:vs.length=0
  ·simp[hv]
  ·simp[hv,Nat.pos_of_ne_zero hv]
 |pid h=>
  subst h
  show(vs.all pidB&&decide (0<vs.length))=_
  rw[show sixB nPID=false from rfl,show okV nPID=pidB from rfl]
  by_cases hv:vs.length=0
  ·simp[hv]
  ·simp[hv,Nat.pos_of_ne_zero hv]
 |els h1 h2 h3 h4 h5 h6 h7 h8=>
  have e:∀v,okV n v=true:=fun v=>by
   unfold okV
   rw[if_neg h5,if_neg h6,if_neg h7,if_neg h8]
  have e2:vs.all (okV n)=true:=List.all_eq_true.2 fun v _=>e v
  have e3:sixB n=false:=by
   unfold sixB
   exact decide_eq_false (by simp only[not_or];exact⟨h1,h2,h3,h4,h5,h6⟩)
  unfold fitN
  rw[if_neg (by simp only[not_or];exact⟨h1,h2,h3,h4⟩),if_neg h5,if_neg h6,if_neg h7,if_neg h8,e2,e3]
  by_cases hv:vs.length=0
  ·simp[hv]
  ·simp[hv,Nat.pos_of_ne_zero hv]
theorem qg:∀(b:Bool) (a:Nat) (l:List (List UInt8)),(cC b a l).isNone=eqB (cC b a l).e 0
 |b,a,[]=>by unfold cC;exact(dp.2 rfl).symm
 |b,a,x::l=>by
  unfold cC
  have ih:=qg false (a+x.length+1) l
  have hp:cr b a x= .none∨∃e p,cr b a x= .at e p∧e≠0:=by
   unfold cr
   split
   ·exact .inr ⟨_,_,rfl,by decide⟩
   ·split
    ·exact .inr ⟨_,_,rfl,by decide⟩
    ·split
     ·exact .inr ⟨_,_,rfl,by decide⟩
     ·exact .inl rfl
  rcases hp with h|⟨e,p,h,he⟩
  ·rw[h];exact ih
  ·rw[h];exact(ic.2 he).symm
theorem zS (s:List UInt8):(b6 s).isNone=eqB (b6 s).e 0:=qg true 0 (splS 45 s)
attribute [local irreducible] AWp AOps aa aA OrOk ad ah
attribute [local irreducible] cntB b6 isS pidB splS okV sixB
theorem mu {G:Glo}(hP:cQ G)(s:List UInt8)(m:Nat)(hm:m≤999):FnIs Tryz.prog G 112 [.str s,.int .i64 (m:Int)] (.bool (cntB m s)):=by
 have hGL:ad G []:=ab
 refine fn_x Tryz.func112 Tryz.call112 rfl rfl rfl rfl hGL ?_
 intro C hC
 refine xw1 ?_
 intros
 refine lp hC hGL (fun k:Nat=>[(0,.str s),(1,.int .i64 (m:Int)),(5,.int .i64 (k:Int))]) (fun _=>[]) (fun k=>1≤k∧k≤m+1∧∀n,1≤n→n<k→Lib.decDigits n≠s) (fun k=>m+1-k) 1 ⟨Nat.le_refl _,by omega,fun n h1 h2=>by omega⟩ ae rfl ?_
 rintro k ⟨h1,h2,h3⟩
 by_cases hk:k≤m
 ·have hI:=strconv_Itoa (G:=G) hP k (by omega)
  by_cases he:Lib.decDigits k=s
  ·rw[xi.2 ⟨k,h1,hk,he⟩]
   exact xw0
  ·refine xw1 ?_
   intros
   refine nxt (k+1) ⟨by omega,by omega,fun n g1 g2=> ?_⟩ (by omega) ae rfl
   rcases Nat.lt_or_eq_of_le (Nat.le_of_lt_succ g2) with h|rfl
   ·exact h3 n g1 h
   ·exact he
 ·rw[oP.2 fun n g1 g2=>h3 n g1 (by omega)]
  exact xw0
theorem BA {G:Glo}{m:Int}(hP:cQ G)(hM:ad G (bW m))(q:Pr)(hq:isS q.n=true)(h0:q.n.length≤1000000)(h1:q.vs.length≤1000000)(h2:∀k,(q.vs.getD k []).length≤3000):FnIs Tryz.prog G 61 [prA q] (.bool q.fit):=by
 have hU:=zF (G:=G) q.n (by omega)
 obtain⟨hb1,hb2⟩:=rJ hq
 unfold Pr.fit
 rw[Gh]
 obtain⟨nm,vs⟩:=q
 dsimp only at h0 h1 h2 hU hb1 hb2 ⊢
 have hnl:(aj 97 122 (-32) nm).length≤1000000:=by unfold aj;rw[List.length_map];exact h0
 clear hq
 generalize aj 97 122 (-32) nm=n at*
 have hS:=fZ (G:=G) hM sixS (32::n++[32]) (by decide)
 rw[Fx hb1 hb2] at hS
 by_cases hv:vs.length=0
 ·rw[decide_eq_false (by omega)]
  have hGL:ad G []:=ab
  refine fn_x Tryz.func61 Tryz.call61 rfl rfl rfl rfl hGL ?_
  intro C hC
  exact xw0
 rw[decide_eq_true hv]
 by_cases hs:sixB n=true∧vs.length≠1
 ·rw[hs.1] at hS ⊢
  rw[decide_eq_false hs.2]
  have hGL:ad G []:=ab
  refine fn_x Tryz.func61 Tryz.call61 rfl rfl rfl rfl hGL ?_
  intro C hC
  exact xw0
 have e1:(!sixB n||decide (vs.length=1))=true:=by
  rcases Bool.eq_false_or_eq_true (sixB n) with h|h
  ·rw[h,decide_eq_true (Classical.not_not.1 fun g=>hs ⟨h,g⟩)];rfl
  ·rw[h];rfl
 rw[e1,Bool.true_and,Bool.true_and]
 have ok1:∀{k:Nat},k<vs.length→okV n (vs.getD k [])=true→(∀j,j<k→okV n (vs.getD j [])=true)→∀j,j<k+1→okV n (vs.getD j [])=true:=fun hk h g j hj=>by
  rcases Nat.lt_or_eq_of_le (Nat.le_of_lt_succ hj) with h'|rfl
  ·exact g j h'
  ·exact h
 have hGL:ad G []:=ab
 refine fn_a Tryz.func61 Tryz.call61 rfl rfl rfl rfl ?_
 intro C hC
 refine cut hC hGL [(1,.rop [.str nm,.list 1 vs.length (aq vs)] 0)] [] True ?_ fun _=> ?_
 ·exact xw0
 refine cut hC hGL [(1,.rop [.str nm,.list 1 vs.length (aq vs)] 0)] [] True ?_ fun _=> ?_
 ·exact xw0
 refine cut hC hGL [(1,.rop [.str nm,.list 1 vs.length (aq vs)] 0),(3,.str n)] [] True ?_ fun _=> ?_
 ·exact xw0
 refine cut hC hGL [(1,.rop [.str nm,.list 1 vs.length (aq vs)] 0),(3,.str n)] [] True ?_ fun _=> ?_
 ·cases h6:sixB n with
  |true=>
   rw[h6] at hS hs
   have hl1:vs.length=1:=Classical.not_not.1 fun g=>hs ⟨rfl,g⟩
   exact xw0
  |false=>
   rw[h6] at hS
   exact xw0
 refine ap hC hGL (xw1 ?_)
 intros
 refine lp hC hGL (fun k:Nat=>[(3,.str n),(28,.list 1 vs.length (aq vs)),(29,.int .i64 (vs.length:Int)),(30,.int .i64 (k:Int))]) (fun _=>[]) (fun k=>k≤vs.length∧∀j,j<k→okV n (vs.getD j [])=true) (fun k=>vs.length-k) 0 ⟨Nat.zero_le _,fun j h=>absurd h (Nat.not_lt_zero _)⟩ ae rfl ?_
 rintro k ⟨hk1,hk2⟩
 by_cases hk:k<vs.length
 ·have hl:=h2 k
  have ok2:=fun h=>ok1 hk h hk2
  have bad:okV n (vs.getD k [])=false→vs.all (okV n)=false:=no hk
  have hLR:=jG hM (vs.getD k []) hl
  have hFI:=gF (G:=G) (b6 (vs.getD k [])).e (b6 (vs.getD k [])).p
  have hCN:=mu hP (vs.getD k []) 100 (by decide)
  have hIS:=nQ (G:=G) (vs.getD k []) (by omega)
  have hSP:=nD (G:=G) hM (vs.getD k []) 46 (by omega)
  have hCT:=fun x=>mu hP x 999 (Nat.le_refl _)
  have hlE:=zS (vs.getD k [])
  have hpE:=DO (vs.getD k [])
  have hd:okV n (vs.getD k [])=(if n=nLAN then(b6 (vs.getD k [])).isNone else if n=nPRE then cntB 100 (vs.getD k []) else if n=nTYP then isS (vs.getD k []) else if n=nPID then pidB (vs.getD k []) else true):=by unfold okV;rfl
  cases nmC n with
  |one h=>
   have e:(if n=nLAN then(b6 (vs.getD k [])).isNone else if n=nPRE then cntB 100 (vs.getD k []) else if n=nTYP then isS (vs.getD k []) else if n=nPID then pidB (vs.getD k []) else true)=true:=by rcases h with rfl|rfl|rfl|rfl<;>rfl
   have e:=ok2 (hd.trans e)
   rcases h with rfl|rfl|rfl|rfl
   all_goals
    refine xw1 ?_
    intros
    exact nxt (k+1) ⟨by omega,e⟩ (by omega) ae rfl
  |lan h=>
   subst h
   cases hc:(b6 (vs.getD k [])).isNone with
   |true=>
    rw[hc] at hlE
    rw[←hlE] at hFI
    refine xw1 ?_
    intros
    exact nxt (k+1) ⟨by omega,ok2 (by rw[hd];exact hc)⟩ (by omega) ae rfl
   |false=>
    rw[hc] at hlE
    rw[←hlE] at hFI
    rw[bad (by rw[hd];exact hc)]
    exact xw0
  |pre h=>
   subst h
   cases hc:cntB 100 (vs.getD k []) with
   |true=>
    rw[hc] at hCN
    refine xw1 ?_
    intros
    exact nxt (k+1) ⟨by omega,ok2 (by rw[hd];exact hc)⟩ (by omega) ae rfl
   |false=>
    rw[hc] at hCN
    rw[bad (by rw[hd];exact hc)]
    exact xw0
  |typ h=>
   subst h
   cases hc:isS (vs.getD k []) with
   |true=>
    rw[hc] at hIS
    refine xw1 ?_
    intros
    exact nxt (k+1) ⟨by omega,ok2 (by rw[hd];exact hc)⟩ (by omega) ae rfl
   |false=>
    rw[hc] at hIS
    rw[bad (by rw[hd];exact hc)]
    exact xw0
  |pid h=>
   subst h
   have hln:=iV 46 (vs.getD k [])
   have hpd:pidL (splS 46 (vs.getD k []))=(decide ((splS 46 (vs.getD k [])).length≤2)&&(splS 46 (vs.getD k [])).all (cntB 999)):=by unfold pidL;rfl
   rw[hpE] at hpd
   generalize splS 46 (vs.getD k [])=l at hln hpd hSP
   refine xw1 ?_
   intros
   refine lp hC hGL (fun j:Nat=>[(3,.str nPID),(6,.bool (decide (l.length≤2)&&(l.take j).all (cntB 999))),(28,.list 1 vs.length (aq vs)),(29,.int .i64 (vs.length:Int)),(30,.int .i64 (k:Int)),(55,.list 1 l.length (aq l)),(56,.int .i64 (l.length:Int)),(57,.int .i64 (j:Int))]) (fun _=>[]) (fun j=>j≤l.length) (fun j=>l.length-j) 0 (Nat.zero_le _) ⟨rfl,?_,rfl,rfl,rfl,rfl,rfl,rfl,trivial⟩ rfl ?_
   ·show Env.get _ 6=_
    rw[List.take_zero,List.all_nil,Bool.and_true]
    exact congrArg (fun z=>some (AVal.bool z)) (by unfold ltB;rw[←decide_not];exact decide_eq_decide.2 (by omega))
   intro j hj
   by_cases hjl:j<l.length
   ·have hC1:=hCT (l.getD j [])
    have e2:(l.take (j+1)).all (cntB 999)=((l.take j).all (cntB 999)&&cntB 999 (l.getD j [])):=by
     rw[List.take_succ_eq_append_getElem hjl,List.all_append,List.getD_eq_getElem?_getD,List.getElem?_eq_getElem hjl]
     simp
    cases hb:(decide (l.length≤2)&&(l.take j).all (cntB 999)) with
    |true=>
     refine xw1 ?_
     intros
     refine nxt (j+1) (by omega) (by omega) ⟨rfl,?_,rfl,rfl,rfl,rfl,rfl,rfl,trivial⟩ rfl
     rw[e2,←Bool.and_assoc,hb]
     rfl
    |false=>
     refine xw1 ?_
     intros
     refine nxt (j+1) (by omega) (by omega) ⟨rfl,?_,rfl,rfl,rfl,rfl,rfl,rfl,trivial⟩ rfl
     rw[e2,←Bool.and_assoc,hb]
     rfl
   ·obtain rfl:j=l.length:=by omega
    rw[List.take_length,←hpd]
    cases hc:pidB (vs.getD k []) with
    |true=>
     refine xw1 ?_
     intros
     exact nxt (k+1) ⟨by omega,ok2 (by rw[hd];exact hc)⟩ (by omega) ae rfl
    |false=>
     rw[bad (by rw[hd];exact hc)]
     exact xw0
  |els h3 h4 h5 h6 h7 h8 h9 h10=>
   have e:=ok2 (by rw[hd,if_neg h7,if_neg h8,if_neg h9,if_neg h10])
   refine xw1 ?_
   intros
   exact nxt (k+1) ⟨by omega,e⟩ (by omega) ae rfl
 ·rw[o7 fun j hj=>hk2 j (by omega)]
  exact xw0
end
section
open Go Go.RowKit
theorem sP {t:Int}{l:List Pr}(h:a7 valN l 0= -1):ki t l=t:=by unfold ki;rw[h,if_pos (.inl (by decide))]
theorem pL {t:Int}{l:List Pr}{k:Nat}(h:a7 valN l 0=(k:Int))(h2:(l.getD k Pr.z).vs.length=0):ki t l=t:=by unfold ki;rw[h,Int.toNat_natCast,if_pos (.inr h2)]
theorem sQ {t:Int}{l:List Pr}{k:Nat}(h:a7 valN l 0=(k:Int))(h2:(l.getD k Pr.z).vs.length≠0):ki t l=tyL t (aj 65 90 32 ((l.getD k Pr.z).vs.getD 0 [])):=by unfold ki;rw[h,Int.toNat_natCast,if_neg (by rintro(h|h);omega;exact h2 h)]
attribute [local irreducible] AWp AOps aa aA OrOk ad ah
attribute [local irreducible] aj a7 bf
theorem vS {G:Glo}(hS:SpIs G)(v:Int)(s:List UInt8)(l:List Pr)(hs:s.length≤1000000)(hl:l.length≤9223372036854775807)(hn:∀k,(l.getD k Pr.z).n.length≤9223372036854775807)(hv:∀k,(l.getD k Pr.z).vs.length≤9223372036854775807∧((l.getD k Pr.z).vs.getD 0 []).length≤9223372036854775807):
  FnIs Tryz.prog G 89 [.str s,.list 2 l.length (prF l),.int .i64 v] (.tuple [.int .i64 (eX v s l),(verE v).A]):=by
 have h1:=kG (G:=G) hS v s hs
 have h2:FnIs Tryz.prog G 26 [.list 2 l.length (prF l),.str [86,65,76,85,69]] (.int .i64 (a7 valN l 0)):=gE (G:=G) l valN hl hn (by decide)
 by_cases hver:v=3∨v=4
 ·have e2:verE v= .none:=by unfold verE;rw[if_pos hver]
  have e3:eX v s l=ki (bf v s).t l:=by unfold eX;rw[if_pos hver]
  rw[e2] at h1 ⊢
  rw[e3]
  generalize bf v s=r at*
  simp only[Err.A,errA] at h1 ⊢
  rcases iJ valN l 0 with hf|⟨k,hk,hf⟩
  ·rw[sP hf]
   rw[hf] at h2
   have hGL:ad G []:=ab
   refine fn_x Tryz.func89 Tryz.call89 rfl rfl rfl rfl hGL ?_
   intro C hC
   refine xw ?_
   repeat' (first|exact Le.n|refine Lc.mk ?_ ?_)
   all_goals intros
   all_goals intros
   all_goals first
    |(apply ak;rfl)
    |(exfalso;omega)
  ·rw[Nat.zero_add] at hf
   rw[hf] at h2
   by_cases h0:(l.getD k Pr.z).vs.length=0
   ·rw[pL hf h0]
    have hGL:ad G []:=ab
    refine fn_x Tryz.func89 Tryz.call89 rfl rfl rfl rfl hGL ?_
    intro C hC
    refine xw ?_
    repeat' (first|exact Le.n|refine Lc.mk ?_ ?_)
    all_goals intros
    all_goals intros
    all_goals first
     |(apply ak;rfl)
     |(exfalso;omega)
     |trace_state
   ·rw[sQ hf h0]
    have h3:=j3 (G:=G) ((l.getD k Pr.z).vs.getD 0 []) (by have:=(hv k).2;omega)
    have h3:FnIs Tryz.prog G 27 [aq (l.getD k Pr.z).vs 0] _:=h3
    generalize aj 65 90 32 ((l.getD k Pr.z).vs.getD 0 [])=x at*
    have hGL:ad G []:=ab
    refine fn_x Tryz.func89 Tryz.call89 rfl rfl rfl rfl hGL ?_
    intro C hC
    refine xw ?_
    repeat' (first|exact Le.n|refine Lc.mk ?_ ?_)
    all_goals intros
    all_goals intros
    all_goals try (exfalso;omega)
    all_goals
     apply ak
     refine congrArg (fun z=>AVal.tuple [.int .i64 z,.raw .nilIface]) (Eq.symm ?_)
     clear h1 h2 h3 hn hv hf hC hGL
     unfold tyL
     simp[*]
 ·have e2:verE v= .errno 1:=by unfold verE;rw[if_neg hver]
  have e3:eX v s l=0:=by unfold eX;rw[if_neg hver]
  rw[e2] at h1 ⊢
  rw[e3]
  simp only[Err.A,errA] at h1 ⊢
  have hGL:ad G []:=ab
  refine fn_x Tryz.func89 Tryz.call89 rfl rfl rfl rfl hGL ?_
  intro C hC
  refine xw ?_
  repeat' (first|exact Le.n|refine Lc.mk ?_ ?_)
  all_goals intros
  all_goals intros
  all_goals first
   |(apply ak;rfl)
   |(exfalso;omega)
theorem Bt {G:Glo}(v:Int)(s:List UInt8)(l:List Pr)(hs:s.length≤1000000)(hl:l.length≤9223372036854775807)(hn:∀k,(l.getD k Pr.z).n.length≤9223372036854775807)(hv:∀k,(l.getD k Pr.z).vs.length≤9223372036854775807∧((l.getD k Pr.z).vs.getD 0 []).length≤9223372036854775807):
  FnIs Tryz.prog G 62 [.str s,.list 2 l.length (prF l),.int .i64 v] (.tuple [.int .i64 (eX v s l),.int .i64 (verE v).e]):=by
 have h1:=kN (G:=G) v s hs
 have h2:FnIs Tryz.prog G 16 [.list 2 l.length (prF l),.str [86,65,76,85,69]] (.int .i64 (a7 valN l 0)):=tG (G:=G) l valN hl hn (by decide)
 by_cases hver:v=3∨v=4
 ·have e2:verE v= .none:=by unfold verE;rw[if_pos hver]
  have e3:eX v s l=ki (bf v s).t l:=by unfold eX;rw[if_pos hver]
  rw[e2] at h1 ⊢
  rw[e3]
  generalize bf v s=r at*
  simp only[Err.e] at h1 ⊢
  rcases iJ valN l 0 with hf|⟨k,hk,hf⟩
  ·rw[sP hf]
   rw[hf] at h2
   have hGL:ad G []:=ab
   refine fn_x Tryz.func62 Tryz.call62 rfl rfl rfl rfl hGL ?_
   intro C hC
   refine xw ?_
   repeat' (first|exact Le.n|refine Lc.mk ?_ ?_)
   all_goals intros
   all_goals intros
   all_goals first
    |(apply ak;rfl)
    |(exfalso;omega)
  ·rw[Nat.zero_add] at hf
   rw[hf] at h2
   by_cases h0:(l.getD k Pr.z).vs.length=0
   ·rw[pL hf h0]
    have hGL:ad G []:=ab
    refine fn_x Tryz.func62 Tryz.call62 rfl rfl rfl rfl hGL ?_
    intro C hC
    refine xw ?_
    repeat' (first|exact Le.n|refine Lc.mk ?_ ?_)
    all_goals intros
    all_goals intros
    all_goals first
     |(apply ak;rfl)
     |(exfalso;omega)
   ·rw[sQ hf h0]
    have h3:=f9 (G:=G) ((l.getD k Pr.z).vs.getD 0 []) (by have:=(hv k).2;omega)
    have h3:FnIs Tryz.prog G 18 [aq (l.getD k Pr.z).vs 0] _:=h3
    generalize aj 65 90 32 ((l.getD k Pr.z).vs.getD 0 [])=x at*
    have hGL:ad G []:=ab
    refine fn_x Tryz.func62 Tryz.call62 rfl rfl rfl rfl hGL ?_
    intro C hC
    refine xn ?_
    repeat' (first|exact Le.n|refine Lc.mk ?_ ?_)
    all_goals intros
    all_goals intros
    all_goals try (exfalso;omega)
    all_goals
     apply ak
     refine congrArg (fun z=>AVal.tuple [.int .i64 z,.int .i64 0]) (Eq.symm ?_)
     clear h1 h2 h3 hn hv hf hC hGL
     unfold tyL
     simp[*]
 ·have e2:verE v= .errno 1:=by unfold verE;rw[if_neg hver]
  have e3:eX v s l=0:=by unfold eX;rw[if_neg hver]
  rw[e2] at h1 ⊢
  rw[e3]
  simp only[Err.e] at h1 ⊢
  have hGL:ad G []:=ab
  refine fn_x Tryz.func62 Tryz.call62 rfl rfl rfl rfl hGL ?_
  intro C hC
  refine xw ?_
  repeat' (first|exact Le.n|refine Lc.mk ?_ ?_)
  all_goals intros
  all_goals intros
  all_goals first
   |(apply ak;rfl)
   |(exfalso;omega)
end
section
open Go Go.RowKit
theorem gx {P:Program}[Tab P]{G:Glo}{f:FuncId}{avs:List AVal}{b:Nat}{eT:Option TypeId}{cs cs':List AVal}{v:AVal}
  (hrun:∀R w Cs e fz args,w.heap[b]? =some (.cells Cs e fz)→RelL R cs Cs.toList→ik fz Cs.size→RelV R avs args.toList→∃x w' Cs',(callFunc f args).run P w= .ok (.value x) w'∧Rel R v x∧OneBlk w b (.cells Cs' e fz) w'∧RelL R cs' Cs'.toList∧Cs'.size=Cs.size):
  ah P G f avs [.cells b eT cs] (fun r H=>r= .ret v∧H=[.cells b eT cs']):=by
 intro R w args hG hm ha
 obtain⟨Cs,e,fz,hb,hl,hfz,het⟩:=hm.heap.holds _ (List.mem_cons_self ..)
 obtain⟨x,w',Cs',h1,h2,h3,h4,h5⟩:=hrun R w Cs e fz args hb hl hfz ha
 refine .inr ⟨x,w',h1,.ret v,[.cells b eT cs'],R,⟨rfl,rfl⟩,⟨x,rfl,h2⟩,?_⟩
 exact hm.write (i:=0) rfl rfl h3 rfl ⟨Cs',e,fz,h3.at_,h4,by rw[h5];exact hfz,het⟩
theorem tT {w:World}{b:Nat}{o:Obj}(h:w.heap[b]? =some o):OneBlk w b o w:=⟨rfl,rfl,rfl,rfl,h,fun _ _=>rfl⟩
theorem jW {w:World}{b off e:Nat}{Cs:Array Value}{fz:Nat×Nat}{v:Value}(h:w.heap[b]? =some (.cells Cs e fz))(ho:off<Cs.size):OneBlk w b (.cells (Cs.setIfInBounds off v) e fz) (w.setCell ⟨b,off,none⟩ v):=by
 have hlt:b<w.heap.size:=by
  rcases Nat.lt_or_ge b w.heap.size with h1|h1
  ·exact h1
  ·simp[Array.getElem?_eq_none h1] at h
 refine⟨rfl,rfl,rfl,by simp[World.setCell],?_,fun k hk=> ?_⟩
 ·simp only[World.setCell,Array.getElem?_modify,if_true,h,Option.map_some,Option.isSome_none,Bool.false_eq_true,if_false]
 ·simp only[World.setCell,Array.getElem?_modify]
  rw[if_neg (fun e=>hk e.symm)]
theorem kM {R:Seal}{a:AVal}{v:Value}(ha:RelC R a [v]):∀{cs:List AVal} {vs:List Value} {p:Nat},RelL R cs vs→p<cs.length→RelL R (cs.set p a) (vs.set p v)
 |[],_,_,_,h=>absurd h (Nat.not_lt_zero _)
 |c::cs,_,0,⟨u,t,rfl,h1,h2⟩,_=>⟨v,t,rfl,ha,h2⟩
 |c::cs,_,p+1,⟨u,t,rfl,h1,h2⟩,hp=>⟨u,_,rfl,h1,kM ha h2 (by simpa using hp)⟩
theorem arg1 {R:Seal}{v:Value}{args:Array Value}(h:RelV R [.raw v] args.toList):args=#[v]:=by
 obtain⟨x,t,e,hx,rfl⟩:=h
 obtain rfl:=an.1 (show Rel R (.raw v) x from hx)
 exact Array.ext' e
theorem arg2 {R:Seal}{v:Value}{k:IntKind}{n:Int}{args:Array Value}(h:RelV R [.raw v,.int k n] args.toList):args=#[v,.int k n]:=by
 obtain⟨x,t,e,hx,y,t2,rfl,hy,rfl⟩:=h
 obtain rfl:=an.1 (show Rel R (.raw v) x from hx)
 obtain rfl:=am.1 (show Rel R (.int k n) y from hy)
 exact Array.ext' e
theorem arg3 {R:Seal}{v:Value}{k k2:IntKind}{n m:Int}{args:Array Value}(h:RelV R [.raw v,.int k n,.int k2 m] args.toList):args=#[v,.int k n,.int k2 m]:=by
 obtain⟨x,t,e,hx,y,t2,rfl,hy,z,t3,rfl,hz,rfl⟩:=h
 obtain rfl:=an.1 (show Rel R (.raw v) x from hx)
 obtain rfl:=am.1 (show Rel R (.int k n) y from hy)
 obtain rfl:=am.1 (show Rel R (.int k2 m) z from hz)
 exact Array.ext' e
section
variable {G:Glo} {b off:Nat} {eT:Option TypeId} {cs:List AVal}
abbrev pv (b off:Nat):Value:=.pointer (some ⟨b,off,none⟩)
theorem lk {R:Seal}{w:World}{Cs:Array Value}{e:Nat}{fz:Nat×Nat}{k:IntKind}{n:Int}(hb:w.heap[b]? =some (.cells Cs e fz))(hl:RelL R cs Cs.toList)(hc:cs[off]? =some (.int k n)):w.cell? ⟨b,off,none⟩=some (.int k n)∧off<Cs.size:=by
 obtain⟨v,hv,hr⟩:=bV hl hc
 simp only[RelC,List.cons.injEq,and_true] at hr
 subst hr
 refine⟨by simp only[World.cell?,hb];simpa using hv,?_⟩
 have:=(List.getElem?_eq_some_iff.1 hv).1
 simpa using this
theorem jX {w:World}{Cs:Array Value}{e:Nat}{fz:Nat×Nat}(hb:w.heap[b]? =some (.cells Cs e fz))(hfz:ik fz Cs.size)(ho:off<Cs.size):w.frozen? ⟨b,off,none⟩=false:=by
 obtain⟨lo,hi⟩:=fz
 simp only[World.frozen?,hb,ik] at hfz ⊢
 simp
 omega
theorem EJ {n:Int}(hc:cs[off]? =some (.int .u32 n)):ah Tryz.prog G 206 [.raw (pv b off)] [.cells b eT cs] (fun r H=>r= .ret (.int .u32 n)∧H=[.cells b eT cs]):=by
 refine gx fun R w Cs e fz args hb hl hfz ha=> ?_
 obtain rfl:=arg1 ha
 obtain⟨h1,_⟩:=lk hb hl hc
 exact⟨_,_,Cs,run_call_load Tryz.func206 (by kernel_rfl) (by kernel_rfl) (by kernel_rfl) .u32 (by kernel_rfl) h1,am.2 rfl,tT hb,hl,rfl⟩
theorem Da {n y:Int}(hc:cs[off]? =some (.int .u32 n)):ah Tryz.prog G 225 [.raw (pv b off),.int .u32 y] [.cells b eT cs] (fun r H=>r= .ret (.tuple [])∧H=[.cells b eT (cs.set off (.int .u32 y))]):=by
 refine gx fun R w Cs e fz args hb hl hfz ha=> ?_
 obtain rfl:=arg2 ha
 obtain⟨h1,ho⟩:=lk hb hl hc
 have hlen:=ay hl
 rw[Array.length_toList] at hlen
 refine⟨_,_,Cs.setIfInBounds off (.int .u32 y),run_call_store Tryz.func225 (by kernel_rfl) (by kernel_rfl) (by kernel_rfl) (by kernel_rfl) h1 (jX hb hfz ho),⟨⟨#[],rfl,rfl⟩,rfl⟩,jW hb ho,?_,by simp⟩
 rw[Array.toList_setIfInBounds]
 exact kM (show RelC R (.int .u32 y) [.int .u32 y] from rfl) hl (by omega)
theorem GB {n y:Int}(hc:cs[off]? =some (.int .i32 n)):ah Tryz.prog G 232 [.raw (pv b off),.int .i32 n,.int .i32 y] [.cells b eT cs] (fun r H=>r= .ret (.bool true)∧H=[.cells b eT (cs.set off (.int .i32 y))]):=by
 refine gx fun R w Cs e fz args hb hl hfz ha=> ?_
 obtain rfl:=arg3 ha
 obtain⟨h1,ho⟩:=lk hb hl hc
 have hlen:=ay hl
 rw[Array.length_toList] at hlen
 refine⟨_,_,Cs.setIfInBounds off (.int .i32 y),run_call_cas_hit Tryz.func232 (by kernel_rfl) (by kernel_rfl) (by kernel_rfl) .i32 (by kernel_rfl) h1 (jX hb hfz ho),aH.2 rfl,jW hb ho,?_,by simp⟩
 rw[Array.toList_setIfInBounds]
 exact kM (show RelC R (.int .i32 y) [.int .i32 y] from rfl) hl (by omega)
theorem GA (hc:cs[off]? =some (.int .i32 1)):ah Tryz.prog G 237 [.raw (pv b off),.int .i32 (-1)] [.cells b eT cs] (fun r H=>r= .ret (.int .i32 0)∧H=[.cells b eT (cs.set off (.int .i32 0))]):=by
 refine gx fun R w Cs e fz args hb hl hfz ha=> ?_
 obtain rfl:=arg2 ha
 obtain⟨h1,ho⟩:=lk hb hl hc
 have hlen:=ay hl
 rw[Array.length_toList] at hlen
 refine⟨_,_,Cs.setIfInBounds off (.int .i32 0),run_call_add Tryz.func237 (by kernel_rfl) (by kernel_rfl) (by kernel_rfl) .i32 (by kernel_rfl) (s:=0) h1 (jX hb hfz ho) (by simp[go_sem];rfl),am.2 rfl,jW hb ho,?_,by simp⟩
 rw[Array.toList_setIfInBounds]
 exact kM (show RelC R (.int .i32 0) [.int .i32 0] from rfl) hl (by omega)
end
end
section
open Go Go.RowKit
theorem gh {P:Program}[Tab P]{G:Glo}{GL:List (Nat×List AVal)}{n:Nat}{H:Heap}{v:Value}(i:Nat){f:FuncId}{fn:Func}{c:Code}{avs:List AVal}{Qf:ARes→Heap→Prop}{rs:List ResultVar}(hf:P.funcs[f]? =some fn)
  (hc:∀args w,(callFunc f args).run P w= .ok (.enter f args) w) (hb:fn.body=some c) (hn:fn.ntmps=n) (hrs:fn.results=rs.toArray) (hlen:Nat.ble (AVal.raw v::avs).length n=true) (hGL:ad G GL) (hv:vAgg v=false)
  (h:∀C:Ctx,C.G=G→dG P C n G GL c ((0,.own i v)::di 0 (.raw v::avs)) H (RetX P rs Qf)):ah P G f (.raw v::avs) H Qf:=
 k8 hf hb hc hn hrs hlen fun w0 R0 hG=>(tQ (C:=⟨w0,R0,blks H,G,hG,[]⟩) (k:=0) i rfl hGL hv rfl (h ⟨w0,R0,blks H,G,hG,[]⟩ rfl)).mono fun _ _ _ q=>fI q
section
variable {P:Program} [Tab P] {C:Ctx} {n:Nat} {env:Env} {H:Heap} {G:Glo} {x:Operand} {S T u:TypeId} {xS xT xu:TI}
theorem Bg {i j b off:Nat}{eT:Option TypeId}{cs:List AVal}{a:AVal}(hx:ai env x=some (.own i (pv b off)))(hj:H[j]? =some (.cells b eT cs))(hc:cs[off]? =some a)(h1:tab P S=some xS)(h2:xS.desc= .pointer u)(h3:tab P T=some xT)(h4:xT.desc= .unsafePointer)(h5:tab P u=some xu)(h6:Nat.ble 1 xu.size=true):
  RunV P C H env (.convert S T x) (.raw (pv b off)):=by
 intro R ρ w hm hf dst t p af g
 obtain⟨Cs,el,fz,hb,hl,_⟩:=eR hm hj
 obtain⟨v,hv,_⟩:=bV hl hc
 have hcell:w.cell? ⟨b,off,none⟩=some v:=by simp only[World.cell?,hb];simpa using hv
 obtain⟨iu,hiu,his,_⟩:=du h5
 have h6:=Nat.le_of_ble_eq_true h6
 have hr:=run_convert_to_unsafe (P:=P) (src:=S) (dst:=T) (by rw[a6 h1,h2]) (by rw[a6 h3,h4]) (by rw[hiu];simp[his];omega) hcell
 exact⟨_,by simp only[execOp,(aL.1 (hf _ _ hx)).1,Sem.run_bind,hr,Result.andThen_ok,Sem.run_pure],an.2 rfl⟩
end
section
variable {G:Glo}
theorem qf {f:FuncId}(h:∀w,(callFunc f #[]).run Tryz.prog w= .ok (.value (.tuple #[])) w):FnIs Tryz.prog G f [] (.tuple []):=by
 intro R w args hG hm ha
 have e:args=#[]:=by
  have:args.toList=[]:=ha
  exact Array.ext' this
 subst e
 exact .inr ⟨_,w,h w,_,[],R,⟨rfl,rfl⟩,⟨_,rfl,⟨#[],rfl,rfl⟩,rfl⟩,hm⟩
theorem mz {f:FuncId}{a:Addr}(h:∀w,(callFunc f #[.pointer (some a)]).run Tryz.prog w= .ok (.value (.tuple #[])) w):FnIs Tryz.prog G f [.raw (.pointer (some a))] (.tuple []):=by
 intro R w args hG hm ha
 obtain rfl:=arg1 ha
 exact .inr ⟨_,w,h w,_,[],R,⟨rfl,rfl⟩,⟨_,rfl,⟨#[],rfl,rfl⟩,rfl⟩,hm⟩
theorem ga:FnIs Tryz.prog G 231 [] (.tuple []):=qf fun w=>run_call_mark0 Tryz.func231 (by kernel_rfl) (by kernel_rfl) (by kernel_rfl) .disable (by kernel_rfl) w
theorem iZ:FnIs Tryz.prog G 233 [] (.tuple []):=qf fun w=>run_call_mark0 Tryz.func233 (by kernel_rfl) (by kernel_rfl) (by kernel_rfl) .enable (by kernel_rfl) w
theorem nU (a:Addr):FnIs Tryz.prog G 234 [.raw (.pointer (some a))] (.tuple []):=mz fun w=>run_call_marked Tryz.func234 (by kernel_rfl) (by kernel_rfl) (by kernel_rfl) .acquire (by kernel_rfl) a w
theorem nT (a:Addr):FnIs Tryz.prog G 236 [.raw (.pointer (some a))] (.tuple []):=mz fun w=>run_call_marked Tryz.func236 (by kernel_rfl) (by kernel_rfl) (by kernel_rfl) .releaseMerge (by kernel_rfl) a w
attribute [local irreducible] AWp AOps aa aA OrOk ad ah
theorem Cg {b off:Nat}{eT:Option TypeId}{cs:List AVal}(hc:cs[off]? =some (.int .i32 0)):ah Tryz.prog G 223 [.raw (pv b off)] [.cells b eT cs] (fun r H=>r= .ret (.tuple [])∧H=[.cells b eT (cs.set off (.int .i32 1))]):=by
 have hGL:ad G []:=ab
 have e1:=GB (G:=G) (b:=b) (eT:=eT) (y:=1) hc
 have hlt:=(List.getElem?_eq_some_iff.1 hc).1
 refine gh 0 Tryz.func223 Tryz.call223 rfl rfl rfl rfl hGL rfl ?_
 intro C hC
 repeat' (first|(conv=>whnf);first|refine .w ?_|refine .v ?_|refine sc_c ?_ ?_<;>(intro hb;try exact dd hb)|apply ao|apply aG|(apply sc_i<;>intro hb)|(apply bx_i;intro hbd)|(apply ax;first|exact ga|exact iZ|exact e1)|(apply aw (i:=0) rfl;first|exact ga|exact iZ|exact e1)|(apply ab_i;intro bl)|(apply as_i;intro va vk vc hva)|(apply av_i;intro v)|(apply ac_i;intro bl cap hcap)|apply bo_l|(apply nx_i<;>intro hnx)|apply dw_q mixed hC hGL (by kernel_rfl)|(apply cq;assumption;(first|exact ga|exact iZ|exact e1);exact rfl)|(show Rt _ _ _;exact rt_w)|fail)
 all_goals try conv=>whnf
 refine aF hC hGL (Bg (j:=0) rfl rfl (List.getElem?_set_self hlt) rfl rfl rfl rfl rfl rfl) rfl rfl ?_
 repeat' (first|(conv=>whnf);first|refine .w ?_|refine .v ?_|refine sc_c ?_ ?_<;>(intro hb;try exact dd hb)|apply ao|apply aG|(apply sc_i<;>intro hb)|(apply bx_i;intro hbd)|(apply ax;first|exact nU _)|(apply aw (i:=0) rfl;first|exact nU _)|(apply ab_i;intro bl)|(apply as_i;intro va vk vc hva)|(apply av_i;intro v)|(apply ac_i;intro bl cap hcap)|apply bo_l|(apply nx_i<;>intro hnx)|apply dw_q mixed hC hGL (by kernel_rfl)|(apply cq;assumption;(first|exact nU _);exact rfl)|(show Rt _ _ _;exact rt_w)|fail)
 all_goals try conv=>whnf
theorem wD {b off:Nat}{eT:Option TypeId}{cs:List AVal}(hc:cs[off]? =some (.int .i32 1)):ah Tryz.prog G 224 [.raw (pv b off)] [.cells b eT cs] (fun r H=>r= .ret (.tuple [])∧H=[.cells b eT (cs.set off (.int .i32 0))]):=by
 have hGL:ad G []:=ab
 have e1:=GA (G:=G) (b:=b) (eT:=eT) hc
 refine gh 0 Tryz.func224 Tryz.call224 rfl rfl rfl rfl hGL rfl ?_
 intro C hC
 refine xw1 ?_
 intros
 erw[hc]
 refine xw1 ?_
 intros
 refine aF hC hGL (Bg (j:=0) rfl rfl hc rfl rfl rfl rfl rfl rfl) rfl rfl ?_
 repeat' (first|(conv=>whnf);first|refine .w ?_|refine .v ?_|refine sc_c ?_ ?_<;>(intro hb;try exact dd hb)|apply ao|apply aG|(apply sc_i<;>intro hb)|(apply bx_i;intro hbd)|(apply ax;first|exact nT _|exact ga|exact iZ|exact e1)|(apply aw (i:=0) rfl;first|exact nT _|exact ga|exact iZ|exact e1)|(apply ab_i;intro bl)|(apply as_i;intro va vk vc hva)|(apply av_i;intro v)|(apply ac_i;intro bl cap hcap)|apply bo_l|(apply nx_i<;>intro hnx)|apply dw_q mixed hC hGL (by kernel_rfl)|(apply cq;assumption;(first|exact nT _|exact ga|exact iZ|exact e1);exact rfl)|(show Rt _ _ _;exact rt_w)|fail)
 all_goals try conv=>whnf
theorem lock {b off:Nat}{eT:Option TypeId}{cs:List AVal}(hc:cs[off]? =some (.int .i32 0)):ah Tryz.prog G 207 [.raw (pv b off)] [.cells b eT cs] (fun r H=>r= .ret (.tuple [])∧H=[.cells b eT (cs.set off (.int .i32 1))]):=by
 have hGL:ad G []:=ab
 have e1:=Cg (G:=G) (b:=b) (eT:=eT) hc
 refine gh 0 Tryz.func207 Tryz.call207 rfl rfl rfl rfl hGL rfl ?_
 intro C hC
 exact xw0
theorem Fq {b off:Nat}{eT:Option TypeId}{cs:List AVal}(hc:cs[off]? =some (.int .i32 1))(m:AMode):fJ Tryz.prog G 208 [.own 0 (pv b off)] m [.cells b eT cs] (fun r m' H=>m'=m∧r= .ret (.tuple [])∧H=[.cells b eT (cs.set off (.int .i32 0))]):=by
 have hGL:ad G []:=ab
 have e1:=wD (G:=G) (b:=b) (eT:=eT) hc
 refine yU (rs:=[]) (GL:=[]) Tryz.func208 rfl rfl rfl rfl hGL ?_
 intro C hC
 exact xw0
theorem qH {b off:Nat}{eT:Option TypeId}{cs:List AVal}{n:Int}(hc:cs[off]? =some (.int .u32 n)):ah Tryz.prog G 179 [.raw (pv b off)] [.cells b eT cs] (fun r H=>r= .ret (.bool (!eqB n 0))∧H=[.cells b eT cs]):=by
 have hGL:ad G []:=ab
 have e1:=EJ (G:=G) (b:=b) (eT:=eT) hc
 refine gh 0 Tryz.func179 Tryz.call179 rfl rfl rfl rfl hGL rfl ?_
 intro C hC
 exact xw0
theorem vh:FnIs Tryz.prog G 226 [.bool true] (.int .u32 1):=by
 have hGL:ad G []:=ab
 refine fn_x Tryz.func226 Tryz.call226 rfl rfl rfl rfl hGL ?_
 intro C hC
 exact xw0
theorem xz {b off:Nat}{eT:Option TypeId}{cs:List AVal}{n:Int}(hc:cs[off]? =some (.int .u32 n))(m:AMode):fJ Tryz.prog G 209 [.own 0 (pv b off),.bool true] m [.cells b eT cs] (fun r m' H=>m'=m∧r= .ret (.tuple [])∧H=[.cells b eT (cs.set off (.int .u32 1))]):=by
 have hGL:ad G []:=ab
 have e1:=Da (G:=G) (b:=b) (eT:=eT) (y:=1) hc
 refine yU (rs:=[]) (GL:=[]) Tryz.func209 rfl rfl rfl rfl hGL ?_
 intro C hC
 refine xn1 ?_
 intros
 refine dw_p mixed hC hGL false (fun(_:Unit)=>[]) (fun _=>[.cells b eT (cs.set off (.int .u32 1))]) (.take 0 (.take 1 (.take 2 (.take 3 (.br 4 (.br 5 (.done) (.nil)) (.nil)))))) (by kernel_rfl) ?_ ?_
 ·repeat' (first|(conv=>whnf);first|refine .w ?_|refine .v ?_|refine sc_c ?_ ?_<;>(intro hb;try exact dd hb)|apply ao|apply aG|(apply sc_i<;>intro hb)|(apply bx_i;intro hbd)|(apply ax;first|exact e1|exact vh)|(apply aw (i:=0) rfl;first|exact e1|exact vh)|(apply ab_i;intro bl)|(apply as_i;intro va vk vc hva)|(apply av_i;intro v)|(apply ac_i;intro bl cap hcap)|apply bo_l|(apply nx_i<;>intro hnx)|exact True.intro|(apply bc_i;intro C hC)|apply bt_i|apply og_n|(apply og_a;exact rfl)|(show Rt _ _ _;exact rt_w)|fail)
  all_goals try conv=>whnf
  all_goals exact⟨(),trivial,rfl⟩
 ·intro _
  exact xn0
end
end
section
open Go Go.RowKit
theorem EF {P:Program}{C:Ctx}{n:Nat}{c:Code}{env:Env}{H:Heap}{Q:List Deferred→AExit→Env→Heap→Prop}{k:Nat}(i:Nat){v:Value}(hv:vAgg v=false)(hk:Env.get env k=some (.raw v))(h:AWpD P C n c ((k,.own i v)::env) H Q):AWpD P C n c env H Q:=
 fun R a w hm hf=>h R a w hm (oD hv hk hf)
theorem sk {P:Program}[Tab P]{G:Glo}{f:FuncId}{avs:List AVal}{H H':Heap}{v:AVal}{K Kp:AVal→Heap→Prop}(hs:ah P G f avs H (fun r H2=>r= .ret v∧H2=H'))(k:K v H'):Cx P G f avs H K Kp:=by
 refine⟨_,hs,?_,?_⟩
 ·rintro v' H2 ⟨e,rfl⟩;cases e;exact k
 ·rintro v' H2 ⟨e,rfl⟩;cases e
attribute [local irreducible] AWp AOps aa aA OrOk ad ah
attribute [local irreducible] fJ Lv AWpD To
theorem zK {G:Glo}{b off fid:Nat}{eT:Option TypeId}{cs:List AVal}{T:Heap}{Y:Type}{cs2:Y→List AVal}{T2:Y→Heap}{l1 l2:List AVal}(h0:cs[off]? =some (.int .u32 0))(h1:cs[off+1]? =some (.int .i32 0))(k0:∀y,(cs2 y)[off]? =some (.int .u32 0))(k1:∀y,(cs2 y)[off+1]? =some (.int .i32 1))
  (hf:ah Tryz.prog G fid (dI (l1++([]++l2))) (.cells b eT (cs.set (off+1) (.int .i32 1))::T) (fun r H=>∃y,r= .ret (.tuple [])∧H= .cells b eT (cs2 y)::T2 y)):
  ah Tryz.prog G 180 [.raw (pv b off),.func (.func fid) l1 l2] (.cells b eT cs::T) (fun r H=>∃y,r= .ret (.tuple [])∧H= .cells b eT (((cs2 y).set off (.int .u32 1)).set (off+1) (.int .i32 0))::T2 y):=by
 have hGL:ad G []:=ab
 have e1:=lock (G:=G) (b:=b) (eT:=eT) h1
 have h0':(cs.set (off+1) (.int .i32 1))[off]? =some (.int .u32 0):=by rw[List.getElem?_set_ne (by omega)];exact h0
 have e2:=qH (G:=G) (b:=b) (eT:=eT) h0'
 refine fn_d (rs:=[]) Tryz.func180 Tryz.call180 rfl rfl rfl rfl ?_
 intro C hC hD
 refine EF (k:=0) (v:=pv b off) 0 rfl rfl ?_
 refine gT (iQ hC hGL ?_)
 refine xw1 ?_
 intros
 rw[aR]
 refine xw1 ?_
 intros
 refine gT (qL hC hGL rfl ?_)
 refine xw1 ?_
 intros
 refine⟨_,rfl,?_⟩
 refine(fun(h:∀C2:Ctx,C2.G=G→C2.D=[{target:=.fn (.func 208) #[],args:=#[pv b (off+1)]}]→AWpD Tryz.prog C2 _ _ _ _ _)=>h (withD C ({target:=.fn (.func 208) #[],args:=#[pv b (off+1)]}::C.D)) hC (by show _::C.D=_;rw[hD])) ?_
 clear hC hD C
 intro C hC hD
 refine gT (iQ hC hGL ?_)
 refine xw1 ?_
 intros
 rw[aR]
 refine xw1 ?_
 intros
 refine C7 rfl (fun _=> ?_) (fun hb=>absurd hb (by simp[eqB]))
 refine gT (qL hC hGL rfl ?_)
 refine xw1 ?_
 intros
 refine⟨_,rfl,?_⟩
 refine iQ (P:=Tryz.prog) (C:=withD C ({target:=.fn (.func 209) #[],args:=#[pv b off,.bool true]}::C.D)) (G:=G) hC hGL ?_
 refine xw1 ?_
 intros
 rw[bE]
 refine⟨_,hf,?_,fun v' H2 ⟨y,e,_⟩=>by cases e⟩
 rintro v' H2 ⟨y,e,rfl⟩
 cases e
 show Lv Tryz.prog _ _ _ _ ({target:=.fn (.func 209) #[],args:=#[pv b off,.bool true]}::C.D) _ _ _
 rw[hD]
 refine yp (CE (T2 y) (xz (k0 y) .ret)) (fun R=>⟨_,_,rfl,aL.2 ⟨rfl,rfl⟩,_,_,rfl,aH.2 rfl,rfl⟩) Tryz.call209 ?_
 have k1':((cs2 y).set off (.int .u32 1))[off+1]? =some (.int .i32 1):=by rw[List.getElem?_set_ne (by omega)];exact k1 y
 refine yp (CE (T2 y) (Fq k1' .ret)) (fun R=>⟨_,_,rfl,aL.2 ⟨rfl,rfl⟩,rfl⟩) Tryz.call208 ?_
 refine FY (P:=Tryz.prog) ?_
 exact⟨_,List.Sublist.refl _,y,rfl,rfl⟩
theorem yl {G:Glo}{b off fid:Nat}{eT:Option TypeId}{cs:List AVal}{T:Heap}{Y:Type}{cs2:Y→List AVal}{T2:Y→Heap}{l1 l2:List AVal}(h0:cs[off]? =some (.int .u32 0))(h1:cs[off+1]? =some (.int .i32 0))(k0:∀y,(cs2 y)[off]? =some (.int .u32 0))(k1:∀y,(cs2 y)[off+1]? =some (.int .i32 1))
  (hl1:dI l1=l1) (hl2:dI l2=l2)
  (hf:ah Tryz.prog G fid (dI (l1++([]++l2))) (.cells b eT (cs.set (off+1) (.int .i32 1))::T) (fun r H=>∃y,r= .ret (.tuple [])∧H= .cells b eT (cs2 y)::T2 y)):
  ah Tryz.prog G 148 [.raw (pv b off),.func (.func fid) l1 l2] (.cells b eT cs::T) (fun r H=>∃y,r= .ret (.tuple [])∧H= .cells b eT (((cs2 y).set off (.int .u32 1)).set (off+1) (.int .i32 0))::T2 y):=by
 have hGL:ad G []:=ab
 have e1:=qH (G:=G) (b:=b) (eT:=eT) h0
 have e2:=zK h0 h1 k0 k1 hf
 refine gh 0 Tryz.func148 Tryz.call148 rfl rfl rfl rfl hGL rfl ?_
 intro C hC
 refine xw1 ?_
 intros
 rw[aR]
 refine xw1 ?_
 intros
 rw[show fW (.func (.func fid) l1 l2)= .func (.func fid) l1 l2 by simp[fW,hl1,hl2]]
 refine⟨_,e2,?_,fun v' H2 ⟨y,e,_⟩=>by cases e⟩
 rintro v' H2 ⟨y,e,rfl⟩
 cases e
 exact⟨_,List.Sublist.refl _,y,rfl,rfl⟩
end
section
open Go Go.RowKit
theorem BX (v:Value)(n:Nat):(madeCells #[v] n).toList=List.replicate n v:=by
 unfold madeCells
 refine List.ext_getElem (by simp) (fun i h1 h2=> ?_)
 simp[Nat.mod_one]
section
variable {P:Program} [Tab P] {C:Ctx} {n:Nat} {env:Env} {H:Heap} {Q:AExit→Env→Heap→Prop} {ops:Array Oper} {rest:List Oper} {G:Glo} {GL:List (Nat×List AVal)}
variable {d:Nat} {t:TypeId} {p:String} {af:Array Edge} {g:Option (Nat×Bool)} {b:Bool}
variable {x y:Operand} {T e:TypeId} {xT xe:TI}
theorem mq {ρ:Operand→Value}{w w':World}{a c u:Value}(ha:ρ x=a)(hc:ρ y=c)(hr:(Instr.makeSlice T a c).run P w= .ok u w'):
  (execOp ρ {dst:=some d,op:=.makeSlice T x y,type:=t,pos:=p,after:=af,guard:=g}).run P w= .ok (.value u) w':=by
 simp only[execOp,ha,hc,Sem.run_bind,hr,Result.andThen_ok,Sem.run_pure]
theorem dL {k1 k2:IntKind}{m:Nat}(hC:C.G=G)(hGL:ad G GL)(hx:ai env x=some (.int k1 (m:Int)))(hy:ai env y=some (.int k2 (m:Int)))(hm0:m≤1000000000000)(ht:tab P T=some xT)(hd:xT.desc= .slice e)(he:tab P e=some xe)(hz:xe.zero=some (.int .u8 0))(hs:xe.size=1)(hb:xe.bytes=1)
  (hg:aI ops env g=some (b,b)) (hdn:Nat.ble (d+1) n=true)
  (k:∀bl,opsX P C n G GL ops Q rest ((d,.own H.length (.slice (some ⟨bl,0,none⟩) m m))::env) (H++[.buf bl (List.replicate m 0) m])):
  Op1 P C n ops ({dst:=some d,op:=.makeSlice T x y,type:=t,pos:=p,after:=af,guard:=g}::rest) env H Q:=by
 refine⟨db (X:=Nat) (av:=fun bl=>.raw (.slice (some ⟨bl,0,none⟩) m m)) (H':=fun bl=>.buf bl (List.replicate m 0) m::H) hg rfl hdn (fun R ρ w hm hf=> ?_)
  (fun bl=>gW (cI (i:=H.length) rfl (ct hC hGL _ _ _ (k bl))))⟩
 obtain⟨i,hi,his,hib,hiz,_⟩:=du he
 have hr:=run_make (P:=P) w T e i (.int .u8 0) (by rw[a6 ht,hd]) hi (by rw[hiz,hz]) k1 k2 (m:Int) (m:Int) (by omega) (by omega) (by rw[hib,hb];omega) (by omega)
 simp only[Int.toNat_natCast] at hr
 have hrun:=mq (d:=d) (t:=t) (p:=p) (af:=af) (g:=g) (am.1 (hf _ _ hx)) (am.1 (hf _ _ hy)) hr
 refine⟨w.heap.size,_,_,R,hrun,Seal.le_refl R,an.2 rfl,?_⟩
 ·rw[gL]
  refine hm.alloc _ _ rfl ⟨by simp,_,_,_,cN w _,?_,.inl (Nat.le_refl _)⟩
  rw[his,hs,Nat.mul_one,show(Value.int .u8 0).cells=#[.int .u8 0] from rfl,BX]
  have:ownB (List.replicate m 0) m=List.replicate m (.int .u8 0):=by simp[ownB,byteA]
  rw[this]
  exact e7 (show RelC R (.int .u8 0) [.int .u8 0] from rfl) _
theorem p9 {k1 k2:IntKind}{m:Nat}(hC:C.G=G)(hGL:ad G GL)(hx:ai env x=some (.int k1 0))(hy:ai env y=some (.int k2 (m:Int)))(hm0:m≤1000000000)(ht:tab P T=some xT)(hd:xT.desc= .slice e)(he:tab P e=some xe){z:Value}(hz:xe.zero=some z)(hb:Nat.ble xe.bytes 1024=true)
  (hg:aI ops env g=some (b,b)) (hdn:Nat.ble (d+1) n=true)
  (k:∀bl,opsX P C n G GL ops Q rest ((d,.own H.length (.slice (some ⟨bl,0,none⟩) 0 m))::env) (H++[.row (.slice (some ⟨bl,0,none⟩) 0 m) (some e) xe.size 0 []])):
  Op1 P C n ops ({dst:=some d,op:=.makeSlice T x y,type:=t,pos:=p,after:=af,guard:=g}::rest) env H Q:=by
 refine⟨db (X:=Nat) (av:=fun bl=>.raw (.slice (some ⟨bl,0,none⟩) 0 m)) (H':=fun bl=>.row (.slice (some ⟨bl,0,none⟩) 0 m) (some e) xe.size 0 []::H) hg rfl hdn (fun R ρ w hm hf=> ?_)
  (fun bl=>gW (cI (i:=H.length) rfl (ct hC hGL _ _ _ (k bl))))⟩
 obtain⟨i,hi,his,hib,hiz,_⟩:=du he
 have hb:=Nat.le_of_ble_eq_true hb
 have hmul:xe.bytes*m≤1024*1000000000:=Nat.mul_le_mul hb hm0
 have hr:=run_make (P:=P) w T e i z (by rw[a6 ht,hd]) hi (by rw[hiz,hz]) k1 k2 0 (m:Int) (by omega) (by omega) (by rw[hib,←Int.natCast_mul];omega) (by omega)
 simp only[Int.toNat_natCast,Int.toNat_zero] at hr
 have hrun:=mq (d:=d) (t:=t) (p:=p) (af:=af) (g:=g) (am.1 (hf _ _ hx)) (am.1 (hf _ _ hy)) hr
 refine⟨w.heap.size,_,_,R,hrun,Seal.le_refl R,an.2 rfl,?_⟩
 ·rw[gL]
  refine hm.alloc _ _ rfl ⟨by simp,.inr ⟨_,_,_,_,_,rfl,cN w _,?_,Nat.zero_le _,?_,.inl (Nat.le_refl _),fun t ht=>by cases ht;rfl⟩⟩
  ·rw[size_madeCells,his]
  ·simp[RelL]
end
end
section
open Go Go.RowKit
section
variable {P:Program} [Tab P] {C:Ctx} {n:Nat} {env:Env} {H:Heap} {Q:AExit→Env→Heap→Prop} {ops:Array Oper} {rest:List Oper} {G:Glo} {GL:List (Nat×List AVal)}
variable {d:Nat} {t:TypeId} {p:String} {af:Array Edge} {g:Option (Nat×Bool)} {b:Bool}
variable {x y:Operand} {T T2 e:TypeId} {xT xe:TI}
theorem BG {s s2:List UInt8}{cap o:Nat}(ho:o+s2.length≤s.length)(hc:s.length≤cap):
  ownB (s.take o++s2++s.drop (o+s2.length)) cap=(ownB s cap).take o++s2.map byteA++(ownB s cap).drop (o+s2.length):=by
 have e:(s.take o++s2++s.drop (o+s2.length)).length=s.length:=by
  simp only[List.length_append,List.length_take,List.length_drop];omega
 unfold ownB
 rw[e,List.map_append,List.map_append,List.map_take,List.map_drop]
 rw[List.take_append_of_le_length (by simp;omega),List.drop_append_of_le_length (by simp;omega),←List.append_assoc]
theorem tj {ρ:Operand→Value}{ty:TypeId}{w w':World}{a c u:Value}(ha:ρ x=a)(hc:ρ y=c)(hr:(Builtin.copy_ #[T,T2] t #[a,c]).run P w= .ok u w'):
  (execOp ρ {dst:=some d,op:=.call {callee:=.builtin .copy,args:=#[x,y],argTypes:=#[T,T2]},type:=t,pos:=p,after:=af,guard:=g}).run P w= .ok (.value u) w':=by
 simp only[execOp,resolve,Sem.run_bind,Sem.run_pure,Result.andThen_ok,invoke,List.map_toArray,List.map_cons,List.map_nil,ha,hc]
 simp only[builtin,Sem.run_bind,hr,Result.andThen_ok,Sem.run_pure]
theorem aN {i j bl o l c b2 c2 cap cap2:Nat}{s s2:List UInt8}(hC:C.G=G)(hGL:ad G GL)(hx:ai env x=some (.own i (.slice (some ⟨bl,o,none⟩) l c)))(hy:ai env y=some (.own j (.slice (some ⟨b2,0,none⟩) s2.length c2)))
  (hi:H[i]? =some (.buf bl s cap)) (hj:H[j]? =some (.buf b2 s2 cap2)) (ho:o+s2.length≤s.length) (hl:s2.length≤l) (ht:tab P T=some xT) (hd:xT.desc= .slice e) (he:tab P e=some xe) (hs:xe.size=1)
  (hg:aI ops env g=some (b,b)) (hdn:Nat.ble (d+1) n=true)
  (k:opsX P C n G GL ops Q rest ((d,.int .i64 s2.length)::env) (H.set i (.buf bl (s.take o++s2++s.drop (o+s2.length)) cap))):
  Op1 P C n ops ({dst:=some d,op:=.call {callee:=.builtin .copy,args:=#[x,y],argTypes:=#[T,T2]},type:=t,pos:=p,after:=af,guard:=g}::rest) env H Q:=by
 refine⟨mj hg rfl hdn (av:=.int .i64 s2.length) (H':=H.set i (.buf bl (s.take o++s2++s.drop (o+s2.length)) cap)) (fun R ρ w hm hf=> ?_) (ct hC hGL _ _ _ k)⟩
 obtain⟨hcap,Cs,e1,fz,hb,hrel,hfz⟩:=hm.heap.holds _ (List.mem_of_getElem? hi)
 obtain⟨hcap2,Cs2,e2,fz2,hb2,hrel2,hfz2⟩:=hm.heap.holds _ (List.mem_of_getElem? hj)
 have hlen:=ay hrel
 have hown:(ownB s cap).length=cap:=by simp[ownB];omega
 rw[hown,Array.length_toList] at hlen
 obtain⟨ti,hti,his,_,_,_⟩:=du he
 have hn1:(s2.map fun c=>Value.int .u8 (c.toNat:Int)).length=s2.length:=by simp
 have hone:∀v∈s2.map (fun c=>Value.int .u8 (c.toNat:Int)),v.oneCell'=true:=by
  intro v hv
  obtain⟨c,_,rfl⟩:=List.mem_map.1 hv
  rfl
 have hcell:∀j,j<(s2.map fun c=>Value.int .u8 (c.toNat:Int)).length→(w.cell? ⟨bl,o+j,none⟩).isSome=true:=by
  intro j hj
  rw[hn1] at hj
  simp only[World.cell?,hb]
  simp
  omega
 have hfro:∀j,j<(s2.map fun c=>Value.int .u8 (c.toNat:Int)).length→w.frozen? ⟨bl,o+j,none⟩=false:=by
  intro j hj
  rw[hn1] at hj
  obtain⟨lo,hi'⟩:=fz
  simp only[World.frozen?,hb,ik] at hfz ⊢
  simp
  omega
 have hsrc:∀j v,(s2.map fun c=>Value.int .u8 (c.toNat:Int))[j]? =some v→w.cell? ((⟨b2,0,none⟩:Addr).add j)=some v:=by
  intro j v hv
  have hj2:j<s2.length:=by
   have:=(List.getElem?_eq_some_iff.1 hv).1
   simpa using this
  rw[List.getElem?_map,List.getElem?_eq_getElem hj2] at hv
  simp only[Option.map_some,Option.some.injEq] at hv
  have hg2:(ownB s2 cap2)[j]? =some (byteA s2[j]):=by
   unfold ownB
   rw[List.getElem?_append_left (by simpa using hj2),List.getElem?_map,List.getElem?_eq_getElem hj2]
   rfl
  obtain⟨u,hu,hr⟩:=bV hrel2 hg2
  simp only[byteA,RelC,List.cons.injEq,and_true] at hr
  subst hr
  subst hv
  have hadd:(⟨b2,0,none⟩:Addr).add j=⟨b2,j,none⟩:=by
   simp only[Addr.add]
   by_cases h0:j=0
   ·simp[h0]
   ·simp[h0]
  rw[hadd]
  simp only[World.cell?,hb2]
  simpa using hu
 have hr:=run_copy_cells (P:=P) w T T2 t e bl o l c ⟨b2,0,none⟩ s2.length c2 _ (by rw[a6 ht,hd]) (by rw[hti];simp[his,hs]) (by rw[hn1];exact(Nat.min_eq_left hl).symm) hsrc hcell hfro hone
 have hrun:=tj (ty:=t) (d:=d) (p:=p) (af:=af) (g:=g) (aL.1 (hf _ _ hx)).1 (aL.1 (hf _ _ hy)).1 hr
 obtain⟨w',hw',ho'⟩:=cd (P:=P) (s2.map fun c=>Value.int .u8 (c.toNat:Int)) o 0 Cs w hb (by rw[hn1];omega) hfz (fun u hu=>by
  obtain⟨c,_,rfl⟩:=List.mem_map.1 hu
  exact⟨rfl,fun a h=>by cases h⟩)
 have hst:=run_storeCells_cells (P:=P) bl o (s2.map fun c=>Value.int .u8 (c.toNat:Int)) 0 w (by simpa using hcell) (by simpa using hfro) hone
 rw[hst] at hw'
 simp only[Result.ok.injEq,true_and] at hw'
 simp only[Nat.add_zero] at hw' ho'
 refine⟨_,_,R,hrun,Seal.le_refl R,?_,?_⟩
 ·rw[hn1];exact am.2 rfl
 ·rw[hw']
  refine hm.write hi rfl ho' rfl ⟨?_,_,_,_,ho'.at_,?_,?_⟩
  ·simp only[List.length_append,List.length_take,List.length_drop];omega
  ·rw[BG ho hcap,hn1]
   exact aZ (aZ (bD _ hrel) (jV R s2)) (bN _ hrel)
  ·have:((Cs.toList.take o++(s2.map fun c=>Value.int .u8 (c.toNat:Int))++Cs.toList.drop (o+(s2.map fun c=>Value.int .u8 (c.toNat:Int)).length)).toArray).size=Cs.size:=by
    simp only[List.size_toArray,List.length_append,List.length_take,List.length_drop,Array.length_toList,hn1];omega
   rw[this]
   exact hfz
theorem aK {i bl l c o:Nat}{k0:IntKind}(hC:C.G=G)(hGL:ad G GL)(hx:ai env x=some (.own i (.slice (some ⟨bl,0,none⟩) l c)))(hy:ai env y=some (.int k0 (o:Int)))(ho:o≤l)(hoc:o<c)(ht:tab P T=some xT)(hd:xT.desc= .slice e)(he:tab P e=some xe)(hs:xe.size=1)
  (hg:aI ops env g=some (b,b)) (hdn:Nat.ble (d+1) n=true)
  (k:opsX P C n G GL ops Q rest ((d,.own i (.slice (some ⟨bl,o,none⟩) (l-o) (c-o)))::env) H):
  Op1 P C n ops ({dst:=some d,op:=.slice T x (some y) none none,type:=t,pos:=p,after:=af,guard:=g}::rest) env H Q:=by
 refine⟨mj hg rfl hdn (av:=.own i (.slice (some ⟨bl,o,none⟩) (l-o) (c-o))) (H':=H) (fun R ρ w hm hf=> ?_) (ct hC hGL _ _ _ k)⟩
 have hel:P.elem T=e:=by simp[Program.elem,a6 ht,hd]
 have hr:=run_slice_l (P:=P) w T (some ⟨bl,0,none⟩) l c (by rw[a6 ht,hd,hel]) k0 (o:Int) (by omega) (by omega)
 have hsz:=aC he w
 refine⟨.slice (some ⟨bl,o,none⟩) (l-o) (c-o),w,R,?_,Seal.le_refl R,aL.2 ⟨rfl,rfl⟩,hm⟩
 simp only[execOp,(aL.1 (hf _ _ hx)).1,Option.map_some,Option.map_none,am.1 (hf _ _ hy),Sem.run_bind,run_sliceAt_slice w T _ _ _ _ (show P.underlying T=some (.slice (P.elem T)) by rw[a6 ht,hd,hel]),hr,hel,hsz,Result.andThen_ok,Sem.run_pure]
 simp only[sliced,Int.toNat_natCast]
 rw[if_neg (by omega)]
 simp[hs,Addr.add]
 by_cases h0:o=0
 ·simp[h0]
 ·simp[h0]
end
end
section
open Go Go.RowKit
attribute [local irreducible] AWp AOps aA OrOk ad ah
attribute [local irreducible] fJ Lv AWpD To
def eM (u:Value):List AVal:=[.int .u32 0,.int .i32 0,.int .u32 0,.raw .nilIface,.own 0 u]
theorem mX {G:Glo}(m:Nat)(f:Nat→AVal)(hm:m≤1000)(h2:m%2=0)(hs:aA 1 m f):ah Tryz.prog G 100 [.list 1 m f] [] (fun r H=>∃bl va vk vc,RowV m va vk∧r= .ret (.own 1 (pv bl 0))∧H=[.row (.slice va vk vc) none 1 m (cg m f),.cells bl (some 209) (eM (.slice va vk vc))]):=by
 have hGL:ad G []:=ab
 refine fn_x Tryz.func100 Tryz.call100 rfl rfl rfl rfl hGL ?_
 intro C hC
 repeat' (first|(conv=>whnf);first|refine .w ?_|refine .v ?_|refine sc_c ?_ ?_<;>(intro hb;try exact dd hb)|apply ao|apply aG|(apply sc_i<;>intro hb)|(apply bx_i;intro hbd)|(apply ax;first|fail)|(apply aw (i:=0) rfl;first|fail)|(apply ab_i;intro bl)|(apply as_i;intro va vk vc hva)|(apply av_i;intro v)|(apply ac_i;intro bl cap hcap)|apply bo_r|(apply nx_i<;>intro hnx)|exact True.intro|(apply bc_i;intro C hC)|apply bt_i|apply og_n|(apply og_a;exact rfl)|(show Rt _ _ _;exact rt_w)|fail)
 all_goals try conv=>whnf
 exact⟨_,List.Sublist.refl _,bl,va,vk,vc,hva,rfl,rfl⟩
def tabC (i j k:Nat)(a b c t:AVal):List AVal:=(((List.replicate 256 (.raw (.slice none 0 0))).set i a).set j b).set k c++[t]
theorem Aq {G:Glo}(br bl vc:Nat):ah Tryz.prog G 181 [.raw (pv bl 0)] [.row (.slice (some ⟨br,0,none⟩) 6 vc) none 1 6 [.str [94],.str [94,94],.str [10],.str [94,110],.str [34],.str [94,39]],.cells bl (some 209) ((eM (.slice (some ⟨br,0,none⟩) 6 vc)).set 1 (.int .i32 1))]
  (fun r H=>∃va vk vt bz b1 c1 b2 c2 b3 c3,RowV 3 va vk∧r= .ret (.iface 303 (.own 3 (pv bz 0)))∧H=[.row (.slice (some ⟨br,0,none⟩) 6 vc) none 1 6 [.str [94],.str [94,94],.str [10],.str [94,110],.str [34],.str [94,39]],.cells bl (some 209) ((eM (.slice (some ⟨br,0,none⟩) 6 vc)).set 1 (.int .i32 1)),
   .row (.slice va vk vt) (some 9) 1 3 [.str [34],.str [10],.str [94]],.cells bz (some 302) (tabC 34 10 94 (.own 4 (.slice (some ⟨b1,0,none⟩) 2 c1)) (.own 5 (.slice (some ⟨b2,0,none⟩) 2 c2)) (.own 6 (.slice (some ⟨b3,0,none⟩) 2 c3)) (.own 2 (.slice va vk vt))),.buf b1 [94,39] c1,.buf b2 [94,110] c2,.buf b3 [94,94] c3]):=by
 have hGL:ad G []:=ab
 unfold eM
 refine gh 1 Tryz.func181 Tryz.call181 rfl rfl rfl rfl hGL rfl ?_
 intro C hC
 refine xn1 ?_
 intros
 have c0:([.str [94],.str [94,94],.str [10],.str [94,110],.str [34],.str [94,39]]:List AVal)[0]? =some (.str [94]):=rfl
 have r0:cD (.slice (some ⟨br,0,none⟩) 6 vc) br 6∧0<6*1:=⟨⟨_,rfl⟩,by decide⟩
 have c1:([.str [94],.str [94,94],.str [10],.str [94,110],.str [34],.str [94,39]]:List AVal)[1]? =some (.str [94,94]):=rfl
 have r1:cD (.slice (some ⟨br,0,none⟩) 6 vc) br 6∧1<6*1:=⟨⟨_,rfl⟩,by decide⟩
 have c2:([.str [94],.str [94,94],.str [10],.str [94,110],.str [34],.str [94,39]]:List AVal)[2]? =some (.str [10]):=rfl
 have r2:cD (.slice (some ⟨br,0,none⟩) 6 vc) br 6∧2<6*1:=⟨⟨_,rfl⟩,by decide⟩
 have c3:([.str [94],.str [94,94],.str [10],.str [94,110],.str [34],.str [94,39]]:List AVal)[3]? =some (.str [94,110]):=rfl
 have r3:cD (.slice (some ⟨br,0,none⟩) 6 vc) br 6∧3<6*1:=⟨⟨_,rfl⟩,by decide⟩
 have c4:([.str [94],.str [94,94],.str [10],.str [94,110],.str [34],.str [94,39]]:List AVal)[4]? =some (.str [34]):=rfl
 have r4:cD (.slice (some ⟨br,0,none⟩) 6 vc) br 6∧4<6*1:=⟨⟨_,rfl⟩,by decide⟩
 have c5:([.str [94],.str [94,94],.str [10],.str [94,110],.str [34],.str [94,39]]:List AVal)[5]? =some (.str [94,39]):=rfl
 have r5:cD (.slice (some ⟨br,0,none⟩) 6 vc) br 6∧5<6*1:=⟨⟨_,rfl⟩,by decide⟩
 refine rds hC hGL 4 ?_
 refine xn1 ?_
 intros
 refine p9 (m:=3) hC hGL rfl rfl (by omega) rfl rfl rfl rfl rfl rfl rfl (fun bt=> ?_)
 refine xn1 ?_
 intros
 refine rds hC hGL 4 ?_
 refine xn1 ?_
 intros
 refine aF hC hGL (bw [34] rfl (by intro v hv;simp only[List.mem_cons,List.not_mem_nil,or_false] at hv;omega) rfl rfl rfl rfl rfl rfl) rfl rfl ?_
 refine xn1 ?_
 intros
 refine aF hC hGL (bw [10] rfl (by intro v hv;simp only[List.mem_cons,List.not_mem_nil,or_false] at hv;omega) rfl rfl rfl rfl rfl rfl) rfl rfl ?_
 refine xn1 ?_
 intros
 refine aF hC hGL (bw [94] rfl (by intro v hv;simp only[List.mem_cons,List.not_mem_nil,or_false] at hv;omega) rfl rfl rfl rfl rfl rfl) rfl rfl ?_
 refine xn1 ?_
 intros
 exact⟨_,List.Sublist.refl _,_,_,_,_,_,_,_,_,_,_,by assumption,rfl,rfl⟩
end
section
open Go Go.RowKit
attribute [local irreducible] AWp AOps aa aA OrOk ad ah
abbrev encH (br bl vc:Nat)(cs:List AVal)(va:Option Addr)(vk vt bz b1 c1 b2 c2 b3 c3:Nat):Heap:=[.row (.slice (some ⟨br,0,none⟩) 6 vc) none 1 6 [.str [94],.str [94,94],.str [10],.str [94,110],.str [34],.str [94,39]],.cells bl (some 209) cs,
   .row (.slice va vk vt) (some 9) 1 3 [.str [34],.str [10],.str [94]],.cells bz (some 302) (tabC 34 10 94 (.own 4 (.slice (some ⟨b1,0,none⟩) 2 c1)) (.own 5 (.slice (some ⟨b2,0,none⟩) 2 c2)) (.own 6 (.slice (some ⟨b3,0,none⟩) 2 c3)) (.own 2 (.slice va vk vt))),.buf b1 [94,39] c1,.buf b2 [94,110] c2,.buf b3 [94,94] c3]
attribute [local irreducible] tabC
theorem xy {G:Glo}(br bl vc:Nat):ah Tryz.prog G 149 [.raw (pv bl 0)] [.row (.slice (some ⟨br,0,none⟩) 6 vc) none 1 6 [.str [94],.str [94,94],.str [10],.str [94,110],.str [34],.str [94,39]],.cells bl (some 209) ((eM (.slice (some ⟨br,0,none⟩) 6 vc)).set 1 (.int .i32 1))]
  (fun r H=>∃va vk vt bz b1 c1 b2 c2 b3 c3,RowV 3 va vk∧r= .ret (.tuple [])∧H=encH br bl vc [.int .u32 0,.int .i32 1,.int .u32 0,.iface 303 (.own 3 (pv bz 0)),.raw (.slice none 0 0)] va vk vt bz b1 c1 b2 c2 b3 c3):=by
 have hGL:ad G []:=ab
 have e1:=Aq (G:=G) br bl vc
 unfold eM at*
 refine gh 1 Tryz.func149 Tryz.call149 rfl rfl rfl rfl hGL rfl ?_
 intro C hC
 refine xn1 ?_
 intros
 refine⟨_,e1,?_,?_⟩
 ·rintro v' H2 ⟨va,vk,vt,bz,b1,c1,b2,c2,b3,c3,hva,e,rfl⟩
  cases e
  refine xn1 ?_
  intros
  exact⟨_,List.Sublist.refl _,va,vk,vt,bz,b1,c1,b2,c2,b3,c3,hva,rfl,rfl⟩
 ·rintro v' H2 ⟨va,vk,vt,bz,b1,c1,b2,c2,b3,c3,hva,e,rfl⟩
  cases e
end
section
open Go Go.RowKit
theorem eN {s:List UInt8}{j:Nat}(h:j<s.length):aa s j=s[j].toNat:=by
 simp[aa,List.getD,h]
def encF (c:UInt8):List UInt8:=if c=94 then[94,94] else if c=10 then[94,110] else if c=34 then[94,39] else[c]
def encS (s:List UInt8):List UInt8:=s.flatMap encF
theorem sd:encF 94=[94,94]:=rfl
theorem sf:encF 10=[94,110]:=rfl
theorem se:encF 34=[94,39]:=rfl
theorem lg {c:UInt8}(h1:c.toNat≠94)(h2:c.toNat≠10)(h3:c.toNat≠34):encF c=[c]:=by
 unfold encF
 rw[if_neg (by rintro rfl;exact h1 rfl),if_neg (by rintro rfl;exact h2 rfl),if_neg (by rintro rfl;exact h3 rfl)]
theorem fj:encS []=[]:=rfl
theorem js (c:UInt8)(s:List UInt8):encS (c::s)=encF c++encS s:=rfl
theorem oJ (s t:List UInt8):encS (s++t)=encS s++encS t:=by simp[encS]
theorem uN (c:UInt8):1≤(encF c).length∧(encF c).length≤2:=by
 unfold encF
 (repeat' split)<;>simp
theorem fk (s:List UInt8):s.length≤(encS s).length∧(encS s).length≤2*s.length:=by
 induction s with
 |nil=>exact⟨Nat.le_refl _,Nat.le_refl _⟩
 |cons c t ih=>
  have:=uN c
  rw[js,List.length_append,List.length_cons]
  omega
def nj (N:Nat)(v:AVal)(i j k:Nat)(a b c t:AVal):List AVal:=(((List.replicate N v).set i a).set j b).set k c++[t]
theorem uW (N:Nat)(v:AVal)(i j k:Nat)(a b c t:AVal):(nj N v i j k a b c t)[N]? =some t:=by
 unfold nj
 rw[List.getElem?_append_right (by simp)]
 simp
theorem uV {N:Nat}{v:AVal}{i j k n:Nat}{a b c t:AVal}(hn:n<N):(nj N v i j k a b c t)[n]? =some (if n=k then c else if n=j then b else if n=i then a else v):=by
 unfold nj
 rw[List.getElem?_append_left (by simpa using hn)]
 by_cases h1:n=k
 ·subst h1;rw[List.getElem?_set_self (by simpa using hn),if_pos rfl]
 ·rw[if_neg h1,List.getElem?_set_ne (Ne.symm h1)]
  by_cases h2:n=j
  ·subst h2;rw[List.getElem?_set_self (by simpa using hn),if_pos rfl]
  ·rw[if_neg h2,List.getElem?_set_ne (Ne.symm h2)]
   by_cases h3:n=i
   ·subst h3;rw[List.getElem?_set_self (by simpa using hn),if_pos rfl]
   ·rw[if_neg h3,List.getElem?_set_ne (Ne.symm h3)]
    simp[hn]
theorem A6 (i j k:Nat)(a b c t:AVal):(tabC i j k a b c t)[256]? =some t:=uW 256 _ i j k a b c t
theorem A5 {i j k n:Nat}{a b c t:AVal}(hn:n<256):(tabC i j k a b c t)[n]? =some (if n=k then c else if n=j then b else if n=i then a else .raw (.slice none 0 0)):=uV (N:=256) hn
end
section
open Go Go.RowKit
def eIf (c:Bool)(s:List UInt8):List UInt8:=if c then encS s else s
def mayV (c:Bool)(s:List UInt8):Bool:=hdB false (eIf c s)&&decide (idxB (eIf c s) 34<0)
def prE (c:Bool)(q:Pr):Int:=if isS q.n=false then 5 else if q.vs.length=0 then 8 else if q.vs.all (mayV c) then 0 else 3
def firE (c:Bool):List Pr→Nat→Err
 |[],_=>.none
 |q::l,i=>if prE c q=0 then firE c l (i+1) else .at (prE c q) i
def Ln.E (c:Bool)(p:Ln):Err:=if isS p.n=false∨(p.g.length≠0∧isS p.g=false) then .errno 5
 else if 20<p.ps.length then .errno 4
 else match firE c p.ps 0 with
  |.none=>if hdB false p.v then .none else .errno 3
  |x=>x
def quoC (c:Int):Bool:=decide (c=44∨c=59∨c=58)
def quoS (c:Bool)(s:List UInt8):List UInt8:=if fstB quoC (eIf c s)<0 then eIf c s else 34::eIf c s++[34]
def prT (c:Bool)(q:Pr):List UInt8:=59::q.n++[61]++Lib.join (q.vs.map (quoS c)) [44]
def hdT (p:Ln):List UInt8:=if p.g.length=0 then p.n else p.g++[46]++p.n
def Ln.txt (c:Bool)(p:Ln):List UInt8:=hdT p++p.ps.flatMap (prT c)++[58]++p.v
def Ln.T (c:Bool)(p:Ln):List UInt8:=match p.E c with
 |.none=>p.txt c
 |_=>[]
theorem mb {c:Bool}:∀{l:List Pr} (i k:Nat),(∀j,j<k→j<l.length→prE c (l.getD j Pr.z)=0)→(k<l.length→prE c (l.getD k Pr.z)≠0)→firE c l i=if k<l.length then .at (prE c (l.getD k Pr.z)) ((i+k:Nat):Int) else .none
 |[],i,k,_,_=>by simp[firE]
 |q::l,i,0,_,h=>by
  have h:=h (by simp)
  rw[if_pos (by simp)]
  simp only[firE]
  rw[if_neg (by simpa using h)]
  simp
 |q::l,i,k+1,h1,h2=>by
  have h0:prE c q=0:=by simpa using h1 0 (by omega) (by simp)
  simp only[firE]
  rw[if_pos h0,mb (i+1) k (fun j hj hl=>by simpa using h1 (j+1) (by omega) (by simpa using hl)) (fun h=>by simpa using h2 (by simpa using h))]
  have e:i+1+k=i+(k+1):=by omega
  simp only[List.length_cons,List.getD_cons_succ,Nat.add_lt_add_iff_right,e]
theorem En {c:Bool}{l:List Pr}{k:Nat}(hk:k<l.length)(h:∀j,j<k→prE c (l.getD j Pr.z)=0)(hb:prE c (l.getD k Pr.z)≠0):firE c l 0= .at (prE c (l.getD k Pr.z)) k:=by
 rw[mb 0 k (fun j hj _=>h j hj) (fun _=>hb),if_pos hk]
 simp
theorem qw {c:Bool}{l:List Pr}{k:Nat}(hk:l.length≤k)(h:∀j,j<k→prE c (l.getD j Pr.z)=0):firE c l 0= .none:=by
 rw[mb 0 k (fun j hj _=>h j hj) (fun h=>absurd h (by omega)),if_neg (by omega)]
def mayJ (c:Bool)(l:List (List UInt8))(j:Nat):Prop:=∀i,i<j→mayV c (l.getD i [])=true
theorem qd {c:Bool}{l:List (List UInt8)}{j:Nat}(h:mayJ c l j)(k:mayV c (l.getD j [])=true):mayJ c l (j+1):=fun i hi=>by
 rcases Nat.lt_or_ge i j with g|g
 ·exact h i g
 ·rw[show i=j by omega];exact k
theorem ue {c:Bool}{l:List (List UInt8)}{j:Nat}(hj:l.length≤j)(h:mayJ c l j):l.all (mayV c)=true:=by
 rw[List.all_eq_true]
 intro x hx
 obtain⟨i,hi,rfl⟩:=List.getElem_of_mem hx
 have:=h i (by omega)
 rwa [List.getD_eq_getElem?_getD,List.getElem?_eq_getElem hi] at this
theorem ud {c:Bool}{l:List (List UInt8)}{j:Nat}(hj:j<l.length)(h:mayV c (l.getD j [])=false):l.all (mayV c)=false:=by
 rw[List.all_eq_false]
 refine⟨l[j],List.getElem_mem hj,?_⟩
 rw[List.getD_eq_getElem?_getD,List.getElem?_eq_getElem hj] at h
 simpa using h
theorem tK {c:Bool}{q:Pr}(h:isS q.n=false):prE c q=5:=by unfold prE;rw[if_pos h]
theorem yh {c:Bool}{q:Pr}(h:isS q.n=true)(k:q.vs.length=0):prE c q=8:=by unfold prE;rw[if_neg (by rw[h];decide),if_pos k]
theorem EW {c:Bool}{q:Pr}(h:isS q.n=true)(k:q.vs.length≠0)(m:q.vs.all (mayV c)=false):prE c q=3:=by unfold prE;rw[if_neg (by rw[h];decide),if_neg k,if_neg (by rw[m];decide)]
theorem EX {c:Bool}{q:Pr}(h:isS q.n=true)(k:q.vs.length≠0)(m:q.vs.all (mayV c)=true):prE c q=0:=by unfold prE;rw[if_neg (by rw[h];decide),if_neg k,if_pos m]
theorem zU {l:List (List UInt8)}(h:l≠[])(x sep:List UInt8):Lib.join (l++[x]) sep=Lib.join l sep++sep++x:=by
 cases l with
 |nil=>exact absurd rfl h
 |cons y r=>
  rw[List.cons_append,Lib.join_cons,Lib.join_cons]
  simp[Lib.joinTail]
def vaT (c:Bool)(vs:List (List UInt8))(j:Nat):List UInt8:=match j with
 |0=>[]
 |j+1=>61::Lib.join ((vs.take (j+1)).map (quoS c)) [44]
theorem sM {c:Bool}{vs:List (List UInt8)}{j:Nat}(hj:j<vs.length):vaT c vs (j+1)=vaT c vs j++(if j=0 then[61] else[44])++quoS c (vs.getD j []):=by
 have e:vs.take (j+1)=vs.take j++[vs.getD j []]:=by
  rw[List.take_succ_eq_append_getElem hj,List.getD_eq_getElem?_getD,List.getElem?_eq_getElem hj]
  rfl
 cases j with
 |zero=>
  simp only[vaT,e,List.take_zero,List.nil_append,List.map_cons,List.map_nil,Lib.join_one,if_true]
  rfl
 |succ j=>
  simp only[vaT]
  rw[e,List.map_append,List.map_cons,List.map_nil,zU (fun h=>by
   have:=congrArg List.length h
   simp only[List.length_map,List.length_take,List.length_nil] at this
   omega),if_neg (by omega)]
  simp only[List.cons_append,List.append_assoc]
theorem Dq {c:Bool}{q:Pr}(h:q.vs.length≠0):prT c q=59::q.n++vaT c q.vs q.vs.length:=by
 unfold prT
 cases hv:q.vs with
 |nil=>rw[hv] at h;exact absurd rfl h
 |cons x r=>
  have e:(x::r).take (r.length+1)=x::r:=List.take_of_length_le (by simp)
  simp only[List.length_cons,vaT,e,List.append_assoc]
  rfl
theorem sg (c:Bool)(s:List UInt8):(eIf c s).length≤2*s.length:=by
 unfold eIf
 split
 ·exact(fk s).2
 ·omega
theorem tH (c:Bool)(s:List UInt8):(quoS c s).length≤2*s.length+2:=by
 have:=sg c s
 unfold quoS
 split
 ·omega
 ·simp only[List.cons_append,List.length_cons,List.length_append,List.length_nil]
  omega
theorem kU (c:Bool):∀l:List (List UInt8),Lib.lens (l.map (quoS c))≤2*Lib.lens l+2*l.length
 |[]=>by simp[Lib.lens]
 |x::r=>by
  have h1:=kU c r
  have h2:=tH c x
  have e1:Lib.lens ((x::r).map (quoS c))=(quoS c x).length+Lib.lens (r.map (quoS c)):=by simp[Lib.lens]
  have e2:Lib.lens (x::r)=x.length+Lib.lens r:=by simp[Lib.lens]
  rw[e1,e2,List.length_cons]
  omega
theorem ot (l:List (List UInt8)):(Lib.join l [44]).length≤Lib.lens l+l.length:=by
 cases l with
 |nil=>simp[Lib.join_nil]
 |cons x r=>
  have e2:Lib.lens (x::r)=x.length+Lib.lens r:=by simp[Lib.lens]
  rw[Lib.join_cons,List.length_append,Lib.joinTail_length,e2,List.length_cons]
  simp only[List.length_cons,List.length_nil]
  omega
theorem Dp (c:Bool)(vs:List (List UInt8))(j:Nat):(vaT c vs j).length≤1+2*Lib.lens vs+3*vs.length:=by
 cases j with
 |zero=>simp[vaT]
 |succ j=>
  simp only[vaT,List.length_cons]
  have h1:=ot ((vs.take (j+1)).map (quoS c))
  have h2:=kU c (vs.take (j+1))
  have h3:=Lib.lens_take_le vs (j+1)
  rw[List.length_map,List.length_take] at h1
  rw[List.length_take] at h2
  omega
theorem yg (c:Bool)(q:Pr):(prT c q).length≤2+q.n.length+2*Lib.lens q.vs+3*q.vs.length:=by
 unfold prT
 have h1:=ot (q.vs.map (quoS c))
 have h2:=kU c q.vs
 rw[List.length_map] at h1
 simp only[List.length_cons,List.length_append,List.length_nil,List.cons_append]
 omega
def psT (c:Bool)(ps:List Pr)(k:Nat):List UInt8:=(ps.take k).flatMap (prT c)
theorem nV {c:Bool}{ps:List Pr}{k:Nat}(hk:k<ps.length):psT c ps (k+1)=psT c ps k++prT c (ps.getD k Pr.z):=by
 have e:ps.take (k+1)=ps.take k++[ps.getD k Pr.z]:=by
  rw[List.take_succ_eq_append_getElem hk,List.getD_eq_getElem?_getD,List.getElem?_eq_getElem hk]
  rfl
 unfold psT
 rw[e,List.flatMap_append]
 simp
theorem rB {c:Bool}{ps:List Pr}{N:Nat}(h:∀k,(ps.getD k Pr.z).n.length≤N∧(ps.getD k Pr.z).vs.length≤N∧Lib.lens (ps.getD k Pr.z).vs≤N):∀k,k≤ps.length→(psT c ps k).length≤k*(2+6*N)
 |0,_=>by simp[psT]
 |k+1,hk=>by
  have ih:=rB (c:=c) h k (by omega)
  have h1:=yg c (ps.getD k Pr.z)
  have h2:=h k
  rw[nV (by omega),List.length_append,Nat.succ_mul]
  omega
theorem xQ (c:Bool)(p:Ln):p.txt c=hdT p++psT c p.ps p.ps.length++[58]++p.v:=by
 unfold Ln.txt psT
 rw[List.take_of_length_le (Nat.le_refl _)]
theorem Ln.E_5 {c:Bool}{p:Ln}(h:isS p.n=false∨(p.g.length≠0∧isS p.g=false)):p.E c= .errno 5:=by unfold Ln.E;rw[if_pos h]
theorem Ln.E_4 {c:Bool}{p:Ln}(h1:isS p.n=true)(h2:p.g.length=0∨isS p.g=true)(h:20<p.ps.length):p.E c= .errno 4:=by
 unfold Ln.E
 rw[if_neg (by rintro(k|⟨k1,k2⟩);rw[h1] at k;cases k;rcases h2 with h2|h2;exact k1 h2;rw[h2] at k2;cases k2),if_pos h]
theorem Ln.E_f {c:Bool}{p:Ln}(h1:isS p.n=true)(h2:p.g.length=0∨isS p.g=true)(h:p.ps.length≤20):p.E c=match firE c p.ps 0 with
  |.none=>if hdB false p.v then .none else .errno 3
  |x=>x:=by
 unfold Ln.E
 rw[if_neg (by rintro(k|⟨k1,k2⟩);rw[h1] at k;cases k;rcases h2 with h2|h2;exact k1 h2;rw[h2] at k2;cases k2),if_neg (by omega)]
theorem Ln.E_at {c:Bool}{p:Ln}(h1:isS p.n=true)(h2:p.g.length=0∨isS p.g=true)(h:p.ps.length≤20){k:Nat}(hk:k<p.ps.length)(hj:∀j,j<k→prE c (p.ps.getD j Pr.z)=0)(hb:prE c (p.ps.getD k Pr.z)≠0):p.E c= .at (prE c (p.ps.getD k Pr.z)) k:=by
 rw[Ln.E_f h1 h2 h,En hk hj hb]
theorem Ln.E_3 {c:Bool}{p:Ln}(h1:isS p.n=true)(h2:p.g.length=0∨isS p.g=true)(h:p.ps.length≤20){k:Nat}(hk:p.ps.length≤k)(hj:∀j,j<k→prE c (p.ps.getD j Pr.z)=0)(hv:hdB false p.v=false):p.E c= .errno 3:=by
 rw[Ln.E_f h1 h2 h,qw hk hj]
 simp only[hv,Bool.false_eq_true,if_false]
theorem Ln.E_0 {c:Bool}{p:Ln}(h1:isS p.n=true)(h2:p.g.length=0∨isS p.g=true)(h:p.ps.length≤20){k:Nat}(hk:p.ps.length≤k)(hj:∀j,j<k→prE c (p.ps.getD j Pr.z)=0)(hv:hdB false p.v=true):p.E c= .none:=by
 rw[Ln.E_f h1 h2 h,qw hk hj]
 simp only[hv,if_true]
def prI (c:Bool)(q:Pr)(j:Nat)(e:Int):Prop:=(isS q.n=false∧e=5)∨(isS q.n=true∧q.vs.length=0∧e=8)∨(isS q.n=true∧q.vs.length≠0∧((e=0∧mayJ c q.vs j)∨(e=3∧q.vs.all (mayV c)=false)))
theorem i6 {c:Bool}{q:Pr}{j:Nat}{e:Int}(h:prI c q j e)(hj:q.vs.length≤j):e=prE c q:=by
 rcases h with⟨h1,h2⟩|⟨h1,h2,h3⟩|⟨h1,h2,⟨h3,h4⟩|⟨h3,h4⟩⟩
 ·rw[tK h1,h2]
 ·rw[yh h1 h2,h3]
 ·rw[EX h1 h2 (ue hj h4),h3]
 ·rw[EW h1 h2 h4,h3]
theorem nW {c:Bool}{q:Pr}{j:Nat}{e:Int}(h:prI c q j e)(he:e≠0):prI c q (j+1) e:=by
 rcases h with h|h|⟨h1,h2,⟨h3,h4⟩|h3⟩
 ·exact .inl h
 ·exact .inr (.inl h)
 ·exact absurd h3 he
 ·exact .inr (.inr ⟨h1,h2,.inr h3⟩)
theorem wi {c:Bool}{q:Pr}{j:Nat}{e:Int}(h:prI c q j e)(he:e=0)(hm:mayV c (q.vs.getD j [])=true):prI c q (j+1) e:=by
 rcases h with h|h|⟨h1,h2,⟨h3,h4⟩|h3⟩
 ·exact absurd (he.symm.trans h.2) (by decide)
 ·exact absurd (he.symm.trans h.2.2) (by decide)
 ·exact .inr (.inr ⟨h1,h2,.inl ⟨h3,qd h4 hm⟩⟩)
 ·exact absurd (he.symm.trans h3.1) (by decide)
theorem rC {c:Bool}{q:Pr}{j:Nat}{e:Int}(h:prI c q j e)(he:e=0)(hj:j<q.vs.length)(hm:mayV c (q.vs.getD j [])=false):prI c q (j+1) 3:=by
 rcases h with h|h|⟨h1,h2,⟨h3,h4⟩|h3⟩
 ·exact absurd (he.symm.trans h.2) (by decide)
 ·exact absurd (he.symm.trans h.2.2) (by decide)
 ·exact .inr (.inr ⟨h1,h2,.inr ⟨rfl,ud hj hm⟩⟩)
 ·exact absurd (he.symm.trans h3.1) (by decide)
end
section
open Go
attribute [local irreducible] AWp AOps aa aA OrOk ad ah
attribute [local irreducible] au badI badS cA rngR ownB
def firstTab:List AVal:=Go.Pinned.utf8FirstZ.map (fun x:Nat=>AVal.int .u8 (x:Int))
def acceptTab:List AVal:=[.int .u8 128,.int .u8 191,.int .u8 160,.int .u8 191,.int .u8 128,.int .u8 159,.int .u8 144,.int .u8 191,.int .u8 128,.int .u8 143,.int .u8 0,.int .u8 0,.int .u8 0,.int .u8 0,.int .u8 0,.int .u8 0,.int .u8 0,.int .u8 0,.int .u8 0,.int .u8 0,.int .u8 0,.int .u8 0,.int .u8 0,.int .u8 0,.int .u8 0,.int .u8 0,.int .u8 0,.int .u8 0,.int .u8 0,.int .u8 0,.int .u8 0,.int .u8 0]
def kb (b:Nat):Nat:=
 if b<128 then 240 else if b<194 then 241 else if b<224 then 2 else if b=224 then 19 else if b<237 then 3 else if b=237 then 35 else if b<240 then 3 else if b=240 then 52
 else if b<244 then 4 else if b=244 then 68 else 241
theorem Ae:∀b:Fin 256,Go.Pinned.utf8FirstZ[b.1]? =some (kb b.1):=by decide+kernel
theorem uB (b:Nat)(h:b<256):firstTab[b*1]? =some (.int .u8 (kb b:Int)):=by
 rw[Nat.mul_one]
 simp only[firstTab,List.getElem?_map,Ae ⟨b,h⟩,Option.map_some]
def dk (s:List UInt8):Nat×Nat:=if s.length=0 then(65533,0) else if(au s).2=0 then(65533,1) else au s
theorem Dn (b:Int):IntKind.wrap .i32 (BitVec.ofInt 32 (IntKind.wrap .i32 (BitVec.ofInt 32 b&&& ~~~ BitVec.ofInt 32 (IntKind.wrap .i32 (241*2147483648)/2147483648)).toNat)|||BitVec.ofInt 32 (IntKind.wrap .i32 (BitVec.ofInt 32 65533&&& BitVec.ofInt 32 (IntKind.wrap .i32 (241*2147483648)/2147483648)).toNat)).toNat=65533:=by
 have e:(~~~ BitVec.ofInt 32 (IntKind.wrap .i32 (241*2147483648)/2147483648))=0#32:=by decide+kernel
 rw[e,BitVec.and_zero]
 decide+kernel
attribute [local irreducible] firstTab
abbrev utfTy:List (Nat×List AVal):=[(6,firstTab),(7,acceptTab)]
theorem Ai (b:Nat)(h:b<256)(h1:128≤b):
  (firstTab[b*1]? =some (.int .u8 241)∧(b<194∨245≤b))∨(firstTab[b*1]? =some (.int .u8 2)∧194≤b∧b<224)∨(firstTab[b*1]? =some (.int .u8 19)∧b=224)
  ∨(firstTab[b*1]? =some (.int .u8 3)∧225≤b∧b<240∧b≠237)∨(firstTab[b*1]? =some (.int .u8 35)∧b=237)∨(firstTab[b*1]? =some (.int .u8 52)∧b=240)
  ∨(firstTab[b*1]? =some (.int .u8 4)∧241≤b∧b<244)∨(firstTab[b*1]? =some (.int .u8 68)∧b=244):=by
 have e:=uB b h
 have key:∀c:Nat,kb b=c→firstTab[b*1]? =some (.int .u8 (c:Int)):=fun c hc=>by rw[e,hc]
 by_cases c1:b<194∨245≤b
 ·refine .inl ⟨key 241 (by unfold kb;(repeat' split)<;>omega),c1⟩
 by_cases c2:b<224
 ·refine .inr (.inl ⟨key 2 (by unfold kb;(repeat' split)<;>omega),by omega,c2⟩)
 by_cases c3:b=224
 ·subst c3;exact .inr (.inr (.inl ⟨key 19 rfl,rfl⟩))
 by_cases c5:b=237
 ·subst c5;exact .inr (.inr (.inr (.inr (.inl ⟨key 35 rfl,rfl⟩))))
 by_cases c4:b<240
 ·refine .inr (.inr (.inr (.inl ⟨key 3 (by unfold kb;(repeat' split)<;>omega),by omega,c4,c5⟩)))
 by_cases c6:b=240
 ·subst c6;exact .inr (.inr (.inr (.inr (.inr (.inl ⟨key 52 rfl,rfl⟩)))))
 by_cases c7:b<244
 ·refine .inr (.inr (.inr (.inr (.inr (.inr (.inl ⟨key 4 (by unfold kb;(repeat' split)<;>omega),by omega,c7⟩))))))
 have c8:b=244:=by omega
 subst c8
 exact .inr (.inr (.inr (.inr (.inr (.inr (.inr ⟨key 68 rfl,rfl⟩))))))
theorem th {s:List UInt8}{a b:Int}(h0:¬s.length=0)(h:((au s).1:Int)=0∧((au s).2:Int)=0)(ha:a=65533)(hb:b=1):((dk s).1:Int)=a∧((dk s).2:Int)=b:=by
 have:(au s).2=0:=by omega
 subst ha hb
 simp[dk,h0,this]
theorem xY {s:List UInt8}{a b:Int}(h0:¬s.length=0)(h:((au s).1:Int)=a∧((au s).2:Int)=b)(hb:0<b):((dk s).1:Int)=a∧((dk s).2:Int)=b:=by
 have:¬(au s).2=0:=by omega
 simpa[dk,h0,this] using h
theorem CI {G:Glo}(hGL:ad G utfTy)(s:List UInt8)(hs:s.length=0∨128≤aa s 0):
    FnIs Tryz.prog G 161 [.str s] (.tuple [.int .i32 ((dk s).1:Int),.int .i64 ((dk s).2:Int)]):=by
  refine fn_x Tryz.func161 Tryz.call161 rfl rfl rfl rfl hGL ?_
  intro C hC
  by_cases h0:s.length=0
  · refine xw1 ?_
    intros
    refine tup2 ?_
    simp only[dk,if_pos h0]
    exact⟨rfl,rfl⟩
  replace hs:128≤aa s 0:=by omega
  have hdc:=Ai (aa s 0) (aO s 0) hs
  refine xw1 ?_
  intros
  rcases hdc with⟨hx,hb⟩|⟨hx,hb⟩|⟨hx,hb⟩|⟨hx,hb⟩|⟨hx,hb⟩|⟨hx,hb⟩|⟨hx,hb⟩|⟨hx,hb⟩
  all_goals (erw[hx])
  · refine xw1 ?_
    intros
    apply ch_r
    refine xw1 ?_
    intros
    apply ch_r
    refine xw1 ?_
    intros
    apply ch_r
    refine xw1 ?_
    intros
    clear hx
    refine tup2 ?_
    refine th h0 ?_ (Dn _) rfl
    generalize hz:au s=z
    unfold au aW mayN cp2 cp3 cp4 at hz
    try simp only[show Int.toNat 0=0 from rfl,show Int.toNat 1=1 from rfl,show Int.toNat (1+1)=2 from rfl,show Int.toNat (1+1+1)=3 from rfl] at*
    generalize aa s 0=b0 at*
    generalize aa s 1=b1 at*
    generalize aa s 2=b2 at*
    generalize aa s 3=b3 at*
    generalize s.length=l at*
    repeat' (split at hz;try (exfalso;omega))
    all_goals (try subst z)
    all_goals (first
      |exact⟨rfl,rfl⟩
      |(simp only[Bool.and_eq_true,Bool.or_eq_true,decide_eq_true_eq,beq_iff_eq] at*;first|(exfalso;omega)|omega))
  all_goals (repeat' (first|(conv=>whnf);first|refine .w ?_|refine .v ?_|refine sc_c ?_ ?_<;>(intro hb;try exact dd hb)|apply ao|apply aG|(apply sc_i<;>intro hb)|(apply bx_i;intro hbd)|(apply ax;first|fail)|(apply aw (i:=0) rfl;first|fail)|(apply ab_i;intro bl)|(apply as_i;intro va vk vc hva)|(apply av_i;intro v)|(apply ac_i;intro bl cap hcap)|apply bo_l|(apply nx_i<;>intro hnx)|apply dw_q mixed hC hGL (by kernel_rfl)|(apply cq;assumption;(first|fail);exact rfl)|(show Rt _ _ _;exact rt_w)|fail)
             all_goals try conv=>whnf)
  all_goals (clear hx;refine tup2 ?_)
  all_goals (first
    | (refine th h0 ?_ rfl rfl
       generalize hz:au s=z
       unfold au aW mayN cp2 cp3 cp4 at hz
       try simp only[show Int.toNat 0=0 from rfl,show Int.toNat 1=1 from rfl,show Int.toNat (1+1)=2 from rfl,show Int.toNat (1+1+1)=3 from rfl] at*
       generalize aa s 0=b0 at*
       generalize aa s 1=b1 at*
       generalize aa s 2=b2 at*
       generalize aa s 3=b3 at*
       generalize s.length=l at*
       repeat' (split at hz;try (exfalso;omega))
       all_goals (try subst z)
       all_goals (first
         |exact⟨rfl,rfl⟩
         |(simp only[Bool.and_eq_true,Bool.or_eq_true,decide_eq_true_eq,beq_iff_eq] at*;first|(exfalso;omega)|omega))
       done)
    | (refine xY h0 ?_ (by decide)
       generalize hz:au s=z
       unfold au aW mayN cp2 cp3 cp4 at hz
       try simp only[show Int.toNat 0=0 from rfl,show Int.toNat 1=1 from rfl,show Int.toNat (1+1)=2 from rfl,show Int.toNat (1+1+1)=3 from rfl] at*
       generalize aa s 0=b0 at*
       generalize aa s 1=b1 at*
       generalize aa s 2=b2 at*
       generalize aa s 3=b3 at*
       generalize s.length=l at*
       repeat' (split at hz;try (exfalso;omega))
       all_goals (try subst z)
       all_goals (first
         |exact⟨rfl,rfl⟩
         |(simp only[Bool.and_eq_true,Bool.or_eq_true,decide_eq_true_eq,beq_iff_eq] at*;first|(exfalso;omega)|omega))))
theorem CJ {G:Glo}(hGL:ad G utfTy)(s:List UInt8):
    FnIs Tryz.prog G 118 [.str s] (.tuple [.int .i32 ((dk s).1:Int),.int .i64 ((dk s).2:Int)]):=by
  refine fn_x Tryz.func118 Tryz.call118 rfl rfl rfl rfl hGL ?_
  intro C hC
  by_cases h0:s.length=0∨128≤aa s 0
  · have hd:=CI (G:=G) hGL s h0
    by_cases h1:s.length=0
    all_goals (repeat' (first|(conv=>whnf);first|refine .w ?_|refine .v ?_|refine sc_c ?_ ?_<;>(intro hb;try exact dd hb)|apply ao|apply aG|(apply sc_i<;>intro hb)|(apply bx_i;intro hbd)|(apply ax;first|exact hd)|(apply aw (i:=0) rfl;first|exact hd)|(apply ab_i;intro bl)|(apply as_i;intro va vk vc hva)|(apply av_i;intro v)|(apply ac_i;intro bl cap hcap)|apply bo_l|(apply nx_i<;>intro hnx)|apply dw_q mixed hC hGL (by kernel_rfl)|(apply cq;assumption;(first|exact hd);exact rfl)|(show Rt _ _ _;exact rt_w)|fail)
               all_goals try conv=>whnf)
    all_goals (exfalso;simp only[Int.toNat_zero] at*;omega)
  · refine xw1 ?_
    intros
    refine tup2 ?_
    refine xY (by omega) ?_ (by decide)
    generalize hz:au s=z
    unfold au aW mayN cp2 cp3 cp4 at hz
    try simp only[show Int.toNat 0=0 from rfl,show Int.toNat 1=1 from rfl,show Int.toNat (1+1)=2 from rfl,show Int.toNat (1+1+1)=3 from rfl] at*
    generalize aa s 0=b0 at*
    generalize aa s 1=b1 at*
    generalize aa s 2=b2 at*
    generalize aa s 3=b3 at*
    generalize s.length=l at*
    repeat' (split at hz;try (exfalso;omega))
    all_goals (try subst z)
    all_goals (first
      |exact⟨rfl,rfl⟩
      |(simp only[Bool.and_eq_true,Bool.or_eq_true,decide_eq_true_eq,beq_iff_eq] at*;first|(exfalso;omega)|omega))
end
section
open Go
attribute [local irreducible] AWp AOps aa aA OrOk ad ah
attribute [local irreducible] au badI badS cA rngR ownB
attribute [local irreducible] firstTab dk
theorem my (s:List UInt8):((au s).2=0→(au s).1=0)∧((au s).2=1→(au s).1<128)∧(s.length=0→(au s).2=0):=by
 refine⟨?_,?_,?_⟩
 ·unfold au;(repeat' split)<;>simp
 ·unfold au;(repeat' split)<;>simp;omega
 ·intro h;unfold au;simp[h]
theorem zp (s:List UInt8):(((au s).2:Int)=0→((dk s).2:Int)=0∧s.length=0∨((dk s).1:Int)=65533∧((dk s).2:Int)=1)∧(((au s).2:Int)≠0→((dk s).1:Int)=(au s).1∧((dk s).2:Int)=(au s).2):=by
 have hf:=my s
 unfold dk
 by_cases h0:s.length=0
 ·rw[if_pos h0]
  refine⟨fun _=>.inl ⟨rfl,h0⟩,fun h=>absurd (hf.2.2 h0) (by omega)⟩
 ·rw[if_neg h0]
  by_cases h1:(au s).2=0
  ·rw[if_pos h1]
   exact⟨fun _=>.inr ⟨rfl,rfl⟩,fun h=>absurd h1 (by omega)⟩
  ·rw[if_neg h1]
   exact⟨fun h=>absurd h (by omega),fun _=>⟨rfl,rfl⟩⟩
theorem Bv {G:Glo}(hU:ad G utfTy)(s:List UInt8):
  FnIs Tryz.prog G 166 [.str s] (.tuple [.int .i64 ((au s).1:Int),.int .i64 ((au s).2:Int)]):=by
 have hGL:ad G []:=ab
 refine fn_x Tryz.func166 Tryz.call166 rfl rfl rfl rfl hGL ?_
 intro C hC
 have hd:=CJ (G:=G) hU s
 have hn:=kS s
 have hf:=my s
 have hr:=zp s
 have hk:((dk s).1:Int)≤1114111:=by
  by_cases h:(au s).2=0
  ·unfold dk;rw[if_pos h];split<;>decide
  ·omega
 repeat' (first|(conv=>whnf);first|refine .w ?_|refine .v ?_|refine sc_c ?_ ?_<;>(intro hb;try exact dd hb)|apply ao|apply aG|(apply sc_i<;>intro hb)|(apply bx_i;intro hbd)|(apply ax;first|exact hd)|(apply aw (i:=0) rfl;first|exact hd)|(apply ab_i;intro bl)|(apply as_i;intro va vk vc hva)|(apply av_i;intro v)|(apply ac_i;intro bl cap hcap)|apply bo_l|(apply nx_i<;>intro hnx)|apply dw_q mixed hC hGL (by kernel_rfl)|(apply cq;assumption;(first|exact hd);exact rfl)|(show Rt _ _ _;exact rt_w)|fail)
 all_goals try conv=>whnf
 all_goals (refine tup2 ?_;omega)
theorem x8 {G:Glo}(hU:ad G utfTy)(s:List UInt8)(hl:s.length≤9223372036854775807):FnIs Tryz.prog G 124 [.str s] (.int .i64 (badI s)):=by
 have hGL:ad G []:=ab
 refine fn_x Tryz.func124 Tryz.call124 rfl rfl rfl rfl hGL ?_
 intro C hC
 have hle:=fun k=>kS (s.drop k)
 have hN:=fun t=>Bv (G:=G) hU t
 repeat' (first|(conv=>whnf);first|refine .w ?_|refine .v ?_|refine sc_c ?_ ?_<;>(intro hb;try exact dd hb)|apply ao|apply aG|(apply sc_i<;>intro hb)|(apply bx_i;intro hbd)|(apply ax;first|exact hN _)|(apply aw (i:=0) rfl;first|exact hN _)|(apply ab_i;intro bl)|(apply as_i;intro va vk vc hva)|(apply av_i;intro v)|(apply ac_i;intro bl cap hcap)|apply bo_l|(apply nx_i<;>intro hnx)|apply dw_q mixed hC hGL (by kernel_rfl)|(apply cq;assumption;(first|exact hN _);exact rfl)|(show Rt _ _ _;exact rt_w)|fail)
 all_goals try conv=>whnf
 refine lp hC hGL (fun(i:Nat)=>[(0,.str s),(7,.own 0 (.pointer (some ⟨bl,0,none⟩)))]) (fun i=>[.iter bl s i]) (fun i=>i≤s.length∧badS s=(badS (s.drop i)).map (· +i)) (fun i=>s.length-i) 0 ?_ ae rfl ?_
 ·exact⟨Nat.zero_le _,by simp⟩
 rintro i ⟨hi,hb0⟩
 have hn:=hle i
 rw[List.length_drop] at hn
 repeat' (first|(conv=>whnf);first|refine .w ?_|refine .v ?_|refine sc_c ?_ ?_<;>(intro hb;try exact dd hb)|apply ao|apply aG|(apply sc_i<;>intro hb)|(apply bx_i;intro hbd)|(apply ax;first|exact hN _)|(apply aw (i:=0) rfl;first|exact hN _)|(apply ab_i;intro bl)|(apply as_i;intro va vk vc hva)|(apply av_i;intro v)|(apply ac_i;intro bl cap hcap)|apply bo_l|(apply nx_i<;>intro hnx)|apply dw_q mixed hC hGL (by kernel_rfl)|(apply cq;assumption;(first|exact hN _);exact rfl)|(show Rt _ _ _;exact rt_w)|fail)
 all_goals try conv=>whnf
 ·apply ak
  refine congrArg (AVal.int .i64) ?_
  have h1:=jv (s.drop i) (by rw[List.length_drop];omega)
  rw[if_pos (by omega)] at h1
  rw[h1] at hb0
  simp only[badI,hb0,Option.map_some,Nat.zero_add]
 ·have h1:=jv (s.drop i) (by rw[List.length_drop];omega)
  rw[if_neg (by omega)] at h1
  have h2:cA (s.drop i)=(au (s.drop i)).2:=by unfold cA;rw[if_neg (by omega)]
  refine nxt (i+cA (s.drop i)) ⟨by omega,?_⟩ (by omega) ⟨rfl,rfl,trivial⟩ rfl
  rw[hb0,h1,List.drop_drop,h2]
  cases badS (s.drop (i+(au (s.drop i)).2))<;>simp<;>omega
 ·apply ak
  refine congrArg (AVal.int .i64) ?_
  rw[vf (s.drop i) (by rw[List.length_drop];omega)] at hb0
  simp only[badI,hb0,Option.map_none]
end
section
open Go Go.RowKit
theorem kX {b:Bool}{c:Int}(h:(c<32∧c≠9∧c≠10)∨c=127∨(c=10∧b=false)):hdC b c=true:=decide_eq_true (by
 rcases h with h|h|h
 ·exact .inl ⟨h.1,h.2.1,.inl h.2.2⟩
 ·exact .inr h
 ·exact .inl ⟨by omega,by omega,.inr h.2⟩)
theorem rU {b:Bool}{c:Int}(h1:c≠127)(h:32≤c∨c=9∨(c=10∧b=true)):hdC b c=false:=decide_eq_false (by
 rintro(k|k)
 ·rcases h with h|h|h
  ·omega
  ·omega
  ·rcases k.2.2 with m|m
   ·exact m h.1
   ·rw[h.2] at m;cases m
 ·exact h1 k)
theorem E4 {c:Int}:hdC true c=true↔(c<32∧c≠9∧c≠10)∨c=127:=by simp[hdC]
theorem qr {c:Int}:hdC false c=true↔(c<32∧c≠9)∨c=127:=by simp[hdC]
theorem Co {b:Bool}{s:List UInt8}{i:Nat}(hi:i<s.length)(h:hdC b (aa s i:Int)=true)(hb:∀j,j<i→hdC b (aa s j:Int)=false):hdB b s=false:=by
 unfold hdB
 rw[gN hi h hb]
 exact decide_eq_false (by omega)
theorem yG {b:Bool}{s:List UInt8}{i:Nat}(hi:s.length≤i)(hb:∀j,j<i→hdC b (aa s j:Int)=false):hdB b s=ltB (badI s) 0:=by
 unfold hdB
 rw[dP (fun j hj=>hb j (by omega)),Bool.eq_iff_iff,jJ]
 simp
attribute [local irreducible] AWp AOps aa aA OrOk ad ah
attribute [local irreducible] hdC hdB badI
theorem mv {G:Glo}(c:Int):FnIs Tryz.prog G 127 [.int .u8 c] (.bool (hdC false c)):=by
 have hGL:ad G []:=ab
 refine fn_x Tryz.func127 Tryz.call127 rfl rfl rfl rfl hGL ?_
 intro C hC
 refine xw ?_
 repeat' (first|exact Le.n|refine Lc.mk ?_ ?_)
 all_goals intros
 all_goals (apply ak;refine congrArg AVal.bool ?_)
 all_goals (rw[Bool.eq_iff_iff,qr];simp only[dp,reduceCtorEq,true_iff,false_iff];omega)
end
section
open Go Go.RowKit
attribute [local irreducible] AWp AOps aa aA OrOk ad ah
attribute [local irreducible] hdC hdB badI
theorem rO {G:Glo}(c:Int):FnIs Tryz.prog G 171 [.int .u8 c] (.bool (hdC false c)):=by
 have hGL:ad G []:=ab
 refine fn_x Tryz.func171 Tryz.call171 rfl rfl rfl rfl hGL ?_
 intro C hC
 refine xw ?_
 repeat' (first|exact Le.n|refine Lc.mk ?_ ?_)
 all_goals intros
 all_goals (apply ak;refine congrArg AVal.bool ?_)
 all_goals (rw[Bool.eq_iff_iff,qr];simp only[dp,reduceCtorEq,true_iff,false_iff];omega)
end
section
open Go Go.RowKit
theorem jt {G:Glo}(s:List UInt8)(c:UInt8):FnIs Tryz.prog G 187 [.str s,.str [c]] (.int .i64 (s.countP (· ==c):Nat)):=by
 refine bB rfl Tryz.call187 ?_
 rintro R args ⟨x,t,e,hx,y,t',e',hy,rfl⟩ w hG hs
 obtain rfl:=aE.1 hx
 obtain rfl:=aE.1 hy
 subst e'
 obtain rfl:=eA e
 refine(Tryz.strings_Count_one ⟨s.toArray⟩ c w).mono ?_
 rintro e w' ⟨rfl,rfl⟩
 exact⟨by simp[AVal.conc,Lib.countByte,List.count],Below.refl _ _⟩
end
section
open Go Go.RowKit
theorem xm0 {P:Prop}(h:P:=by
  repeat' (first
   |(conv=>whnf);first
    |refine .w ?_|refine Ix.v ?_|refine Sd.v ?_|refine Sl.v ?_|apply cY|apply aX
    |refine sc_c ?_ ?_<;>(intro wb;try exact dd wb)
    |apply ao|(apply sc_i<;>intro wb)|(apply bx_i;intro wb)|(apply gt_i;assumption;exact rfl)
    |(apply ax;first|assumption|(apply k1<;>omega))|(apply ab_i;intro wl)|(apply ak;exact rfl)|(show Rt _ _ _;exact rt_w)
    |exact True.intro|(apply bc_i;intro wC whC)|apply bt_i|apply og_n|(apply og_a;exact rfl))
  all_goals (try conv=>whnf)):P:=h
theorem xm1 {P Q:Prop}(hQ:Q)(h:Lf Q→P:=by
  intro ww
  repeat' (first
   |(conv=>whnf);first
    |refine .w ?_|refine Ix.v ?_|refine Sd.v ?_|refine Sl.v ?_|apply cY|apply aX
    |refine sc_c ?_ ?_<;>(intro wb;try exact dd wb)
    |apply ao|(apply sc_i<;>intro wb)|(apply bx_i;intro wb)|(apply gt_i;assumption;exact rfl)
    |(apply ax;first|assumption|(apply k1<;>omega))|(apply ab_i;intro wl)|(apply ak;exact rfl)|(show Rt _ _ _;exact rt_w)
    |exact True.intro|(apply bc_i;intro wC whC)|apply bt_i|apply og_n|(apply og_a;exact rfl))
  all_goals (try conv=>whnf)
  all_goals (repeat (first|revert wb|revert wl|revert whC|revert wC))
  all_goals (apply Lf.h;apply ww)):P:=h ⟨hQ⟩
theorem xm {P Q:Prop}(hQ:Q)(h:Lf Q→P:=by
  intro ww
  repeat' (first
   |(conv=>whnf);first
    |refine .w ?_|refine Ix.v ?_|refine Sd.v ?_|refine Sl.v ?_|apply cY|apply aX
    |refine sc_c ?_ ?_<;>(intro wb;try exact dd wb)
    |apply ao|(apply sc_i<;>intro wb)|(apply bx_i;intro wb)|(apply gt_i;assumption;exact rfl)
    |(apply ax;first|assumption|(apply k1<;>omega))|(apply ab_i;intro wl)|(apply ak;exact rfl)|(show Rt _ _ _;exact rt_w)
    |exact True.intro|(apply bc_i;intro wC whC)|apply bt_i|apply og_n|(apply og_a;exact rfl))
  all_goals (try conv=>whnf)
  all_goals (repeat (first|revert wb|revert wl|revert whC|revert wC))
  all_goals (apply Lf.l;with_reducible (repeat (first|apply ww|apply Lf.r)))) (e:Lz Q:=by repeat (first|exact Lz.n|apply Lz.c)):P:=h ⟨hQ⟩
end
section
open Go
theorem z7 {a b c:UInt8}(r:Int):(0≤idxB [a,b,c] r↔∃x∈[a,b,c],r=x.toNat):=by
 unfold idxB
 simp only[idxF,List.mem_cons,List.not_mem_nil,or_false,exists_eq_or_imp,exists_eq_left]
 split
 ·omega
 ·split
  ·omega
  ·split<;>omega
end
end Go.Proofs.YtdpbejofgemloaaGreatDoor
