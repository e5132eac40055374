/- Parts of the proof of jcardTells_card: Rpo. -/
import Derived.Test.YtdpbejofgemloaaGreatDoorBai
set_option linter.unusedVariables false
set_option linter.unusedSimpArgs false
set_option linter.unusedSectionVars false
namespace Go.Proofs.YtdpbejofgemloaaGreatDoor
set_option maxRecDepth 20000
set_option maxHeartbeats 4000000
section
open Go Go.RowKit
theorem w7 (s:List UInt8):(encS s).length=s.length+(s.countP (· ==34)+s.countP (· ==10)+s.countP (· ==94)):=by
 induction s with
 |nil=>rfl
 |cons c t ih=>
  rw[js,List.length_append,ih,List.countP_cons,List.countP_cons,List.countP_cons,List.length_cons]
  unfold encF
  by_cases h1:c=94
  ·subst h1;simp;omega
  ·by_cases h2:c=10
   ·subst h2;simp;omega
   ·by_cases h3:c=34
    ·subst h3;simp;omega
    ·simp[h1,h2,h3];omega
theorem yT {s:List UInt8}(h:(encS s).length=s.length):encS s=s:=by
 induction s with
 |nil=>rfl
 |cons c t ih=>
  have h1:=uN c
  have h2:=fk t
  rw[js,List.length_append,List.length_cons] at h
  have h3:(encF c).length=1:=by omega
  rw[js,ih (by omega)]
  revert h3
  unfold encF
  (repeat' split)<;>simp
theorem me {s:List UInt8}{i:Nat}(h:i<s.length):encS (s.take (i+1))=encS (s.take i)++encF s[i]:=by
 rw[List.take_succ_eq_append_getElem h,oJ]
 simp[encS]
theorem lh {s:List UInt8}{i:Nat}(h:s.length≤i):encS (s.take i)=encS s:=by rw[List.take_of_length_le h]
theorem jr {s:List UInt8}{i:Nat}:(encS (s.take i)).length+(encS (s.drop i)).length=(encS s).length:=by
 rw[←List.length_append,←oJ,List.take_append_drop]
theorem dQ {A e:List UInt8}{N j:Nat}{c:UInt8}(hj:j=A.length)(h:A.length+e.length≤N):(A++List.replicate (N-A.length) c).take j++e++(A++List.replicate (N-A.length) c).drop (j+e.length)=A++e++List.replicate (N-(A++e).length) c:=by
 subst hj
 rw[List.take_left,List.drop_append,List.drop_eq_nil_of_le (by omega),List.nil_append,List.drop_replicate,List.length_append]
 congr 2
 omega
theorem oR {A:List UInt8}{N j:Nat}{c d:UInt8}(hj:j=A.length)(h:A.length<N):(A++List.replicate (N-A.length) c).set j d=A++[d]++List.replicate (N-(A++[d]).length) c:=by
 subst hj
 rw[List.set_append_right _ _ (Nat.le_refl _),Nat.sub_self,show N-A.length=(N-(A++[d]).length)+1 by rw[List.length_append,List.length_singleton];omega,List.replicate_succ,List.set_cons_zero,List.append_assoc]
 rfl
attribute [local irreducible] AWp AOps aA OrOk ad ah
attribute [local irreducible] tabC encF encS
theorem eK {c:UInt8}{k:Nat}(hk:k<256):c=UInt8.ofNat k↔c.toNat=k:=by
 constructor
 ·rintro rfl
  rw[UInt8.toNat_ofNat_of_lt' hk]
 ·intro h
  rw[←h,UInt8.ofNat_toNat]
def cntN (s:List UInt8):Nat→Nat
 |0=>0
 |1=>s.countP (· ==34)
 |2=>s.countP (· ==34)+s.countP (· ==10)
 |_=>s.countP (· ==34)+s.countP (· ==10)+s.countP (· ==94)
set_option maxHeartbeats 40000000 in
theorem ve {G:Glo}(br bl vc:Nat)(cs:List AVal)(va:Option Addr)(vk vt bz b1 c1 b2 c2 b3 c3:Nat)(hva:RowV 3 va vk)(s:List UInt8)(hl:s.length≤1000000)(hct:∀c,FnIs Tryz.prog G 187 [.str s,.str [c]] (.int .i64 (s.countP (· ==c):Nat))):
  ah Tryz.prog G 296 [.raw (pv bz 0),.str s] (encH br bl vc cs va vk vt bz b1 c1 b2 c2 b3 c3) (fun r H=>r= .ret (.str (encS s))∧H=[]):=by
 have hGL:ad G []:=ab
 have k1:=hct
 obtain⟨bt,rfl,rfl⟩:=hva (by omega)
 have ht:=A6 34 10 94 (.own 4 (.slice (some ⟨b1,0,none⟩) 2 c1)) (.own 5 (.slice (some ⟨b2,0,none⟩) 2 c2)) (.own 6 (.slice (some ⟨b3,0,none⟩) 2 c3)) (.own 2 (.slice (some ⟨bt,0,none⟩) 3 vt))
 have hg:=fun n hn=>A5 (i:=34) (j:=10) (k:=94) (n:=n) (a:=.own 4 (.slice (some ⟨b1,0,none⟩) 2 c1)) (b:=.own 5 (.slice (some ⟨b2,0,none⟩) 2 c2)) (c:=.own 6 (.slice (some ⟨b3,0,none⟩) 2 c3)) (t:=.own 2 (.slice (some ⟨bt,0,none⟩) 3 vt)) hn
 have ec:=w7 s
 have el:=fk s
 refine gh 3 Tryz.func296 Tryz.call296 rfl rfl rfl rfl hGL rfl ?_
 intro C hC
 refine xm1 ?_
 intros
 erw[ht]
 refine xm ?_
 repeat' (first|exact Le.n|refine Lc.mk ?_ ?_)
 all_goals intros
 ·erw[ht]
  refine xm1 ?_
  intros
  refine lp hC hGL (fun x:Nat×Nat×Bool=>[(0,.own 3 (pv bz 0)),(1,.str s),(5,.int .i64 (x.2.1:Nat)),(6,.bool x.2.2),(30,.own 2 (.slice (some ⟨bt,0,none⟩) 3 vt)),(31,.int .i64 3),(32,.int .i64 (x.1:Nat))]) (fun _=>encH br bl vc cs (some ⟨bt,0,none⟩) 3 vt bz b1 c1 b2 c2 b3 c3) (fun x=>x.1≤3∧x.2.1=s.length+cntN s x.1∧(x.2.2=true↔cntN s x.1≠0)) (fun x=>3-x.1) (0,s.length,false) ?_ ae rfl ?_
  ·exact⟨by omega,rfl,by simp[cntN]⟩
  ·have r0:cD (.slice (some ⟨bt,0,none⟩) 3 vt) bt 3:=⟨_,rfl⟩
   have d0:([.str [34],.str [10],.str [94]]:List AVal)[0]? =some (.str [34]):=rfl
   have d1:([.str [34],.str [10],.str [94]]:List AVal)[1]? =some (.str [10]):=rfl
   have d2:([.str [34],.str [10],.str [94]]:List AVal)[2]? =some (.str [94]):=rfl
   rintro⟨k,n,any⟩ ⟨hk,hn,ha⟩
   rcases(show k=0∨k=1∨k=2∨k=3 by omega) with rfl|rfl|rfl|rfl
   ·have g:=hg 34 (by decide)
    rw[if_neg (by decide),if_neg (by decide),if_pos rfl] at g
    have hle:s.countP (· ==34)≤s.length:=List.countP_le_length
    have hn:n=s.length+(0):=hn
    have ha:any=true↔0≠0:=ha
    refine xm ?_
    repeat' (first|exact Le.n|refine Lc.mk ?_ ?_)
    all_goals intros
    ·refine dw_p mixed hC hGL true (fun(_:Unit)=>[(0,.own 3 (pv bz 0)),(1,.str s),(5,.int .i64 ((n:Nat)+(s.countP (· ==34):Nat)*1)),(30,.own 2 (.slice (some ⟨bt,0,none⟩) 3 vt)),(31,.int .i64 3),(32,.int .i64 ((0:Nat):Int))]) (fun _=>encH br bl vc cs (some ⟨bt,0,none⟩) 3 vt bz b1 c1 b2 c2 b3 c3) (.take 0 (.take 1 (.take 2 (.take 3 (.take 4 (.take 5 (.take 6 (.take 7 (.take 8 (.take 9 (.take 10 (.take 11 (.take 12 (.take 13 (.done))))))))))))))) (by kernel_rfl) ?_ ?_
     ·refine xm1 ?_
      intros
      erw[g]
      refine xm1 ?_
      intros
      exact⟨(),⟨rfl,rfl,rfl,rfl,rfl,rfl,trivial⟩,rfl⟩
     ·intro _
      refine xm1 ?_
      intros
      refine nxt (1,n+s.countP (· ==34),true) ?_ ?_ ⟨rfl,rfl,?_,rfl,rfl,rfl,rfl,trivial⟩ rfl
      ·refine⟨by omega,?_,⟨fun _=> ?_,fun _=>rfl⟩⟩
       ·show n+s.countP (· ==34)=s.length+(s.countP (· ==34));omega
       ·show s.countP (· ==34)≠0;omega
      ·show 3-1<3-0;omega
      ·show some (AVal.int .i64 ((n:Int)+(s.countP (· ==34):Nat)*1))=some (AVal.int .i64 ((n+s.countP (· ==34):Nat):Int))
       rw[Int.mul_one,Int.natCast_add]
    ·refine nxt (1,n,any) ?_ ?_ ae rfl
     ·refine⟨by omega,?_,?_⟩
      ·show n=s.length+(s.countP (· ==34));omega
      ·show any=true↔s.countP (· ==34)≠0
       exact ha.trans (by omega)
     ·show 3-1<3-0;omega
   ·have g:=hg 10 (by decide)
    rw[if_neg (by decide),if_pos rfl] at g
    have hle:s.countP (· ==10)≤s.length:=List.countP_le_length
    have hn:n=s.length+(s.countP (· ==34)):=hn
    have ha:any=true↔s.countP (· ==34)≠0:=ha
    refine xm ?_
    repeat' (first|exact Le.n|refine Lc.mk ?_ ?_)
    all_goals intros
    ·refine dw_p mixed hC hGL true (fun(_:Unit)=>[(0,.own 3 (pv bz 0)),(1,.str s),(5,.int .i64 ((n:Nat)+(s.countP (· ==10):Nat)*1)),(30,.own 2 (.slice (some ⟨bt,0,none⟩) 3 vt)),(31,.int .i64 3),(32,.int .i64 ((1:Nat):Int))]) (fun _=>encH br bl vc cs (some ⟨bt,0,none⟩) 3 vt bz b1 c1 b2 c2 b3 c3) (.take 0 (.take 1 (.take 2 (.take 3 (.take 4 (.take 5 (.take 6 (.take 7 (.take 8 (.take 9 (.take 10 (.take 11 (.take 12 (.take 13 (.done))))))))))))))) (by kernel_rfl) ?_ ?_
     ·refine xm1 ?_
      intros
      erw[g]
      refine xm1 ?_
      intros
      exact⟨(),⟨rfl,rfl,rfl,rfl,rfl,rfl,trivial⟩,rfl⟩
     ·intro _
      refine xm1 ?_
      intros
      refine nxt (2,n+s.countP (· ==10),true) ?_ ?_ ⟨rfl,rfl,?_,rfl,rfl,rfl,rfl,trivial⟩ rfl
      ·refine⟨by omega,?_,⟨fun _=> ?_,fun _=>rfl⟩⟩
       ·show n+s.countP (· ==10)=s.length+(s.countP (· ==34)+s.countP (· ==10));omega
       ·show s.countP (· ==34)+s.countP (· ==10)≠0;omega
      ·show 3-2<3-1;omega
      ·show some (AVal.int .i64 ((n:Int)+(s.countP (· ==10):Nat)*1))=some (AVal.int .i64 ((n+s.countP (· ==10):Nat):Int))
       rw[Int.mul_one,Int.natCast_add]
    ·refine nxt (2,n,any) ?_ ?_ ae rfl
     ·refine⟨by omega,?_,?_⟩
      ·show n=s.length+(s.countP (· ==34)+s.countP (· ==10));omega
      ·show any=true↔s.countP (· ==34)+s.countP (· ==10)≠0
       exact ha.trans (by omega)
     ·show 3-2<3-1;omega
   ·have g:=hg 94 (by decide)
    rw[if_pos rfl] at g
    have hle:s.countP (· ==94)≤s.length:=List.countP_le_length
    have hn:n=s.length+(s.countP (· ==34)+s.countP (· ==10)):=hn
    have ha:any=true↔s.countP (· ==34)+s.countP (· ==10)≠0:=ha
    refine xm ?_
    repeat' (first|exact Le.n|refine Lc.mk ?_ ?_)
    all_goals intros
    ·refine dw_p mixed hC hGL true (fun(_:Unit)=>[(0,.own 3 (pv bz 0)),(1,.str s),(5,.int .i64 ((n:Nat)+(s.countP (· ==94):Nat)*1)),(30,.own 2 (.slice (some ⟨bt,0,none⟩) 3 vt)),(31,.int .i64 3),(32,.int .i64 ((2:Nat):Int))]) (fun _=>encH br bl vc cs (some ⟨bt,0,none⟩) 3 vt bz b1 c1 b2 c2 b3 c3) (.take 0 (.take 1 (.take 2 (.take 3 (.take 4 (.take 5 (.take 6 (.take 7 (.take 8 (.take 9 (.take 10 (.take 11 (.take 12 (.take 13 (.done))))))))))))))) (by kernel_rfl) ?_ ?_
     ·refine xm1 ?_
      intros
      erw[g]
      refine xm1 ?_
      intros
      exact⟨(),⟨rfl,rfl,rfl,rfl,rfl,rfl,trivial⟩,rfl⟩
     ·intro _
      refine xm1 ?_
      intros
      refine nxt (3,n+s.countP (· ==94),true) ?_ ?_ ⟨rfl,rfl,?_,rfl,rfl,rfl,rfl,trivial⟩ rfl
      ·refine⟨by omega,?_,⟨fun _=> ?_,fun _=>rfl⟩⟩
       ·show n+s.countP (· ==94)=s.length+(s.countP (· ==34)+s.countP (· ==10)+s.countP (· ==94));omega
       ·show s.countP (· ==34)+s.countP (· ==10)+s.countP (· ==94)≠0;omega
      ·show 3-3<3-2;omega
      ·show some (AVal.int .i64 ((n:Int)+(s.countP (· ==94):Nat)*1))=some (AVal.int .i64 ((n+s.countP (· ==94):Nat):Int))
       rw[Int.mul_one,Int.natCast_add]
    ·refine nxt (3,n,any) ?_ ?_ ae rfl
     ·refine⟨by omega,?_,?_⟩
      ·show n=s.length+(s.countP (· ==34)+s.countP (· ==10)+s.countP (· ==94));omega
      ·show any=true↔s.countP (· ==34)+s.countP (· ==10)+s.countP (· ==94)≠0
       exact ha.trans (by omega)
     ·show 3-3<3-2;omega
   ·have hn:n=s.length+(s.countP (· ==34)+s.countP (· ==10)+s.countP (· ==94)):=hn
    have ha:any=true↔s.countP (· ==34)+s.countP (· ==10)+s.countP (· ==94)≠0:=ha
    refine xm ?_
    repeat' (first|exact Le.n|refine Lc.mk ?_ ?_)
    all_goals intros
    ·have hlen:n=(encS s).length:=by omega
     subst hlen
     refine dL (m:=(encS s).length) (by assumption) hGL rfl rfl (by omega) rfl rfl rfl rfl rfl rfl rfl rfl (fun bo=> ?_)
     refine xm1 ?_
     intros
     refine lp hC hGL (fun x:Nat×List UInt8=>[(0,.own 3 (pv bz 0)),(1,.str s),(12,.own 7 (.slice (some ⟨bo,0,none⟩) (encS s).length (encS s).length)),(13,.int .i64 ((encS (s.take x.1)).length:Nat)),(14,.int .i64 (x.1:Nat))]) (fun x=>encH br bl vc cs (some ⟨bt,0,none⟩) 3 vt bz b1 c1 b2 c2 b3 c3++[.buf bo x.2 (encS s).length]) (fun x=>x.1≤s.length∧x.2=encS (s.take x.1)++List.replicate ((encS s).length-(encS (s.take x.1)).length) 0) (fun x=>s.length-x.1) (0,List.replicate (encS s).length 0) ?_ ⟨rfl,rfl,rfl,?_,rfl,trivial⟩ rfl ?_
     ·refine⟨Nat.zero_le _,?_⟩
      show List.replicate (encS s).length 0=encS (s.take 0)++List.replicate ((encS s).length-(encS (s.take 0)).length) 0
      rw[List.take_zero,fj];rfl
     ·show some (AVal.int .i64 0)=some (AVal.int .i64 ((encS (s.take 0)).length:Nat))
      rw[List.take_zero,fj];rfl
     ·rintro⟨i,t⟩ ⟨hi,hT⟩
      have hi:i≤s.length:=hi
      have hT:t=encS (s.take i)++List.replicate ((encS s).length-(encS (s.take i)).length) 0:=hT
      have e0:=jr (s:=s) (i:=i)
      have e1:=jr (s:=s) (i:=i+1)
      have hl2:t.length=(encS s).length:=by rw[hT,List.length_append,List.length_replicate];omega
      by_cases hlt:i<s.length
      ·have hb0:=eN hlt
       have et:=me hlt
       have hby:=aO s i
       rcases(show aa s i=94∨aa s i=10∨aa s i=34∨(aa s i≠94∧aa s i≠10∧aa s i≠34) by omega) with hk|hk|hk|⟨k1,k2,k3⟩
       ·have he:encF s[i]=[94,94]:=by rw[(eK (by decide)).2 (hb0.symm.trans hk)];exact sd
        have hj:(encS (s.take i)).length+2≤(encS s).length:=by rw[et,List.length_append,he] at e1;have:([94,94]:List UInt8).length=2:=rfl;omega
        rw[he] at et
        have g:some (AVal.own 6 (.slice (some ⟨b3,0,none⟩) 2 c3))=(tabC 34 10 94 (.own 4 (.slice (some ⟨b1,0,none⟩) 2 c1)) (.own 5 (.slice (some ⟨b2,0,none⟩) 2 c2)) (.own 6 (.slice (some ⟨b3,0,none⟩) 2 c3)) (.own 2 (.slice (some ⟨bt,0,none⟩) 3 vt)))[0+0+aa s i*1]? :=by
         rw[show 0+0+aa s i*1=aa s i by omega,hk,hg 94 (by decide),if_pos rfl]
        refine xm1 ?_
        intros
        erw[←g]
        refine xm1 ?_
        intros
        refine dw_p mixed hC hGL false (fun(_:Unit)=>[(0,.own 3 (pv bz 0)),(1,.str s),(12,.own 7 (.slice (some ⟨bo,0,none⟩) (encS s).length (encS s).length)),(13,.int .i64 (((encS (s.take i)).length:Nat)+2)),(14,.int .i64 (i:Nat))]) (fun _=>encH br bl vc cs (some ⟨bt,0,none⟩) 3 vt bz b1 c1 b2 c2 b3 c3++[.buf bo (t.take (encS (s.take i)).length++[94,94]++t.drop ((encS (s.take i)).length+2)) (encS s).length]) (.take 0 (.take 1 (.take 2 (.take 4 (.take 5 (.take 6 (.take 7 (.take 8 (.br 3 (.br 9 (.br 10 (.take 11 (.take 12 (.done))) (.nil)) (.nil)) (.br 9 (.br 3 (.br 10 (.take 11 (.take 12 (.done))) (.nil)) (.nil)) (.nil))))))))))) (by kernel_rfl) ?_ ?_
        ·refine xm ?_
         repeat' (first|exact Le.n|refine Lc.mk ?_ ?_)
         ·intros
          refine aK (i:=7) (o:=(encS (s.take i)).length) (l:=(encS s).length) (c:=(encS s).length) (by assumption) hGL rfl rfl (by omega) (by omega) rfl rfl rfl rfl rfl rfl ?_
          refine xm1 ?_
          intros
          erw[←g]
          refine xm1 ?_
          intros
          refine aN (i:=7) (j:=6) (bl:=bo) (o:=(encS (s.take i)).length) (l:=(encS s).length-(encS (s.take i)).length) (s:=t) (s2:=[94,94]) (by assumption) hGL rfl rfl rfl rfl (by rw[hl2];exact hj) (by show 2≤_;omega) rfl rfl rfl rfl rfl rfl ?_
          refine xm1 ?_
          intros
          exact⟨(),⟨rfl,rfl,rfl,rfl,rfl,trivial⟩,rfl⟩
         ·intros
          erw[←g]
          refine xm1 ?_
          intros
          refine aK (i:=7) (o:=(encS (s.take i)).length) (l:=(encS s).length) (c:=(encS s).length) (by assumption) hGL rfl rfl (by omega) (by omega) rfl rfl rfl rfl rfl rfl ?_
          refine xm1 ?_
          intros
          refine aN (i:=7) (j:=6) (bl:=bo) (o:=(encS (s.take i)).length) (l:=(encS s).length-(encS (s.take i)).length) (s:=t) (s2:=[94,94]) (by assumption) hGL rfl rfl rfl rfl (by rw[hl2];exact hj) (by show 2≤_;omega) rfl rfl rfl rfl rfl rfl ?_
          refine xm1 ?_
          intros
          exact⟨(),⟨rfl,rfl,rfl,rfl,rfl,trivial⟩,rfl⟩
        ·intro _
         refine xm1 ?_
         intros
         refine nxt (i+1,t.take (encS (s.take i)).length++[94,94]++t.drop ((encS (s.take i)).length+2)) ?_ ?_ ⟨rfl,rfl,rfl,?_,rfl,trivial⟩ rfl
         ·refine⟨hlt,?_⟩
          show t.take (encS (s.take i)).length++[94,94]++t.drop ((encS (s.take i)).length+2)=encS (s.take (i+1))++List.replicate ((encS s).length-(encS (s.take (i+1))).length) 0
          rw[hT,et]
          exact dQ rfl hj
         ·show s.length-(i+1)<s.length-i;omega
         ·show some (AVal.int .i64 (((encS (s.take i)).length:Nat)+2))=some (AVal.int .i64 ((encS (s.take (i+1))).length:Nat))
          rw[et,List.length_append,Int.natCast_add]
          rfl
       ·have he:encF s[i]=[94,110]:=by rw[(eK (by decide)).2 (hb0.symm.trans hk)];exact sf
        have hj:(encS (s.take i)).length+2≤(encS s).length:=by rw[et,List.length_append,he] at e1;have:([94,110]:List UInt8).length=2:=rfl;omega
        rw[he] at et
        have g:some (AVal.own 5 (.slice (some ⟨b2,0,none⟩) 2 c2))=(tabC 34 10 94 (.own 4 (.slice (some ⟨b1,0,none⟩) 2 c1)) (.own 5 (.slice (some ⟨b2,0,none⟩) 2 c2)) (.own 6 (.slice (some ⟨b3,0,none⟩) 2 c3)) (.own 2 (.slice (some ⟨bt,0,none⟩) 3 vt)))[0+0+aa s i*1]? :=by
         rw[show 0+0+aa s i*1=aa s i by omega,hk,hg 10 (by decide),if_neg (by decide),if_pos rfl]
        refine xm1 ?_
        intros
        erw[←g]
        refine xm1 ?_
        intros
        refine dw_p mixed hC hGL false (fun(_:Unit)=>[(0,.own 3 (pv bz 0)),(1,.str s),(12,.own 7 (.slice (some ⟨bo,0,none⟩) (encS s).length (encS s).length)),(13,.int .i64 (((encS (s.take i)).length:Nat)+2)),(14,.int .i64 (i:Nat))]) (fun _=>encH br bl vc cs (some ⟨bt,0,none⟩) 3 vt bz b1 c1 b2 c2 b3 c3++[.buf bo (t.take (encS (s.take i)).length++[94,110]++t.drop ((encS (s.take i)).length+2)) (encS s).length]) (.take 0 (.take 1 (.take 2 (.take 4 (.take 5 (.take 6 (.take 7 (.take 8 (.br 3 (.br 9 (.br 10 (.take 11 (.take 12 (.done))) (.nil)) (.nil)) (.br 9 (.br 3 (.br 10 (.take 11 (.take 12 (.done))) (.nil)) (.nil)) (.nil))))))))))) (by kernel_rfl) ?_ ?_
        ·refine xm ?_
         repeat' (first|exact Le.n|refine Lc.mk ?_ ?_)
         ·intros
          refine aK (i:=7) (o:=(encS (s.take i)).length) (l:=(encS s).length) (c:=(encS s).length) (by assumption) hGL rfl rfl (by omega) (by omega) rfl rfl rfl rfl rfl rfl ?_
          refine xm1 ?_
          intros
          erw[←g]
          refine xm1 ?_
          intros
          refine aN (i:=7) (j:=5) (bl:=bo) (o:=(encS (s.take i)).length) (l:=(encS s).length-(encS (s.take i)).length) (s:=t) (s2:=[94,110]) (by assumption) hGL rfl rfl rfl rfl (by rw[hl2];exact hj) (by show 2≤_;omega) rfl rfl rfl rfl rfl rfl ?_
          refine xm1 ?_
          intros
          exact⟨(),⟨rfl,rfl,rfl,rfl,rfl,trivial⟩,rfl⟩
         ·intros
          erw[←g]
          refine xm1 ?_
          intros
          refine aK (i:=7) (o:=(encS (s.take i)).length) (l:=(encS s).length) (c:=(encS s).length) (by assumption) hGL rfl rfl (by omega) (by omega) rfl rfl rfl rfl rfl rfl ?_
          refine xm1 ?_
          intros
          refine aN (i:=7) (j:=5) (bl:=bo) (o:=(encS (s.take i)).length) (l:=(encS s).length-(encS (s.take i)).length) (s:=t) (s2:=[94,110]) (by assumption) hGL rfl rfl rfl rfl (by rw[hl2];exact hj) (by show 2≤_;omega) rfl rfl rfl rfl rfl rfl ?_
          refine xm1 ?_
          intros
          exact⟨(),⟨rfl,rfl,rfl,rfl,rfl,trivial⟩,rfl⟩
        ·intro _
         refine xm1 ?_
         intros
         refine nxt (i+1,t.take (encS (s.take i)).length++[94,110]++t.drop ((encS (s.take i)).length+2)) ?_ ?_ ⟨rfl,rfl,rfl,?_,rfl,trivial⟩ rfl
         ·refine⟨hlt,?_⟩
          show t.take (encS (s.take i)).length++[94,110]++t.drop ((encS (s.take i)).length+2)=encS (s.take (i+1))++List.replicate ((encS s).length-(encS (s.take (i+1))).length) 0
          rw[hT,et]
          exact dQ rfl hj
         ·show s.length-(i+1)<s.length-i;omega
         ·show some (AVal.int .i64 (((encS (s.take i)).length:Nat)+2))=some (AVal.int .i64 ((encS (s.take (i+1))).length:Nat))
          rw[et,List.length_append,Int.natCast_add]
          rfl
       ·have he:encF s[i]=[94,39]:=by rw[(eK (by decide)).2 (hb0.symm.trans hk)];exact se
        have hj:(encS (s.take i)).length+2≤(encS s).length:=by rw[et,List.length_append,he] at e1;have:([94,39]:List UInt8).length=2:=rfl;omega
        rw[he] at et
        have g:some (AVal.own 4 (.slice (some ⟨b1,0,none⟩) 2 c1))=(tabC 34 10 94 (.own 4 (.slice (some ⟨b1,0,none⟩) 2 c1)) (.own 5 (.slice (some ⟨b2,0,none⟩) 2 c2)) (.own 6 (.slice (some ⟨b3,0,none⟩) 2 c3)) (.own 2 (.slice (some ⟨bt,0,none⟩) 3 vt)))[0+0+aa s i*1]? :=by
         rw[show 0+0+aa s i*1=aa s i by omega,hk,hg 34 (by decide),if_neg (by decide),if_neg (by decide),if_pos rfl]
        refine xm1 ?_
        intros
        erw[←g]
        refine xm1 ?_
        intros
        refine dw_p mixed hC hGL false (fun(_:Unit)=>[(0,.own 3 (pv bz 0)),(1,.str s),(12,.own 7 (.slice (some ⟨bo,0,none⟩) (encS s).length (encS s).length)),(13,.int .i64 (((encS (s.take i)).length:Nat)+2)),(14,.int .i64 (i:Nat))]) (fun _=>encH br bl vc cs (some ⟨bt,0,none⟩) 3 vt bz b1 c1 b2 c2 b3 c3++[.buf bo (t.take (encS (s.take i)).length++[94,39]++t.drop ((encS (s.take i)).length+2)) (encS s).length]) (.take 0 (.take 1 (.take 2 (.take 4 (.take 5 (.take 6 (.take 7 (.take 8 (.br 3 (.br 9 (.br 10 (.take 11 (.take 12 (.done))) (.nil)) (.nil)) (.br 9 (.br 3 (.br 10 (.take 11 (.take 12 (.done))) (.nil)) (.nil)) (.nil))))))))))) (by kernel_rfl) ?_ ?_
        ·refine xm ?_
         repeat' (first|exact Le.n|refine Lc.mk ?_ ?_)
         ·intros
          refine aK (i:=7) (o:=(encS (s.take i)).length) (l:=(encS s).length) (c:=(encS s).length) (by assumption) hGL rfl rfl (by omega) (by omega) rfl rfl rfl rfl rfl rfl ?_
          refine xm1 ?_
          intros
          erw[←g]
          refine xm1 ?_
          intros
          refine aN (i:=7) (j:=4) (bl:=bo) (o:=(encS (s.take i)).length) (l:=(encS s).length-(encS (s.take i)).length) (s:=t) (s2:=[94,39]) (by assumption) hGL rfl rfl rfl rfl (by rw[hl2];exact hj) (by show 2≤_;omega) rfl rfl rfl rfl rfl rfl ?_
          refine xm1 ?_
          intros
          exact⟨(),⟨rfl,rfl,rfl,rfl,rfl,trivial⟩,rfl⟩
         ·intros
          erw[←g]
          refine xm1 ?_
          intros
          refine aK (i:=7) (o:=(encS (s.take i)).length) (l:=(encS s).length) (c:=(encS s).length) (by assumption) hGL rfl rfl (by omega) (by omega) rfl rfl rfl rfl rfl rfl ?_
          refine xm1 ?_
          intros
          refine aN (i:=7) (j:=4) (bl:=bo) (o:=(encS (s.take i)).length) (l:=(encS s).length-(encS (s.take i)).length) (s:=t) (s2:=[94,39]) (by assumption) hGL rfl rfl rfl rfl (by rw[hl2];exact hj) (by show 2≤_;omega) rfl rfl rfl rfl rfl rfl ?_
          refine xm1 ?_
          intros
          exact⟨(),⟨rfl,rfl,rfl,rfl,rfl,trivial⟩,rfl⟩
        ·intro _
         refine xm1 ?_
         intros
         refine nxt (i+1,t.take (encS (s.take i)).length++[94,39]++t.drop ((encS (s.take i)).length+2)) ?_ ?_ ⟨rfl,rfl,rfl,?_,rfl,trivial⟩ rfl
         ·refine⟨hlt,?_⟩
          show t.take (encS (s.take i)).length++[94,39]++t.drop ((encS (s.take i)).length+2)=encS (s.take (i+1))++List.replicate ((encS s).length-(encS (s.take (i+1))).length) 0
          rw[hT,et]
          exact dQ rfl hj
         ·show s.length-(i+1)<s.length-i;omega
         ·show some (AVal.int .i64 (((encS (s.take i)).length:Nat)+2))=some (AVal.int .i64 ((encS (s.take (i+1))).length:Nat))
          rw[et,List.length_append,Int.natCast_add]
          rfl
       ·have he:encF s[i]=[s[i]]:=lg (by rw[←hb0];exact k1) (by rw[←hb0];exact k2) (by rw[←hb0];exact k3)
        have hj:(encS (s.take i)).length+1≤(encS s).length:=by rw[et,List.length_append,he,List.length_singleton] at e1;omega
        have hj3:(encS (s.take i)).length<t.length:=by omega
        rw[he] at et
        have g:some (AVal.raw (.slice none 0 0))=(tabC 34 10 94 (.own 4 (.slice (some ⟨b1,0,none⟩) 2 c1)) (.own 5 (.slice (some ⟨b2,0,none⟩) 2 c2)) (.own 6 (.slice (some ⟨b3,0,none⟩) 2 c3)) (.own 2 (.slice (some ⟨bt,0,none⟩) 3 vt)))[0+0+aa s i*1]? :=by
         rw[show 0+0+aa s i*1=aa s i by omega,hg _ hby,if_neg k1,if_neg k2,if_neg k3]
        refine xm1 ?_
        intros
        erw[←g]
        refine xm1 ?_
        intros
        refine nxt (i+1,t.set (encS (s.take i)).length (UInt8.ofNat (aa s i))) ?_ ?_ ⟨rfl,rfl,rfl,?_,rfl,trivial⟩ rfl
        ·refine⟨hlt,?_⟩
         show t.set (encS (s.take i)).length (UInt8.ofNat (aa s i))=encS (s.take (i+1))++List.replicate ((encS s).length-(encS (s.take (i+1))).length) 0
         rw[hT,et,hb0,UInt8.ofNat_toNat]
         exact oR rfl hj
        ·show s.length-(i+1)<s.length-i;omega
        ·show some (AVal.int .i64 (((encS (s.take i)).length:Nat)+1))=some (AVal.int .i64 ((encS (s.take (i+1))).length:Nat))
         rw[et,List.length_append,Int.natCast_add]
         rfl
      ·have hT2:t=encS s:=by rw[hT,lh (by omega),Nat.sub_self,List.replicate_zero,List.append_nil]
       subst hT2
       exact xm0
    ·apply ak
     rw[yT]
     have hb:any=false:=by assumption
     have:¬(s.countP (· ==34)+s.countP (· ==10)+s.countP (· ==94)≠0):=fun h=>by have:=ha.2 h;rw[hb] at this;cases this
     omega
 ·refine lp hC hGL (fun x:Nat×Nat×Bool=>[(0,.own 3 (pv bz 0)),(1,.str s),(5,.int .i64 (x.2.1:Nat)),(6,.bool x.2.2),(10,.int .i64 (x.1:Nat))]) (fun _=>encH br bl vc cs (some ⟨bt,0,none⟩) 3 vt bz b1 c1 b2 c2 b3 c3) (fun x=>x.1≤s.length∧x.2.1+x.1=s.length+(encS (s.take x.1)).length∧(x.2.2=true↔(encS (s.take x.1)).length≠x.1)) (fun x=>s.length-x.1) (0,s.length,false) ?_ ae rfl ?_
  ·refine⟨Nat.zero_le _,?_,?_⟩
   ·show s.length+0=s.length+(encS (s.take 0)).length
    rw[List.take_zero,fj];rfl
   ·show false=true↔(encS (s.take 0)).length≠0
    rw[List.take_zero,fj];simp
  ·rintro⟨i,n,any⟩ ⟨hi,hn,ha⟩
   have hi:i≤s.length:=hi
   have hn:n+i=s.length+(encS (s.take i)).length:=hn
   have ha:any=true↔(encS (s.take i)).length≠i:=ha
   have e0:=jr (s:=s) (i:=i)
   have ei:=(fk (s.take i)).1
   rw[List.length_take,Nat.min_eq_left hi] at ei
   by_cases hlt:i<s.length
   ·have hb0:=eN hlt
    have et:=me hlt
    have e1:=jr (s:=s) (i:=i+1)
    have hby:=aO s i
    rcases(show aa s i=94∨aa s i=10∨aa s i=34∨(aa s i≠94∧aa s i≠10∧aa s i≠34) by omega) with hk|hk|hk|⟨k1,k2,k3⟩
    ·have he:encF s[i]=[94,94]:=by rw[(eK (by decide)).2 (hb0.symm.trans hk)];exact sd
     rw[he] at et
     have el:(encS (s.take (i+1))).length=(encS (s.take i)).length+2:=by rw[et,List.length_append];rfl
     have g:some (AVal.own 6 (.slice (some ⟨b3,0,none⟩) 2 c3))=(tabC 34 10 94 (.own 4 (.slice (some ⟨b1,0,none⟩) 2 c1)) (.own 5 (.slice (some ⟨b2,0,none⟩) 2 c2)) (.own 6 (.slice (some ⟨b3,0,none⟩) 2 c3)) (.own 2 (.slice (some ⟨bt,0,none⟩) 3 vt)))[0+0+aa s i*1]? :=by
      rw[show 0+0+aa s i*1=aa s i by omega,hk,hg 94 (by decide),if_pos rfl]
     refine xm1 ?_
     intros
     erw[←g]
     refine xm1 ?_
     intros
     erw[←g]
     refine xm1 ?_
     intros
     refine nxt (i+1,n+1,true) ?_ ?_ ⟨rfl,rfl,?_,rfl,rfl,trivial⟩ rfl
     ·refine⟨hlt,?_,⟨fun _=> ?_,fun _=>rfl⟩⟩
      ·show n+1+(i+1)=s.length+(encS (s.take (i+1))).length;omega
      ·show(encS (s.take (i+1))).length≠i+1;omega
     ·show s.length-(i+1)<s.length-i;omega
     ·show some (AVal.int .i64 _)=some (AVal.int .i64 ((n+1:Nat):Int))
      rw[Int.natCast_add];rfl
    ·have he:encF s[i]=[94,110]:=by rw[(eK (by decide)).2 (hb0.symm.trans hk)];exact sf
     rw[he] at et
     have el:(encS (s.take (i+1))).length=(encS (s.take i)).length+2:=by rw[et,List.length_append];rfl
     have g:some (AVal.own 5 (.slice (some ⟨b2,0,none⟩) 2 c2))=(tabC 34 10 94 (.own 4 (.slice (some ⟨b1,0,none⟩) 2 c1)) (.own 5 (.slice (some ⟨b2,0,none⟩) 2 c2)) (.own 6 (.slice (some ⟨b3,0,none⟩) 2 c3)) (.own 2 (.slice (some ⟨bt,0,none⟩) 3 vt)))[0+0+aa s i*1]? :=by
      rw[show 0+0+aa s i*1=aa s i by omega,hk,hg 10 (by decide),if_neg (by decide),if_pos rfl]
     refine xm1 ?_
     intros
     erw[←g]
     refine xm1 ?_
     intros
     erw[←g]
     refine xm1 ?_
     intros
     refine nxt (i+1,n+1,true) ?_ ?_ ⟨rfl,rfl,?_,rfl,rfl,trivial⟩ rfl
     ·refine⟨hlt,?_,⟨fun _=> ?_,fun _=>rfl⟩⟩
      ·show n+1+(i+1)=s.length+(encS (s.take (i+1))).length;omega
      ·show(encS (s.take (i+1))).length≠i+1;omega
     ·show s.length-(i+1)<s.length-i;omega
     ·show some (AVal.int .i64 _)=some (AVal.int .i64 ((n+1:Nat):Int))
      rw[Int.natCast_add];rfl
    ·have he:encF s[i]=[94,39]:=by rw[(eK (by decide)).2 (hb0.symm.trans hk)];exact se
     rw[he] at et
     have el:(encS (s.take (i+1))).length=(encS (s.take i)).length+2:=by rw[et,List.length_append];rfl
     have g:some (AVal.own 4 (.slice (some ⟨b1,0,none⟩) 2 c1))=(tabC 34 10 94 (.own 4 (.slice (some ⟨b1,0,none⟩) 2 c1)) (.own 5 (.slice (some ⟨b2,0,none⟩) 2 c2)) (.own 6 (.slice (some ⟨b3,0,none⟩) 2 c3)) (.own 2 (.slice (some ⟨bt,0,none⟩) 3 vt)))[0+0+aa s i*1]? :=by
      rw[show 0+0+aa s i*1=aa s i by omega,hk,hg 34 (by decide),if_neg (by decide),if_neg (by decide),if_pos rfl]
     refine xm1 ?_
     intros
     erw[←g]
     refine xm1 ?_
     intros
     erw[←g]
     refine xm1 ?_
     intros
     refine nxt (i+1,n+1,true) ?_ ?_ ⟨rfl,rfl,?_,rfl,rfl,trivial⟩ rfl
     ·refine⟨hlt,?_,⟨fun _=> ?_,fun _=>rfl⟩⟩
      ·show n+1+(i+1)=s.length+(encS (s.take (i+1))).length;omega
      ·show(encS (s.take (i+1))).length≠i+1;omega
     ·show s.length-(i+1)<s.length-i;omega
     ·show some (AVal.int .i64 _)=some (AVal.int .i64 ((n+1:Nat):Int))
      rw[Int.natCast_add];rfl
    ·have he:encF s[i]=[s[i]]:=lg (by rw[←hb0];exact k1) (by rw[←hb0];exact k2) (by rw[←hb0];exact k3)
     rw[he] at et
     have el:(encS (s.take (i+1))).length=(encS (s.take i)).length+1:=by rw[et,List.length_append];rfl
     have g:some (AVal.raw (.slice none 0 0))=(tabC 34 10 94 (.own 4 (.slice (some ⟨b1,0,none⟩) 2 c1)) (.own 5 (.slice (some ⟨b2,0,none⟩) 2 c2)) (.own 6 (.slice (some ⟨b3,0,none⟩) 2 c3)) (.own 2 (.slice (some ⟨bt,0,none⟩) 3 vt)))[0+0+aa s i*1]? :=by
      rw[show 0+0+aa s i*1=aa s i by omega,hg _ hby,if_neg k1,if_neg k2,if_neg k3]
     refine xm1 ?_
     intros
     erw[←g]
     refine xm1 ?_
     intros
     refine nxt (i+1,n,any) ?_ ?_ ae rfl
     ·refine⟨hlt,?_,?_⟩
      ·show n+(i+1)=s.length+(encS (s.take (i+1))).length;omega
      ·show any=true↔(encS (s.take (i+1))).length≠i+1
       exact ha.trans (by omega)
     ·show s.length-(i+1)<s.length-i;omega
   ·have hn2:n=(encS s).length:=by rw[lh (by omega)] at hn;omega
    have ha2:any=true↔(encS s).length≠s.length:=by rw[lh (by omega),show i=s.length by omega] at ha;exact ha
    refine xm ?_
    repeat' (first|exact Le.n|refine Lc.mk ?_ ?_)
    all_goals intros
    ·have hlen:n=(encS s).length:=by omega
     subst hlen
     refine dL (m:=(encS s).length) (by assumption) hGL rfl rfl (by omega) rfl rfl rfl rfl rfl rfl rfl rfl (fun bo=> ?_)
     refine xm1 ?_
     intros
     refine lp hC hGL (fun x:Nat×List UInt8=>[(0,.own 3 (pv bz 0)),(1,.str s),(12,.own 7 (.slice (some ⟨bo,0,none⟩) (encS s).length (encS s).length)),(13,.int .i64 ((encS (s.take x.1)).length:Nat)),(14,.int .i64 (x.1:Nat))]) (fun x=>encH br bl vc cs (some ⟨bt,0,none⟩) 3 vt bz b1 c1 b2 c2 b3 c3++[.buf bo x.2 (encS s).length]) (fun x=>x.1≤s.length∧x.2=encS (s.take x.1)++List.replicate ((encS s).length-(encS (s.take x.1)).length) 0) (fun x=>s.length-x.1) (0,List.replicate (encS s).length 0) ?_ ⟨rfl,rfl,rfl,?_,rfl,trivial⟩ rfl ?_
     ·refine⟨Nat.zero_le _,?_⟩
      show List.replicate (encS s).length 0=encS (s.take 0)++List.replicate ((encS s).length-(encS (s.take 0)).length) 0
      rw[List.take_zero,fj];rfl
     ·show some (AVal.int .i64 0)=some (AVal.int .i64 ((encS (s.take 0)).length:Nat))
      rw[List.take_zero,fj];rfl
     ·rintro⟨i,t⟩ ⟨hi,hT⟩
      have hi:i≤s.length:=hi
      have hT:t=encS (s.take i)++List.replicate ((encS s).length-(encS (s.take i)).length) 0:=hT
      have e0:=jr (s:=s) (i:=i)
      have e1:=jr (s:=s) (i:=i+1)
      have hl2:t.length=(encS s).length:=by rw[hT,List.length_append,List.length_replicate];omega
      by_cases hlt:i<s.length
      ·have hb0:=eN hlt
       have et:=me hlt
       have hby:=aO s i
       rcases(show aa s i=94∨aa s i=10∨aa s i=34∨(aa s i≠94∧aa s i≠10∧aa s i≠34) by omega) with hk|hk|hk|⟨k1,k2,k3⟩
       ·have he:encF s[i]=[94,94]:=by rw[(eK (by decide)).2 (hb0.symm.trans hk)];exact sd
        have hj:(encS (s.take i)).length+2≤(encS s).length:=by rw[et,List.length_append,he] at e1;have:([94,94]:List UInt8).length=2:=rfl;omega
        rw[he] at et
        have g:some (AVal.own 6 (.slice (some ⟨b3,0,none⟩) 2 c3))=(tabC 34 10 94 (.own 4 (.slice (some ⟨b1,0,none⟩) 2 c1)) (.own 5 (.slice (some ⟨b2,0,none⟩) 2 c2)) (.own 6 (.slice (some ⟨b3,0,none⟩) 2 c3)) (.own 2 (.slice (some ⟨bt,0,none⟩) 3 vt)))[0+0+aa s i*1]? :=by
         rw[show 0+0+aa s i*1=aa s i by omega,hk,hg 94 (by decide),if_pos rfl]
        refine xm1 ?_
        intros
        erw[←g]
        refine xm1 ?_
        intros
        refine dw_p mixed hC hGL false (fun(_:Unit)=>[(0,.own 3 (pv bz 0)),(1,.str s),(12,.own 7 (.slice (some ⟨bo,0,none⟩) (encS s).length (encS s).length)),(13,.int .i64 (((encS (s.take i)).length:Nat)+2)),(14,.int .i64 (i:Nat))]) (fun _=>encH br bl vc cs (some ⟨bt,0,none⟩) 3 vt bz b1 c1 b2 c2 b3 c3++[.buf bo (t.take (encS (s.take i)).length++[94,94]++t.drop ((encS (s.take i)).length+2)) (encS s).length]) (.take 0 (.take 1 (.take 2 (.take 4 (.take 5 (.take 6 (.take 7 (.take 8 (.br 3 (.br 9 (.br 10 (.take 11 (.take 12 (.done))) (.nil)) (.nil)) (.br 9 (.br 3 (.br 10 (.take 11 (.take 12 (.done))) (.nil)) (.nil)) (.nil))))))))))) (by kernel_rfl) ?_ ?_
        ·refine xm ?_
         repeat' (first|exact Le.n|refine Lc.mk ?_ ?_)
         ·intros
          refine aK (i:=7) (o:=(encS (s.take i)).length) (l:=(encS s).length) (c:=(encS s).length) (by assumption) hGL rfl rfl (by omega) (by omega) rfl rfl rfl rfl rfl rfl ?_
          refine xm1 ?_
          intros
          erw[←g]
          refine xm1 ?_
          intros
          refine aN (i:=7) (j:=6) (bl:=bo) (o:=(encS (s.take i)).length) (l:=(encS s).length-(encS (s.take i)).length) (s:=t) (s2:=[94,94]) (by assumption) hGL rfl rfl rfl rfl (by rw[hl2];exact hj) (by show 2≤_;omega) rfl rfl rfl rfl rfl rfl ?_
          refine xm1 ?_
          intros
          exact⟨(),⟨rfl,rfl,rfl,rfl,rfl,trivial⟩,rfl⟩
         ·intros
          erw[←g]
          refine xm1 ?_
          intros
          refine aK (i:=7) (o:=(encS (s.take i)).length) (l:=(encS s).length) (c:=(encS s).length) (by assumption) hGL rfl rfl (by omega) (by omega) rfl rfl rfl rfl rfl rfl ?_
          refine xm1 ?_
          intros
          refine aN (i:=7) (j:=6) (bl:=bo) (o:=(encS (s.take i)).length) (l:=(encS s).length-(encS (s.take i)).length) (s:=t) (s2:=[94,94]) (by assumption) hGL rfl rfl rfl rfl (by rw[hl2];exact hj) (by show 2≤_;omega) rfl rfl rfl rfl rfl rfl ?_
          refine xm1 ?_
          intros
          exact⟨(),⟨rfl,rfl,rfl,rfl,rfl,trivial⟩,rfl⟩
        ·intro _
         refine xm1 ?_
         intros
         refine nxt (i+1,t.take (encS (s.take i)).length++[94,94]++t.drop ((encS (s.take i)).length+2)) ?_ ?_ ⟨rfl,rfl,rfl,?_,rfl,trivial⟩ rfl
         ·refine⟨hlt,?_⟩
          show t.take (encS (s.take i)).length++[94,94]++t.drop ((encS (s.take i)).length+2)=encS (s.take (i+1))++List.replicate ((encS s).length-(encS (s.take (i+1))).length) 0
          rw[hT,et]
          exact dQ rfl hj
         ·show s.length-(i+1)<s.length-i;omega
         ·show some (AVal.int .i64 (((encS (s.take i)).length:Nat)+2))=some (AVal.int .i64 ((encS (s.take (i+1))).length:Nat))
          rw[et,List.length_append,Int.natCast_add]
          rfl
       ·have he:encF s[i]=[94,110]:=by rw[(eK (by decide)).2 (hb0.symm.trans hk)];exact sf
        have hj:(encS (s.take i)).length+2≤(encS s).length:=by rw[et,List.length_append,he] at e1;have:([94,110]:List UInt8).length=2:=rfl;omega
        rw[he] at et
        have g:some (AVal.own 5 (.slice (some ⟨b2,0,none⟩) 2 c2))=(tabC 34 10 94 (.own 4 (.slice (some ⟨b1,0,none⟩) 2 c1)) (.own 5 (.slice (some ⟨b2,0,none⟩) 2 c2)) (.own 6 (.slice (some ⟨b3,0,none⟩) 2 c3)) (.own 2 (.slice (some ⟨bt,0,none⟩) 3 vt)))[0+0+aa s i*1]? :=by
         rw[show 0+0+aa s i*1=aa s i by omega,hk,hg 10 (by decide),if_neg (by decide),if_pos rfl]
        refine xm1 ?_
        intros
        erw[←g]
        refine xm1 ?_
        intros
        refine dw_p mixed hC hGL false (fun(_:Unit)=>[(0,.own 3 (pv bz 0)),(1,.str s),(12,.own 7 (.slice (some ⟨bo,0,none⟩) (encS s).length (encS s).length)),(13,.int .i64 (((encS (s.take i)).length:Nat)+2)),(14,.int .i64 (i:Nat))]) (fun _=>encH br bl vc cs (some ⟨bt,0,none⟩) 3 vt bz b1 c1 b2 c2 b3 c3++[.buf bo (t.take (encS (s.take i)).length++[94,110]++t.drop ((encS (s.take i)).length+2)) (encS s).length]) (.take 0 (.take 1 (.take 2 (.take 4 (.take 5 (.take 6 (.take 7 (.take 8 (.br 3 (.br 9 (.br 10 (.take 11 (.take 12 (.done))) (.nil)) (.nil)) (.br 9 (.br 3 (.br 10 (.take 11 (.take 12 (.done))) (.nil)) (.nil)) (.nil))))))))))) (by kernel_rfl) ?_ ?_
        ·refine xm ?_
         repeat' (first|exact Le.n|refine Lc.mk ?_ ?_)
         ·intros
          refine aK (i:=7) (o:=(encS (s.take i)).length) (l:=(encS s).length) (c:=(encS s).length) (by assumption) hGL rfl rfl (by omega) (by omega) rfl rfl rfl rfl rfl rfl ?_
          refine xm1 ?_
          intros
          erw[←g]
          refine xm1 ?_
          intros
          refine aN (i:=7) (j:=5) (bl:=bo) (o:=(encS (s.take i)).length) (l:=(encS s).length-(encS (s.take i)).length) (s:=t) (s2:=[94,110]) (by assumption) hGL rfl rfl rfl rfl (by rw[hl2];exact hj) (by show 2≤_;omega) rfl rfl rfl rfl rfl rfl ?_
          refine xm1 ?_
          intros
          exact⟨(),⟨rfl,rfl,rfl,rfl,rfl,trivial⟩,rfl⟩
         ·intros
          erw[←g]
          refine xm1 ?_
          intros
          refine aK (i:=7) (o:=(encS (s.take i)).length) (l:=(encS s).length) (c:=(encS s).length) (by assumption) hGL rfl rfl (by omega) (by omega) rfl rfl rfl rfl rfl rfl ?_
          refine xm1 ?_
          intros
          refine aN (i:=7) (j:=5) (bl:=bo) (o:=(encS (s.take i)).length) (l:=(encS s).length-(encS (s.take i)).length) (s:=t) (s2:=[94,110]) (by assumption) hGL rfl rfl rfl rfl (by rw[hl2];exact hj) (by show 2≤_;omega) rfl rfl rfl rfl rfl rfl ?_
          refine xm1 ?_
          intros
          exact⟨(),⟨rfl,rfl,rfl,rfl,rfl,trivial⟩,rfl⟩
        ·intro _
         refine xm1 ?_
         intros
         refine nxt (i+1,t.take (encS (s.take i)).length++[94,110]++t.drop ((encS (s.take i)).length+2)) ?_ ?_ ⟨rfl,rfl,rfl,?_,rfl,trivial⟩ rfl
         ·refine⟨hlt,?_⟩
          show t.take (encS (s.take i)).length++[94,110]++t.drop ((encS (s.take i)).length+2)=encS (s.take (i+1))++List.replicate ((encS s).length-(encS (s.take (i+1))).length) 0
          rw[hT,et]
          exact dQ rfl hj
         ·show s.length-(i+1)<s.length-i;omega
         ·show some (AVal.int .i64 (((encS (s.take i)).length:Nat)+2))=some (AVal.int .i64 ((encS (s.take (i+1))).length:Nat))
          rw[et,List.length_append,Int.natCast_add]
          rfl
       ·have he:encF s[i]=[94,39]:=by rw[(eK (by decide)).2 (hb0.symm.trans hk)];exact se
        have hj:(encS (s.take i)).length+2≤(encS s).length:=by rw[et,List.length_append,he] at e1;have:([94,39]:List UInt8).length=2:=rfl;omega
        rw[he] at et
        have g:some (AVal.own 4 (.slice (some ⟨b1,0,none⟩) 2 c1))=(tabC 34 10 94 (.own 4 (.slice (some ⟨b1,0,none⟩) 2 c1)) (.own 5 (.slice (some ⟨b2,0,none⟩) 2 c2)) (.own 6 (.slice (some ⟨b3,0,none⟩) 2 c3)) (.own 2 (.slice (some ⟨bt,0,none⟩) 3 vt)))[0+0+aa s i*1]? :=by
         rw[show 0+0+aa s i*1=aa s i by omega,hk,hg 34 (by decide),if_neg (by decide),if_neg (by decide),if_pos rfl]
        refine xm1 ?_
        intros
        erw[←g]
        refine xm1 ?_
        intros
        refine dw_p mixed hC hGL false (fun(_:Unit)=>[(0,.own 3 (pv bz 0)),(1,.str s),(12,.own 7 (.slice (some ⟨bo,0,none⟩) (encS s).length (encS s).length)),(13,.int .i64 (((encS (s.take i)).length:Nat)+2)),(14,.int .i64 (i:Nat))]) (fun _=>encH br bl vc cs (some ⟨bt,0,none⟩) 3 vt bz b1 c1 b2 c2 b3 c3++[.buf bo (t.take (encS (s.take i)).length++[94,39]++t.drop ((encS (s.take i)).length+2)) (encS s).length]) (.take 0 (.take 1 (.take 2 (.take 4 (.take 5 (.take 6 (.take 7 (.take 8 (.br 3 (.br 9 (.br 10 (.take 11 (.take 12 (.done))) (.nil)) (.nil)) (.br 9 (.br 3 (.br 10 (.take 11 (.take 12 (.done))) (.nil)) (.nil)) (.nil))))))))))) (by kernel_rfl) ?_ ?_
        ·refine xm ?_
         repeat' (first|exact Le.n|refine Lc.mk ?_ ?_)
         ·intros
          refine aK (i:=7) (o:=(encS (s.take i)).length) (l:=(encS s).length) (c:=(encS s).length) (by assumption) hGL rfl rfl (by omega) (by omega) rfl rfl rfl rfl rfl rfl ?_
          refine xm1 ?_
          intros
          erw[←g]
          refine xm1 ?_
          intros
          refine aN (i:=7) (j:=4) (bl:=bo) (o:=(encS (s.take i)).length) (l:=(encS s).length-(encS (s.take i)).length) (s:=t) (s2:=[94,39]) (by assumption) hGL rfl rfl rfl rfl (by rw[hl2];exact hj) (by show 2≤_;omega) rfl rfl rfl rfl rfl rfl ?_
          refine xm1 ?_
          intros
          exact⟨(),⟨rfl,rfl,rfl,rfl,rfl,trivial⟩,rfl⟩
         ·intros
          erw[←g]
          refine xm1 ?_
          intros
          refine aK (i:=7) (o:=(encS (s.take i)).length) (l:=(encS s).length) (c:=(encS s).length) (by assumption) hGL rfl rfl (by omega) (by omega) rfl rfl rfl rfl rfl rfl ?_
          refine xm1 ?_
          intros
          refine aN (i:=7) (j:=4) (bl:=bo) (o:=(encS (s.take i)).length) (l:=(encS s).length-(encS (s.take i)).length) (s:=t) (s2:=[94,39]) (by assumption) hGL rfl rfl rfl rfl (by rw[hl2];exact hj) (by show 2≤_;omega) rfl rfl rfl rfl rfl rfl ?_
          refine xm1 ?_
          intros
          exact⟨(),⟨rfl,rfl,rfl,rfl,rfl,trivial⟩,rfl⟩
        ·intro _
         refine xm1 ?_
         intros
         refine nxt (i+1,t.take (encS (s.take i)).length++[94,39]++t.drop ((encS (s.take i)).length+2)) ?_ ?_ ⟨rfl,rfl,rfl,?_,rfl,trivial⟩ rfl
         ·refine⟨hlt,?_⟩
          show t.take (encS (s.take i)).length++[94,39]++t.drop ((encS (s.take i)).length+2)=encS (s.take (i+1))++List.replicate ((encS s).length-(encS (s.take (i+1))).length) 0
          rw[hT,et]
          exact dQ rfl hj
         ·show s.length-(i+1)<s.length-i;omega
         ·show some (AVal.int .i64 (((encS (s.take i)).length:Nat)+2))=some (AVal.int .i64 ((encS (s.take (i+1))).length:Nat))
          rw[et,List.length_append,Int.natCast_add]
          rfl
       ·have he:encF s[i]=[s[i]]:=lg (by rw[←hb0];exact k1) (by rw[←hb0];exact k2) (by rw[←hb0];exact k3)
        have hj:(encS (s.take i)).length+1≤(encS s).length:=by rw[et,List.length_append,he,List.length_singleton] at e1;omega
        have hj3:(encS (s.take i)).length<t.length:=by omega
        rw[he] at et
        have g:some (AVal.raw (.slice none 0 0))=(tabC 34 10 94 (.own 4 (.slice (some ⟨b1,0,none⟩) 2 c1)) (.own 5 (.slice (some ⟨b2,0,none⟩) 2 c2)) (.own 6 (.slice (some ⟨b3,0,none⟩) 2 c3)) (.own 2 (.slice (some ⟨bt,0,none⟩) 3 vt)))[0+0+aa s i*1]? :=by
         rw[show 0+0+aa s i*1=aa s i by omega,hg _ hby,if_neg k1,if_neg k2,if_neg k3]
        refine xm1 ?_
        intros
        erw[←g]
        refine xm1 ?_
        intros
        refine nxt (i+1,t.set (encS (s.take i)).length (UInt8.ofNat (aa s i))) ?_ ?_ ⟨rfl,rfl,rfl,?_,rfl,trivial⟩ rfl
        ·refine⟨hlt,?_⟩
         show t.set (encS (s.take i)).length (UInt8.ofNat (aa s i))=encS (s.take (i+1))++List.replicate ((encS s).length-(encS (s.take (i+1))).length) 0
         rw[hT,et,hb0,UInt8.ofNat_toNat]
         exact oR rfl hj
        ·show s.length-(i+1)<s.length-i;omega
        ·show some (AVal.int .i64 (((encS (s.take i)).length:Nat)+1))=some (AVal.int .i64 ((encS (s.take (i+1))).length:Nat))
         rw[et,List.length_append,Int.natCast_add]
         rfl
      ·have hT2:t=encS s:=by rw[hT,lh (by omega),Nat.sub_self,List.replicate_zero,List.append_nil]
       subst hT2
       exact xm0
    ·apply ak
     rw[yT]
     have hb:any=false:=by assumption
     exact Decidable.byContradiction fun h=>by have:=ha2.2 h;rw[hb] at this;cases this
end
end Go.Proofs.YtdpbejofgemloaaGreatDoor
