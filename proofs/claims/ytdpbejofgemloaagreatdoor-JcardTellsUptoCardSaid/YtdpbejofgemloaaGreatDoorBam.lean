/- Parts of the proof of jcardTells_card: Eso. -/
import Derived.Test.YtdpbejofgemloaaGreatDoorBak
import Derived.Test.YtdpbejofgemloaaGreatDoorBai
set_option linter.unusedVariables false
set_option linter.unusedSimpArgs false
set_option linter.unusedSectionVars false
namespace Go.Proofs.YtdpbejofgemloaaGreatDoor
set_option maxRecDepth 20000
set_option maxHeartbeats 4000000
section
open Go Go.RowKit
set_option maxHeartbeats 40000000
attribute [local irreducible] AWp AOps aA OrOk ad ah
attribute [local irreducible] tabE escF escS
def cntE (s:List UInt8):Nat→Nat
 |0=>0
 |1=>s.countP (· ==10)
 |2=>s.countP (· ==10)+s.countP (· ==59)
 |3=>s.countP (· ==10)+s.countP (· ==59)+s.countP (· ==44)
 |_=>s.countP (· ==10)+s.countP (· ==59)+s.countP (· ==44)+s.countP (· ==92)
theorem uI {G:Glo}(br bl vc:Nat)(cs:List AVal)(va:Option Addr)(vk vt bz b1 c1 b2 c2 b3 c3 b4 c4:Nat)(hva:RowV 4 va vk)(s:List UInt8)(hl:s.length≤2000000)(hct:∀c,FnIs Tryz.prog G 187 [.str s,.str [c]] (.int .i64 (s.countP (· ==c):Nat))):
  ah Tryz.prog G 296 [.raw (pv bz 0),.str s] (escH br bl vc cs va vk vt bz b1 c1 b2 c2 b3 c3 b4 c4) (fun r H=>r= .ret (.str (escS s))∧H=[]):=by
 have hGL:ad G []:=ab
 have k1:=hct
 obtain⟨bt,rfl,rfl⟩:=hva (by omega)
 have ht:=A4 (.own 4 (.slice (some ⟨b1,0,none⟩) 2 c1)) (.own 5 (.slice (some ⟨b2,0,none⟩) 2 c2)) (.own 6 (.slice (some ⟨b3,0,none⟩) 2 c3)) (.own 7 (.slice (some ⟨b4,0,none⟩) 2 c4)) (.own 2 (.slice (some ⟨bt,0,none⟩) 4 vt))
 have hg:=fun n hn=>A3 (n:=n) (a0:=.own 4 (.slice (some ⟨b1,0,none⟩) 2 c1)) (a1:=.own 5 (.slice (some ⟨b2,0,none⟩) 2 c2)) (a2:=.own 6 (.slice (some ⟨b3,0,none⟩) 2 c3)) (a3:=.own 7 (.slice (some ⟨b4,0,none⟩) 2 c4)) (t:=.own 2 (.slice (some ⟨bt,0,none⟩) 4 vt)) hn
 have ec:=wW s
 have el:=fi s
 refine gh 3 Tryz.func296 Tryz.call296 rfl rfl rfl rfl hGL rfl ?_
 intro C hC
 refine xm1 ?_
 intros
 erw[ht]
 refine xm ?_
 repeat' (first|exact Le.n|refine Lc.mk ?_ ?_)
 all_goals intros
 ·erw[ht]
  refine xm1 ?_
  intros
  refine lp hC hGL (fun x:Nat×Nat×Bool=>[(0,.own 3 (pv bz 0)),(1,.str s),(5,.int .i64 (x.2.1:Nat)),(6,.bool x.2.2),(30,.own 2 (.slice (some ⟨bt,0,none⟩) 4 vt)),(31,.int .i64 4),(32,.int .i64 (x.1:Nat))]) (fun _=>escH br bl vc cs (some ⟨bt,0,none⟩) 4 vt bz b1 c1 b2 c2 b3 c3 b4 c4) (fun x=>x.1≤4∧x.2.1=s.length+cntE s x.1∧(x.2.2=true↔cntE s x.1≠0)) (fun x=>4-x.1) (0,s.length,false) ?_ ae rfl ?_
  ·exact⟨by omega,rfl,by simp[cntE]⟩
  ·have r0:cD (.slice (some ⟨bt,0,none⟩) 4 vt) bt 4:=⟨_,rfl⟩
   have d0:([.str [10],.str [59],.str [44],.str [92]]:List AVal)[0]? =some (.str [10]):=rfl
   have d1:([.str [10],.str [59],.str [44],.str [92]]:List AVal)[1]? =some (.str [59]):=rfl
   have d2:([.str [10],.str [59],.str [44],.str [92]]:List AVal)[2]? =some (.str [44]):=rfl
   have d3:([.str [10],.str [59],.str [44],.str [92]]:List AVal)[3]? =some (.str [92]):=rfl
   rintro⟨k,n,any⟩ ⟨hk,hn,ha⟩
   rcases(show k=0∨k=1∨k=2∨k=3∨k=4 by omega) with rfl|rfl|rfl|rfl|rfl
   ·have g:=hg 10 (by decide)
    rw[if_neg (by decide),if_neg (by decide),if_neg (by decide),if_pos rfl] at g
    have hle:s.countP (· ==10)≤s.length:=List.countP_le_length
    have hn:n=s.length+(0):=hn
    have ha:any=true↔0≠0:=ha
    refine xm ?_
    repeat' (first|exact Le.n|refine Lc.mk ?_ ?_)
    all_goals intros
    ·refine dw_p mixed hC hGL true (fun(_:Unit)=>[(0,.own 3 (pv bz 0)),(1,.str s),(5,.int .i64 ((n:Nat)+(s.countP (· ==10):Nat)*1)),(30,.own 2 (.slice (some ⟨bt,0,none⟩) 4 vt)),(31,.int .i64 4),(32,.int .i64 ((0:Nat):Int))]) (fun _=>escH br bl vc cs (some ⟨bt,0,none⟩) 4 vt bz b1 c1 b2 c2 b3 c3 b4 c4) (.take 0 (.take 1 (.take 2 (.take 3 (.take 4 (.take 5 (.take 6 (.take 7 (.take 8 (.take 9 (.take 10 (.take 11 (.take 12 (.take 13 (.done))))))))))))))) (by kernel_rfl) ?_ ?_
     ·refine xm1 ?_
      intros
      erw[g]
      refine xm1 ?_
      intros
      exact⟨(),⟨rfl,rfl,rfl,rfl,rfl,rfl,trivial⟩,rfl⟩
     ·intro _
      refine xm1 ?_
      intros
      refine nxt (1,n+s.countP (· ==10),true) ?_ ?_ ⟨rfl,rfl,?_,rfl,rfl,rfl,rfl,trivial⟩ rfl
      ·refine⟨by omega,?_,⟨fun _=> ?_,fun _=>rfl⟩⟩
       ·show n+s.countP (· ==10)=s.length+(s.countP (· ==10));omega
       ·show s.countP (· ==10)≠0;omega
      ·show 4-1<4-0;omega
      ·show some (AVal.int .i64 ((n:Int)+(s.countP (· ==10):Nat)*1))=some (AVal.int .i64 ((n+s.countP (· ==10):Nat):Int))
       rw[Int.mul_one,Int.natCast_add]
    ·refine nxt (1,n,any) ?_ ?_ ae rfl
     ·refine⟨by omega,?_,?_⟩
      ·show n=s.length+(s.countP (· ==10));omega
      ·show any=true↔s.countP (· ==10)≠0
       exact ha.trans (by omega)
     ·show 4-1<4-0;omega
   ·have g:=hg 59 (by decide)
    rw[if_neg (by decide),if_neg (by decide),if_pos rfl] at g
    have hle:s.countP (· ==59)≤s.length:=List.countP_le_length
    have hn:n=s.length+(s.countP (· ==10)):=hn
    have ha:any=true↔s.countP (· ==10)≠0:=ha
    refine xm ?_
    repeat' (first|exact Le.n|refine Lc.mk ?_ ?_)
    all_goals intros
    ·refine dw_p mixed hC hGL true (fun(_:Unit)=>[(0,.own 3 (pv bz 0)),(1,.str s),(5,.int .i64 ((n:Nat)+(s.countP (· ==59):Nat)*1)),(30,.own 2 (.slice (some ⟨bt,0,none⟩) 4 vt)),(31,.int .i64 4),(32,.int .i64 ((1:Nat):Int))]) (fun _=>escH br bl vc cs (some ⟨bt,0,none⟩) 4 vt bz b1 c1 b2 c2 b3 c3 b4 c4) (.take 0 (.take 1 (.take 2 (.take 3 (.take 4 (.take 5 (.take 6 (.take 7 (.take 8 (.take 9 (.take 10 (.take 11 (.take 12 (.take 13 (.done))))))))))))))) (by kernel_rfl) ?_ ?_
     ·refine xm1 ?_
      intros
      erw[g]
      refine xm1 ?_
      intros
      exact⟨(),⟨rfl,rfl,rfl,rfl,rfl,rfl,trivial⟩,rfl⟩
     ·intro _
      refine xm1 ?_
      intros
      refine nxt (2,n+s.countP (· ==59),true) ?_ ?_ ⟨rfl,rfl,?_,rfl,rfl,rfl,rfl,trivial⟩ rfl
      ·refine⟨by omega,?_,⟨fun _=> ?_,fun _=>rfl⟩⟩
       ·show n+s.countP (· ==59)=s.length+(s.countP (· ==10)+s.countP (· ==59));omega
       ·show s.countP (· ==10)+s.countP (· ==59)≠0;omega
      ·show 4-2<4-1;omega
      ·show some (AVal.int .i64 ((n:Int)+(s.countP (· ==59):Nat)*1))=some (AVal.int .i64 ((n+s.countP (· ==59):Nat):Int))
       rw[Int.mul_one,Int.natCast_add]
    ·refine nxt (2,n,any) ?_ ?_ ae rfl
     ·refine⟨by omega,?_,?_⟩
      ·show n=s.length+(s.countP (· ==10)+s.countP (· ==59));omega
      ·show any=true↔s.countP (· ==10)+s.countP (· ==59)≠0
       exact ha.trans (by omega)
     ·show 4-2<4-1;omega
   ·have g:=hg 44 (by decide)
    rw[if_neg (by decide),if_pos rfl] at g
    have hle:s.countP (· ==44)≤s.length:=List.countP_le_length
    have hn:n=s.length+(s.countP (· ==10)+s.countP (· ==59)):=hn
    have ha:any=true↔s.countP (· ==10)+s.countP (· ==59)≠0:=ha
    refine xm ?_
    repeat' (first|exact Le.n|refine Lc.mk ?_ ?_)
    all_goals intros
    ·refine dw_p mixed hC hGL true (fun(_:Unit)=>[(0,.own 3 (pv bz 0)),(1,.str s),(5,.int .i64 ((n:Nat)+(s.countP (· ==44):Nat)*1)),(30,.own 2 (.slice (some ⟨bt,0,none⟩) 4 vt)),(31,.int .i64 4),(32,.int .i64 ((2:Nat):Int))]) (fun _=>escH br bl vc cs (some ⟨bt,0,none⟩) 4 vt bz b1 c1 b2 c2 b3 c3 b4 c4) (.take 0 (.take 1 (.take 2 (.take 3 (.take 4 (.take 5 (.take 6 (.take 7 (.take 8 (.take 9 (.take 10 (.take 11 (.take 12 (.take 13 (.done))))))))))))))) (by kernel_rfl) ?_ ?_
     ·refine xm1 ?_
      intros
      erw[g]
      refine xm1 ?_
      intros
      exact⟨(),⟨rfl,rfl,rfl,rfl,rfl,rfl,trivial⟩,rfl⟩
     ·intro _
      refine xm1 ?_
      intros
      refine nxt (3,n+s.countP (· ==44),true) ?_ ?_ ⟨rfl,rfl,?_,rfl,rfl,rfl,rfl,trivial⟩ rfl
      ·refine⟨by omega,?_,⟨fun _=> ?_,fun _=>rfl⟩⟩
       ·show n+s.countP (· ==44)=s.length+(s.countP (· ==10)+s.countP (· ==59)+s.countP (· ==44));omega
       ·show s.countP (· ==10)+s.countP (· ==59)+s.countP (· ==44)≠0;omega
      ·show 4-3<4-2;omega
      ·show some (AVal.int .i64 ((n:Int)+(s.countP (· ==44):Nat)*1))=some (AVal.int .i64 ((n+s.countP (· ==44):Nat):Int))
       rw[Int.mul_one,Int.natCast_add]
    ·refine nxt (3,n,any) ?_ ?_ ae rfl
     ·refine⟨by omega,?_,?_⟩
      ·show n=s.length+(s.countP (· ==10)+s.countP (· ==59)+s.countP (· ==44));omega
      ·show any=true↔s.countP (· ==10)+s.countP (· ==59)+s.countP (· ==44)≠0
       exact ha.trans (by omega)
     ·show 4-3<4-2;omega
   ·have g:=hg 92 (by decide)
    rw[if_pos rfl] at g
    have hle:s.countP (· ==92)≤s.length:=List.countP_le_length
    have hn:n=s.length+(s.countP (· ==10)+s.countP (· ==59)+s.countP (· ==44)):=hn
    have ha:any=true↔s.countP (· ==10)+s.countP (· ==59)+s.countP (· ==44)≠0:=ha
    refine xm ?_
    repeat' (first|exact Le.n|refine Lc.mk ?_ ?_)
    all_goals intros
    ·refine dw_p mixed hC hGL true (fun(_:Unit)=>[(0,.own 3 (pv bz 0)),(1,.str s),(5,.int .i64 ((n:Nat)+(s.countP (· ==92):Nat)*1)),(30,.own 2 (.slice (some ⟨bt,0,none⟩) 4 vt)),(31,.int .i64 4),(32,.int .i64 ((3:Nat):Int))]) (fun _=>escH br bl vc cs (some ⟨bt,0,none⟩) 4 vt bz b1 c1 b2 c2 b3 c3 b4 c4) (.take 0 (.take 1 (.take 2 (.take 3 (.take 4 (.take 5 (.take 6 (.take 7 (.take 8 (.take 9 (.take 10 (.take 11 (.take 12 (.take 13 (.done))))))))))))))) (by kernel_rfl) ?_ ?_
     ·refine xm1 ?_
      intros
      erw[g]
      refine xm1 ?_
      intros
      exact⟨(),⟨rfl,rfl,rfl,rfl,rfl,rfl,trivial⟩,rfl⟩
     ·intro _
      refine xm1 ?_
      intros
      refine nxt (4,n+s.countP (· ==92),true) ?_ ?_ ⟨rfl,rfl,?_,rfl,rfl,rfl,rfl,trivial⟩ rfl
      ·refine⟨by omega,?_,⟨fun _=> ?_,fun _=>rfl⟩⟩
       ·show n+s.countP (· ==92)=s.length+(s.countP (· ==10)+s.countP (· ==59)+s.countP (· ==44)+s.countP (· ==92));omega
       ·show s.countP (· ==10)+s.countP (· ==59)+s.countP (· ==44)+s.countP (· ==92)≠0;omega
      ·show 4-4<4-3;omega
      ·show some (AVal.int .i64 ((n:Int)+(s.countP (· ==92):Nat)*1))=some (AVal.int .i64 ((n+s.countP (· ==92):Nat):Int))
       rw[Int.mul_one,Int.natCast_add]
    ·refine nxt (4,n,any) ?_ ?_ ae rfl
     ·refine⟨by omega,?_,?_⟩
      ·show n=s.length+(s.countP (· ==10)+s.countP (· ==59)+s.countP (· ==44)+s.countP (· ==92));omega
      ·show any=true↔s.countP (· ==10)+s.countP (· ==59)+s.countP (· ==44)+s.countP (· ==92)≠0
       exact ha.trans (by omega)
     ·show 4-4<4-3;omega
   ·have hn:n=s.length+(s.countP (· ==10)+s.countP (· ==59)+s.countP (· ==44)+s.countP (· ==92)):=hn
    have ha:any=true↔s.countP (· ==10)+s.countP (· ==59)+s.countP (· ==44)+s.countP (· ==92)≠0:=ha
    refine xm ?_
    repeat' (first|exact Le.n|refine Lc.mk ?_ ?_)
    all_goals intros
    ·have hlen:n=(escS s).length:=by omega
     subst hlen
     refine dL (m:=(escS s).length) (by assumption) hGL rfl rfl (by omega) rfl rfl rfl rfl rfl rfl rfl rfl (fun bo=> ?_)
     refine xm1 ?_
     intros
     refine lp hC hGL (fun x:Nat×List UInt8=>[(0,.own 3 (pv bz 0)),(1,.str s),(12,.own 8 (.slice (some ⟨bo,0,none⟩) (escS s).length (escS s).length)),(13,.int .i64 ((escS (s.take x.1)).length:Nat)),(14,.int .i64 (x.1:Nat))]) (fun x=>escH br bl vc cs (some ⟨bt,0,none⟩) 4 vt bz b1 c1 b2 c2 b3 c3 b4 c4++[.buf bo x.2 (escS s).length]) (fun x=>x.1≤s.length∧x.2=escS (s.take x.1)++List.replicate ((escS s).length-(escS (s.take x.1)).length) 0) (fun x=>s.length-x.1) (0,List.replicate (escS s).length 0) ?_ ⟨rfl,rfl,rfl,?_,rfl,trivial⟩ rfl ?_
     ·refine⟨Nat.zero_le _,?_⟩
      show List.replicate (escS s).length 0=escS (s.take 0)++List.replicate ((escS s).length-(escS (s.take 0)).length) 0
      rw[List.take_zero,fh];rfl
     ·show some (AVal.int .i64 0)=some (AVal.int .i64 ((escS (s.take 0)).length:Nat))
      rw[List.take_zero,fh];rfl
     ·rintro⟨i,t⟩ ⟨hi,hT⟩
      have hi:i≤s.length:=hi
      have hT:t=escS (s.take i)++List.replicate ((escS s).length-(escS (s.take i)).length) 0:=hT
      have e0:=jp (s:=s) (i:=i)
      have e1:=jp (s:=s) (i:=i+1)
      have hl2:t.length=(escS s).length:=by rw[hT,List.length_append,List.length_replicate];omega
      by_cases hlt:i<s.length
      ·have hb0:=ju hlt
       have et:=jo hlt
       have hby:=aO s i
       rcases(show aa s i=92∨aa s i=44∨aa s i=59∨aa s i=10∨(aa s i≠92∧aa s i≠44∧aa s i≠59∧aa s i≠10) by omega) with hk|hk|hk|hk|⟨k0,k1,k2,k3⟩
       ·have he:escF s[i]=[92,92]:=by rw[(u8_k (by decide)).2 (hb0.symm.trans hk)];exact r9
        have hj:(escS (s.take i)).length+2≤(escS s).length:=by rw[et,List.length_append,he] at e1;have:([92,92]:List UInt8).length=2:=rfl;omega
        rw[he] at et
        have g:some (AVal.own 7 (.slice (some ⟨b4,0,none⟩) 2 c4))=(tabE (.own 4 (.slice (some ⟨b1,0,none⟩) 2 c1)) (.own 5 (.slice (some ⟨b2,0,none⟩) 2 c2)) (.own 6 (.slice (some ⟨b3,0,none⟩) 2 c3)) (.own 7 (.slice (some ⟨b4,0,none⟩) 2 c4)) (.own 2 (.slice (some ⟨bt,0,none⟩) 4 vt)))[0+0+aa s i*1]? :=by
         rw[show 0+0+aa s i*1=aa s i by omega,hk,hg 92 (by decide),if_pos rfl]
        refine xm1 ?_
        intros
        erw[←g]
        refine xm1 ?_
        intros
        refine dw_p mixed hC hGL false (fun(_:Unit)=>[(0,.own 3 (pv bz 0)),(1,.str s),(12,.own 8 (.slice (some ⟨bo,0,none⟩) (escS s).length (escS s).length)),(13,.int .i64 (((escS (s.take i)).length:Nat)+2)),(14,.int .i64 (i:Nat))]) (fun _=>escH br bl vc cs (some ⟨bt,0,none⟩) 4 vt bz b1 c1 b2 c2 b3 c3 b4 c4++[.buf bo (t.take (escS (s.take i)).length++[92,92]++t.drop ((escS (s.take i)).length+2)) (escS s).length]) (.take 0 (.take 1 (.take 2 (.take 4 (.take 5 (.take 6 (.take 7 (.take 8 (.br 3 (.br 9 (.br 10 (.take 11 (.take 12 (.done))) (.nil)) (.nil)) (.br 9 (.br 3 (.br 10 (.take 11 (.take 12 (.done))) (.nil)) (.nil)) (.nil))))))))))) (by kernel_rfl) ?_ ?_
        ·refine xm ?_
         repeat' (first|exact Le.n|refine Lc.mk ?_ ?_)
         ·intros
          refine aK (i:=8) (o:=(escS (s.take i)).length) (l:=(escS s).length) (c:=(escS s).length) (by assumption) hGL rfl rfl (by omega) (by omega) rfl rfl rfl rfl rfl rfl ?_
          refine xm1 ?_
          intros
          erw[←g]
          refine xm1 ?_
          intros
          refine aN (i:=8) (j:=7) (bl:=bo) (o:=(escS (s.take i)).length) (l:=(escS s).length-(escS (s.take i)).length) (s:=t) (s2:=[92,92]) (by assumption) hGL rfl rfl rfl rfl (by rw[hl2];exact hj) (by show 2≤_;omega) rfl rfl rfl rfl rfl rfl ?_
          refine xm1 ?_
          intros
          exact⟨(),⟨rfl,rfl,rfl,rfl,rfl,trivial⟩,rfl⟩
         ·intros
          erw[←g]
          refine xm1 ?_
          intros
          refine aK (i:=8) (o:=(escS (s.take i)).length) (l:=(escS s).length) (c:=(escS s).length) (by assumption) hGL rfl rfl (by omega) (by omega) rfl rfl rfl rfl rfl rfl ?_
          refine xm1 ?_
          intros
          refine aN (i:=8) (j:=7) (bl:=bo) (o:=(escS (s.take i)).length) (l:=(escS s).length-(escS (s.take i)).length) (s:=t) (s2:=[92,92]) (by assumption) hGL rfl rfl rfl rfl (by rw[hl2];exact hj) (by show 2≤_;omega) rfl rfl rfl rfl rfl rfl ?_
          refine xm1 ?_
          intros
          exact⟨(),⟨rfl,rfl,rfl,rfl,rfl,trivial⟩,rfl⟩
        ·intro _
         refine xm1 ?_
         intros
         refine nxt (i+1,t.take (escS (s.take i)).length++[92,92]++t.drop ((escS (s.take i)).length+2)) ?_ ?_ ⟨rfl,rfl,rfl,?_,rfl,trivial⟩ rfl
         ·refine⟨hlt,?_⟩
          show t.take (escS (s.take i)).length++[92,92]++t.drop ((escS (s.take i)).length+2)=escS (s.take (i+1))++List.replicate ((escS s).length-(escS (s.take (i+1))).length) 0
          rw[hT,et]
          exact fF rfl hj
         ·show s.length-(i+1)<s.length-i;omega
         ·show some (AVal.int .i64 (((escS (s.take i)).length:Nat)+2))=some (AVal.int .i64 ((escS (s.take (i+1))).length:Nat))
          rw[et,List.length_append,Int.natCast_add]
          rfl
       ·have he:escF s[i]=[92,44]:=by rw[(u8_k (by decide)).2 (hb0.symm.trans hk)];exact sb
        have hj:(escS (s.take i)).length+2≤(escS s).length:=by rw[et,List.length_append,he] at e1;have:([92,44]:List UInt8).length=2:=rfl;omega
        rw[he] at et
        have g:some (AVal.own 6 (.slice (some ⟨b3,0,none⟩) 2 c3))=(tabE (.own 4 (.slice (some ⟨b1,0,none⟩) 2 c1)) (.own 5 (.slice (some ⟨b2,0,none⟩) 2 c2)) (.own 6 (.slice (some ⟨b3,0,none⟩) 2 c3)) (.own 7 (.slice (some ⟨b4,0,none⟩) 2 c4)) (.own 2 (.slice (some ⟨bt,0,none⟩) 4 vt)))[0+0+aa s i*1]? :=by
         rw[show 0+0+aa s i*1=aa s i by omega,hk,hg 44 (by decide),if_neg (by decide),if_pos rfl]
        refine xm1 ?_
        intros
        erw[←g]
        refine xm1 ?_
        intros
        refine dw_p mixed hC hGL false (fun(_:Unit)=>[(0,.own 3 (pv bz 0)),(1,.str s),(12,.own 8 (.slice (some ⟨bo,0,none⟩) (escS s).length (escS s).length)),(13,.int .i64 (((escS (s.take i)).length:Nat)+2)),(14,.int .i64 (i:Nat))]) (fun _=>escH br bl vc cs (some ⟨bt,0,none⟩) 4 vt bz b1 c1 b2 c2 b3 c3 b4 c4++[.buf bo (t.take (escS (s.take i)).length++[92,44]++t.drop ((escS (s.take i)).length+2)) (escS s).length]) (.take 0 (.take 1 (.take 2 (.take 4 (.take 5 (.take 6 (.take 7 (.take 8 (.br 3 (.br 9 (.br 10 (.take 11 (.take 12 (.done))) (.nil)) (.nil)) (.br 9 (.br 3 (.br 10 (.take 11 (.take 12 (.done))) (.nil)) (.nil)) (.nil))))))))))) (by kernel_rfl) ?_ ?_
        ·refine xm ?_
         repeat' (first|exact Le.n|refine Lc.mk ?_ ?_)
         ·intros
          refine aK (i:=8) (o:=(escS (s.take i)).length) (l:=(escS s).length) (c:=(escS s).length) (by assumption) hGL rfl rfl (by omega) (by omega) rfl rfl rfl rfl rfl rfl ?_
          refine xm1 ?_
          intros
          erw[←g]
          refine xm1 ?_
          intros
          refine aN (i:=8) (j:=6) (bl:=bo) (o:=(escS (s.take i)).length) (l:=(escS s).length-(escS (s.take i)).length) (s:=t) (s2:=[92,44]) (by assumption) hGL rfl rfl rfl rfl (by rw[hl2];exact hj) (by show 2≤_;omega) rfl rfl rfl rfl rfl rfl ?_
          refine xm1 ?_
          intros
          exact⟨(),⟨rfl,rfl,rfl,rfl,rfl,trivial⟩,rfl⟩
         ·intros
          erw[←g]
          refine xm1 ?_
          intros
          refine aK (i:=8) (o:=(escS (s.take i)).length) (l:=(escS s).length) (c:=(escS s).length) (by assumption) hGL rfl rfl (by omega) (by omega) rfl rfl rfl rfl rfl rfl ?_
          refine xm1 ?_
          intros
          refine aN (i:=8) (j:=6) (bl:=bo) (o:=(escS (s.take i)).length) (l:=(escS s).length-(escS (s.take i)).length) (s:=t) (s2:=[92,44]) (by assumption) hGL rfl rfl rfl rfl (by rw[hl2];exact hj) (by show 2≤_;omega) rfl rfl rfl rfl rfl rfl ?_
          refine xm1 ?_
          intros
          exact⟨(),⟨rfl,rfl,rfl,rfl,rfl,trivial⟩,rfl⟩
        ·intro _
         refine xm1 ?_
         intros
         refine nxt (i+1,t.take (escS (s.take i)).length++[92,44]++t.drop ((escS (s.take i)).length+2)) ?_ ?_ ⟨rfl,rfl,rfl,?_,rfl,trivial⟩ rfl
         ·refine⟨hlt,?_⟩
          show t.take (escS (s.take i)).length++[92,44]++t.drop ((escS (s.take i)).length+2)=escS (s.take (i+1))++List.replicate ((escS s).length-(escS (s.take (i+1))).length) 0
          rw[hT,et]
          exact fF rfl hj
         ·show s.length-(i+1)<s.length-i;omega
         ·show some (AVal.int .i64 (((escS (s.take i)).length:Nat)+2))=some (AVal.int .i64 ((escS (s.take (i+1))).length:Nat))
          rw[et,List.length_append,Int.natCast_add]
          rfl
       ·have he:escF s[i]=[92,59]:=by rw[(u8_k (by decide)).2 (hb0.symm.trans hk)];exact sa
        have hj:(escS (s.take i)).length+2≤(escS s).length:=by rw[et,List.length_append,he] at e1;have:([92,59]:List UInt8).length=2:=rfl;omega
        rw[he] at et
        have g:some (AVal.own 5 (.slice (some ⟨b2,0,none⟩) 2 c2))=(tabE (.own 4 (.slice (some ⟨b1,0,none⟩) 2 c1)) (.own 5 (.slice (some ⟨b2,0,none⟩) 2 c2)) (.own 6 (.slice (some ⟨b3,0,none⟩) 2 c3)) (.own 7 (.slice (some ⟨b4,0,none⟩) 2 c4)) (.own 2 (.slice (some ⟨bt,0,none⟩) 4 vt)))[0+0+aa s i*1]? :=by
         rw[show 0+0+aa s i*1=aa s i by omega,hk,hg 59 (by decide),if_neg (by decide),if_neg (by decide),if_pos rfl]
        refine xm1 ?_
        intros
        erw[←g]
        refine xm1 ?_
        intros
        refine dw_p mixed hC hGL false (fun(_:Unit)=>[(0,.own 3 (pv bz 0)),(1,.str s),(12,.own 8 (.slice (some ⟨bo,0,none⟩) (escS s).length (escS s).length)),(13,.int .i64 (((escS (s.take i)).length:Nat)+2)),(14,.int .i64 (i:Nat))]) (fun _=>escH br bl vc cs (some ⟨bt,0,none⟩) 4 vt bz b1 c1 b2 c2 b3 c3 b4 c4++[.buf bo (t.take (escS (s.take i)).length++[92,59]++t.drop ((escS (s.take i)).length+2)) (escS s).length]) (.take 0 (.take 1 (.take 2 (.take 4 (.take 5 (.take 6 (.take 7 (.take 8 (.br 3 (.br 9 (.br 10 (.take 11 (.take 12 (.done))) (.nil)) (.nil)) (.br 9 (.br 3 (.br 10 (.take 11 (.take 12 (.done))) (.nil)) (.nil)) (.nil))))))))))) (by kernel_rfl) ?_ ?_
        ·refine xm ?_
         repeat' (first|exact Le.n|refine Lc.mk ?_ ?_)
         ·intros
          refine aK (i:=8) (o:=(escS (s.take i)).length) (l:=(escS s).length) (c:=(escS s).length) (by assumption) hGL rfl rfl (by omega) (by omega) rfl rfl rfl rfl rfl rfl ?_
          refine xm1 ?_
          intros
          erw[←g]
          refine xm1 ?_
          intros
          refine aN (i:=8) (j:=5) (bl:=bo) (o:=(escS (s.take i)).length) (l:=(escS s).length-(escS (s.take i)).length) (s:=t) (s2:=[92,59]) (by assumption) hGL rfl rfl rfl rfl (by rw[hl2];exact hj) (by show 2≤_;omega) rfl rfl rfl rfl rfl rfl ?_
          refine xm1 ?_
          intros
          exact⟨(),⟨rfl,rfl,rfl,rfl,rfl,trivial⟩,rfl⟩
         ·intros
          erw[←g]
          refine xm1 ?_
          intros
          refine aK (i:=8) (o:=(escS (s.take i)).length) (l:=(escS s).length) (c:=(escS s).length) (by assumption) hGL rfl rfl (by omega) (by omega) rfl rfl rfl rfl rfl rfl ?_
          refine xm1 ?_
          intros
          refine aN (i:=8) (j:=5) (bl:=bo) (o:=(escS (s.take i)).length) (l:=(escS s).length-(escS (s.take i)).length) (s:=t) (s2:=[92,59]) (by assumption) hGL rfl rfl rfl rfl (by rw[hl2];exact hj) (by show 2≤_;omega) rfl rfl rfl rfl rfl rfl ?_
          refine xm1 ?_
          intros
          exact⟨(),⟨rfl,rfl,rfl,rfl,rfl,trivial⟩,rfl⟩
        ·intro _
         refine xm1 ?_
         intros
         refine nxt (i+1,t.take (escS (s.take i)).length++[92,59]++t.drop ((escS (s.take i)).length+2)) ?_ ?_ ⟨rfl,rfl,rfl,?_,rfl,trivial⟩ rfl
         ·refine⟨hlt,?_⟩
          show t.take (escS (s.take i)).length++[92,59]++t.drop ((escS (s.take i)).length+2)=escS (s.take (i+1))++List.replicate ((escS s).length-(escS (s.take (i+1))).length) 0
          rw[hT,et]
          exact fF rfl hj
         ·show s.length-(i+1)<s.length-i;omega
         ·show some (AVal.int .i64 (((escS (s.take i)).length:Nat)+2))=some (AVal.int .i64 ((escS (s.take (i+1))).length:Nat))
          rw[et,List.length_append,Int.natCast_add]
          rfl
       ·have he:escF s[i]=[92,110]:=by rw[(u8_k (by decide)).2 (hb0.symm.trans hk)];exact sc
        have hj:(escS (s.take i)).length+2≤(escS s).length:=by rw[et,List.length_append,he] at e1;have:([92,110]:List UInt8).length=2:=rfl;omega
        rw[he] at et
        have g:some (AVal.own 4 (.slice (some ⟨b1,0,none⟩) 2 c1))=(tabE (.own 4 (.slice (some ⟨b1,0,none⟩) 2 c1)) (.own 5 (.slice (some ⟨b2,0,none⟩) 2 c2)) (.own 6 (.slice (some ⟨b3,0,none⟩) 2 c3)) (.own 7 (.slice (some ⟨b4,0,none⟩) 2 c4)) (.own 2 (.slice (some ⟨bt,0,none⟩) 4 vt)))[0+0+aa s i*1]? :=by
         rw[show 0+0+aa s i*1=aa s i by omega,hk,hg 10 (by decide),if_neg (by decide),if_neg (by decide),if_neg (by decide),if_pos rfl]
        refine xm1 ?_
        intros
        erw[←g]
        refine xm1 ?_
        intros
        refine dw_p mixed hC hGL false (fun(_:Unit)=>[(0,.own 3 (pv bz 0)),(1,.str s),(12,.own 8 (.slice (some ⟨bo,0,none⟩) (escS s).length (escS s).length)),(13,.int .i64 (((escS (s.take i)).length:Nat)+2)),(14,.int .i64 (i:Nat))]) (fun _=>escH br bl vc cs (some ⟨bt,0,none⟩) 4 vt bz b1 c1 b2 c2 b3 c3 b4 c4++[.buf bo (t.take (escS (s.take i)).length++[92,110]++t.drop ((escS (s.take i)).length+2)) (escS s).length]) (.take 0 (.take 1 (.take 2 (.take 4 (.take 5 (.take 6 (.take 7 (.take 8 (.br 3 (.br 9 (.br 10 (.take 11 (.take 12 (.done))) (.nil)) (.nil)) (.br 9 (.br 3 (.br 10 (.take 11 (.take 12 (.done))) (.nil)) (.nil)) (.nil))))))))))) (by kernel_rfl) ?_ ?_
        ·refine xm ?_
         repeat' (first|exact Le.n|refine Lc.mk ?_ ?_)
         ·intros
          refine aK (i:=8) (o:=(escS (s.take i)).length) (l:=(escS s).length) (c:=(escS s).length) (by assumption) hGL rfl rfl (by omega) (by omega) rfl rfl rfl rfl rfl rfl ?_
          refine xm1 ?_
          intros
          erw[←g]
          refine xm1 ?_
          intros
          refine aN (i:=8) (j:=4) (bl:=bo) (o:=(escS (s.take i)).length) (l:=(escS s).length-(escS (s.take i)).length) (s:=t) (s2:=[92,110]) (by assumption) hGL rfl rfl rfl rfl (by rw[hl2];exact hj) (by show 2≤_;omega) rfl rfl rfl rfl rfl rfl ?_
          refine xm1 ?_
          intros
          exact⟨(),⟨rfl,rfl,rfl,rfl,rfl,trivial⟩,rfl⟩
         ·intros
          erw[←g]
          refine xm1 ?_
          intros
          refine aK (i:=8) (o:=(escS (s.take i)).length) (l:=(escS s).length) (c:=(escS s).length) (by assumption) hGL rfl rfl (by omega) (by omega) rfl rfl rfl rfl rfl rfl ?_
          refine xm1 ?_
          intros
          refine aN (i:=8) (j:=4) (bl:=bo) (o:=(escS (s.take i)).length) (l:=(escS s).length-(escS (s.take i)).length) (s:=t) (s2:=[92,110]) (by assumption) hGL rfl rfl rfl rfl (by rw[hl2];exact hj) (by show 2≤_;omega) rfl rfl rfl rfl rfl rfl ?_
          refine xm1 ?_
          intros
          exact⟨(),⟨rfl,rfl,rfl,rfl,rfl,trivial⟩,rfl⟩
        ·intro _
         refine xm1 ?_
         intros
         refine nxt (i+1,t.take (escS (s.take i)).length++[92,110]++t.drop ((escS (s.take i)).length+2)) ?_ ?_ ⟨rfl,rfl,rfl,?_,rfl,trivial⟩ rfl
         ·refine⟨hlt,?_⟩
          show t.take (escS (s.take i)).length++[92,110]++t.drop ((escS (s.take i)).length+2)=escS (s.take (i+1))++List.replicate ((escS s).length-(escS (s.take (i+1))).length) 0
          rw[hT,et]
          exact fF rfl hj
         ·show s.length-(i+1)<s.length-i;omega
         ·show some (AVal.int .i64 (((escS (s.take i)).length:Nat)+2))=some (AVal.int .i64 ((escS (s.take (i+1))).length:Nat))
          rw[et,List.length_append,Int.natCast_add]
          rfl
       ·have he:escF s[i]=[s[i]]:=ld (by rw[←hb0];exact k0) (by rw[←hb0];exact k1) (by rw[←hb0];exact k2) (by rw[←hb0];exact k3)
        have hj:(escS (s.take i)).length+1≤(escS s).length:=by rw[et,List.length_append,he,List.length_singleton] at e1;omega
        have hj3:(escS (s.take i)).length<t.length:=by omega
        rw[he] at et
        have g:some (AVal.raw (.slice none 0 0))=(tabE (.own 4 (.slice (some ⟨b1,0,none⟩) 2 c1)) (.own 5 (.slice (some ⟨b2,0,none⟩) 2 c2)) (.own 6 (.slice (some ⟨b3,0,none⟩) 2 c3)) (.own 7 (.slice (some ⟨b4,0,none⟩) 2 c4)) (.own 2 (.slice (some ⟨bt,0,none⟩) 4 vt)))[0+0+aa s i*1]? :=by
         rw[show 0+0+aa s i*1=aa s i by omega,hg _ hby,if_neg k0,if_neg k1,if_neg k2,if_neg k3]
        refine xm1 ?_
        intros
        erw[←g]
        refine xm1 ?_
        intros
        refine nxt (i+1,t.set (escS (s.take i)).length (UInt8.ofNat (aa s i))) ?_ ?_ ⟨rfl,rfl,rfl,?_,rfl,trivial⟩ rfl
        ·refine⟨hlt,?_⟩
         show t.set (escS (s.take i)).length (UInt8.ofNat (aa s i))=escS (s.take (i+1))++List.replicate ((escS s).length-(escS (s.take (i+1))).length) 0
         rw[hT,et,hb0,UInt8.ofNat_toNat]
         exact yX rfl hj
        ·show s.length-(i+1)<s.length-i;omega
        ·show some (AVal.int .i64 (((escS (s.take i)).length:Nat)+1))=some (AVal.int .i64 ((escS (s.take (i+1))).length:Nat))
         rw[et,List.length_append,Int.natCast_add]
         rfl
      ·have hT2:t=escS s:=by rw[hT,lf (by omega),Nat.sub_self,List.replicate_zero,List.append_nil]
       subst hT2
       exact xm0
    ·apply ak
     rw[yR]
     have hb:any=false:=by assumption
     have:¬(s.countP (· ==10)+s.countP (· ==59)+s.countP (· ==44)+s.countP (· ==92)≠0):=fun h=>by have:=ha.2 h;rw[hb] at this;cases this
     omega
 ·refine lp hC hGL (fun x:Nat×Nat×Bool=>[(0,.own 3 (pv bz 0)),(1,.str s),(5,.int .i64 (x.2.1:Nat)),(6,.bool x.2.2),(10,.int .i64 (x.1:Nat))]) (fun _=>escH br bl vc cs (some ⟨bt,0,none⟩) 4 vt bz b1 c1 b2 c2 b3 c3 b4 c4) (fun x=>x.1≤s.length∧x.2.1+x.1=s.length+(escS (s.take x.1)).length∧(x.2.2=true↔(escS (s.take x.1)).length≠x.1)) (fun x=>s.length-x.1) (0,s.length,false) ?_ ae rfl ?_
  ·refine⟨Nat.zero_le _,?_,?_⟩
   ·show s.length+0=s.length+(escS (s.take 0)).length
    rw[List.take_zero,fh];rfl
   ·show false=true↔(escS (s.take 0)).length≠0
    rw[List.take_zero,fh];simp
  ·rintro⟨i,n,any⟩ ⟨hi,hn,ha⟩
   have hi:i≤s.length:=hi
   have hn:n+i=s.length+(escS (s.take i)).length:=hn
   have ha:any=true↔(escS (s.take i)).length≠i:=ha
   have e0:=jp (s:=s) (i:=i)
   have ei:=(fi (s.take i)).1
   rw[List.length_take,Nat.min_eq_left hi] at ei
   by_cases hlt:i<s.length
   ·have hb0:=ju hlt
    have et:=jo hlt
    have e1:=jp (s:=s) (i:=i+1)
    have hby:=aO s i
    rcases(show aa s i=92∨aa s i=44∨aa s i=59∨aa s i=10∨(aa s i≠92∧aa s i≠44∧aa s i≠59∧aa s i≠10) by omega) with hk|hk|hk|hk|⟨k0,k1,k2,k3⟩
    ·have he:escF s[i]=[92,92]:=by rw[(u8_k (by decide)).2 (hb0.symm.trans hk)];exact r9
     rw[he] at et
     have el:(escS (s.take (i+1))).length=(escS (s.take i)).length+2:=by rw[et,List.length_append];rfl
     have g:some (AVal.own 7 (.slice (some ⟨b4,0,none⟩) 2 c4))=(tabE (.own 4 (.slice (some ⟨b1,0,none⟩) 2 c1)) (.own 5 (.slice (some ⟨b2,0,none⟩) 2 c2)) (.own 6 (.slice (some ⟨b3,0,none⟩) 2 c3)) (.own 7 (.slice (some ⟨b4,0,none⟩) 2 c4)) (.own 2 (.slice (some ⟨bt,0,none⟩) 4 vt)))[0+0+aa s i*1]? :=by
      rw[show 0+0+aa s i*1=aa s i by omega,hk,hg 92 (by decide),if_pos rfl]
     refine xm1 ?_
     intros
     erw[←g]
     refine xm1 ?_
     intros
     erw[←g]
     refine xm1 ?_
     intros
     refine nxt (i+1,n+1,true) ?_ ?_ ⟨rfl,rfl,?_,rfl,rfl,trivial⟩ rfl
     ·refine⟨hlt,?_,⟨fun _=> ?_,fun _=>rfl⟩⟩
      ·show n+1+(i+1)=s.length+(escS (s.take (i+1))).length;omega
      ·show(escS (s.take (i+1))).length≠i+1;omega
     ·show s.length-(i+1)<s.length-i;omega
     ·show some (AVal.int .i64 _)=some (AVal.int .i64 ((n+1:Nat):Int))
      rw[Int.natCast_add];rfl
    ·have he:escF s[i]=[92,44]:=by rw[(u8_k (by decide)).2 (hb0.symm.trans hk)];exact sb
     rw[he] at et
     have el:(escS (s.take (i+1))).length=(escS (s.take i)).length+2:=by rw[et,List.length_append];rfl
     have g:some (AVal.own 6 (.slice (some ⟨b3,0,none⟩) 2 c3))=(tabE (.own 4 (.slice (some ⟨b1,0,none⟩) 2 c1)) (.own 5 (.slice (some ⟨b2,0,none⟩) 2 c2)) (.own 6 (.slice (some ⟨b3,0,none⟩) 2 c3)) (.own 7 (.slice (some ⟨b4,0,none⟩) 2 c4)) (.own 2 (.slice (some ⟨bt,0,none⟩) 4 vt)))[0+0+aa s i*1]? :=by
      rw[show 0+0+aa s i*1=aa s i by omega,hk,hg 44 (by decide),if_neg (by decide),if_pos rfl]
     refine xm1 ?_
     intros
     erw[←g]
     refine xm1 ?_
     intros
     erw[←g]
     refine xm1 ?_
     intros
     refine nxt (i+1,n+1,true) ?_ ?_ ⟨rfl,rfl,?_,rfl,rfl,trivial⟩ rfl
     ·refine⟨hlt,?_,⟨fun _=> ?_,fun _=>rfl⟩⟩
      ·show n+1+(i+1)=s.length+(escS (s.take (i+1))).length;omega
      ·show(escS (s.take (i+1))).length≠i+1;omega
     ·show s.length-(i+1)<s.length-i;omega
     ·show some (AVal.int .i64 _)=some (AVal.int .i64 ((n+1:Nat):Int))
      rw[Int.natCast_add];rfl
    ·have he:escF s[i]=[92,59]:=by rw[(u8_k (by decide)).2 (hb0.symm.trans hk)];exact sa
     rw[he] at et
     have el:(escS (s.take (i+1))).length=(escS (s.take i)).length+2:=by rw[et,List.length_append];rfl
     have g:some (AVal.own 5 (.slice (some ⟨b2,0,none⟩) 2 c2))=(tabE (.own 4 (.slice (some ⟨b1,0,none⟩) 2 c1)) (.own 5 (.slice (some ⟨b2,0,none⟩) 2 c2)) (.own 6 (.slice (some ⟨b3,0,none⟩) 2 c3)) (.own 7 (.slice (some ⟨b4,0,none⟩) 2 c4)) (.own 2 (.slice (some ⟨bt,0,none⟩) 4 vt)))[0+0+aa s i*1]? :=by
      rw[show 0+0+aa s i*1=aa s i by omega,hk,hg 59 (by decide),if_neg (by decide),if_neg (by decide),if_pos rfl]
     refine xm1 ?_
     intros
     erw[←g]
     refine xm1 ?_
     intros
     erw[←g]
     refine xm1 ?_
     intros
     refine nxt (i+1,n+1,true) ?_ ?_ ⟨rfl,rfl,?_,rfl,rfl,trivial⟩ rfl
     ·refine⟨hlt,?_,⟨fun _=> ?_,fun _=>rfl⟩⟩
      ·show n+1+(i+1)=s.length+(escS (s.take (i+1))).length;omega
      ·show(escS (s.take (i+1))).length≠i+1;omega
     ·show s.length-(i+1)<s.length-i;omega
     ·show some (AVal.int .i64 _)=some (AVal.int .i64 ((n+1:Nat):Int))
      rw[Int.natCast_add];rfl
    ·have he:escF s[i]=[92,110]:=by rw[(u8_k (by decide)).2 (hb0.symm.trans hk)];exact sc
     rw[he] at et
     have el:(escS (s.take (i+1))).length=(escS (s.take i)).length+2:=by rw[et,List.length_append];rfl
     have g:some (AVal.own 4 (.slice (some ⟨b1,0,none⟩) 2 c1))=(tabE (.own 4 (.slice (some ⟨b1,0,none⟩) 2 c1)) (.own 5 (.slice (some ⟨b2,0,none⟩) 2 c2)) (.own 6 (.slice (some ⟨b3,0,none⟩) 2 c3)) (.own 7 (.slice (some ⟨b4,0,none⟩) 2 c4)) (.own 2 (.slice (some ⟨bt,0,none⟩) 4 vt)))[0+0+aa s i*1]? :=by
      rw[show 0+0+aa s i*1=aa s i by omega,hk,hg 10 (by decide),if_neg (by decide),if_neg (by decide),if_neg (by decide),if_pos rfl]
     refine xm1 ?_
     intros
     erw[←g]
     refine xm1 ?_
     intros
     erw[←g]
     refine xm1 ?_
     intros
     refine nxt (i+1,n+1,true) ?_ ?_ ⟨rfl,rfl,?_,rfl,rfl,trivial⟩ rfl
     ·refine⟨hlt,?_,⟨fun _=> ?_,fun _=>rfl⟩⟩
      ·show n+1+(i+1)=s.length+(escS (s.take (i+1))).length;omega
      ·show(escS (s.take (i+1))).length≠i+1;omega
     ·show s.length-(i+1)<s.length-i;omega
     ·show some (AVal.int .i64 _)=some (AVal.int .i64 ((n+1:Nat):Int))
      rw[Int.natCast_add];rfl
    ·have he:escF s[i]=[s[i]]:=ld (by rw[←hb0];exact k0) (by rw[←hb0];exact k1) (by rw[←hb0];exact k2) (by rw[←hb0];exact k3)
     rw[he] at et
     have el:(escS (s.take (i+1))).length=(escS (s.take i)).length+1:=by rw[et,List.length_append];rfl
     have g:some (AVal.raw (.slice none 0 0))=(tabE (.own 4 (.slice (some ⟨b1,0,none⟩) 2 c1)) (.own 5 (.slice (some ⟨b2,0,none⟩) 2 c2)) (.own 6 (.slice (some ⟨b3,0,none⟩) 2 c3)) (.own 7 (.slice (some ⟨b4,0,none⟩) 2 c4)) (.own 2 (.slice (some ⟨bt,0,none⟩) 4 vt)))[0+0+aa s i*1]? :=by
      rw[show 0+0+aa s i*1=aa s i by omega,hg _ hby,if_neg k0,if_neg k1,if_neg k2,if_neg k3]
     refine xm1 ?_
     intros
     erw[←g]
     refine xm1 ?_
     intros
     refine nxt (i+1,n,any) ?_ ?_ ae rfl
     ·refine⟨hlt,?_,?_⟩
      ·show n+(i+1)=s.length+(escS (s.take (i+1))).length;omega
      ·show any=true↔(escS (s.take (i+1))).length≠i+1
       exact ha.trans (by omega)
     ·show s.length-(i+1)<s.length-i;omega
   ·have hn2:n=(escS s).length:=by rw[lf (by omega)] at hn;omega
    have ha2:any=true↔(escS s).length≠s.length:=by rw[lf (by omega),show i=s.length by omega] at ha;exact ha
    refine xm ?_
    repeat' (first|exact Le.n|refine Lc.mk ?_ ?_)
    all_goals intros
    ·have hlen:n=(escS s).length:=by omega
     subst hlen
     refine dL (m:=(escS s).length) (by assumption) hGL rfl rfl (by omega) rfl rfl rfl rfl rfl rfl rfl rfl (fun bo=> ?_)
     refine xm1 ?_
     intros
     refine lp hC hGL (fun x:Nat×List UInt8=>[(0,.own 3 (pv bz 0)),(1,.str s),(12,.own 8 (.slice (some ⟨bo,0,none⟩) (escS s).length (escS s).length)),(13,.int .i64 ((escS (s.take x.1)).length:Nat)),(14,.int .i64 (x.1:Nat))]) (fun x=>escH br bl vc cs (some ⟨bt,0,none⟩) 4 vt bz b1 c1 b2 c2 b3 c3 b4 c4++[.buf bo x.2 (escS s).length]) (fun x=>x.1≤s.length∧x.2=escS (s.take x.1)++List.replicate ((escS s).length-(escS (s.take x.1)).length) 0) (fun x=>s.length-x.1) (0,List.replicate (escS s).length 0) ?_ ⟨rfl,rfl,rfl,?_,rfl,trivial⟩ rfl ?_
     ·refine⟨Nat.zero_le _,?_⟩
      show List.replicate (escS s).length 0=escS (s.take 0)++List.replicate ((escS s).length-(escS (s.take 0)).length) 0
      rw[List.take_zero,fh];rfl
     ·show some (AVal.int .i64 0)=some (AVal.int .i64 ((escS (s.take 0)).length:Nat))
      rw[List.take_zero,fh];rfl
     ·rintro⟨i,t⟩ ⟨hi,hT⟩
      have hi:i≤s.length:=hi
      have hT:t=escS (s.take i)++List.replicate ((escS s).length-(escS (s.take i)).length) 0:=hT
      have e0:=jp (s:=s) (i:=i)
      have e1:=jp (s:=s) (i:=i+1)
      have hl2:t.length=(escS s).length:=by rw[hT,List.length_append,List.length_replicate];omega
      by_cases hlt:i<s.length
      ·have hb0:=ju hlt
       have et:=jo hlt
       have hby:=aO s i
       rcases(show aa s i=92∨aa s i=44∨aa s i=59∨aa s i=10∨(aa s i≠92∧aa s i≠44∧aa s i≠59∧aa s i≠10) by omega) with hk|hk|hk|hk|⟨k0,k1,k2,k3⟩
       ·have he:escF s[i]=[92,92]:=by rw[(u8_k (by decide)).2 (hb0.symm.trans hk)];exact r9
        have hj:(escS (s.take i)).length+2≤(escS s).length:=by rw[et,List.length_append,he] at e1;have:([92,92]:List UInt8).length=2:=rfl;omega
        rw[he] at et
        have g:some (AVal.own 7 (.slice (some ⟨b4,0,none⟩) 2 c4))=(tabE (.own 4 (.slice (some ⟨b1,0,none⟩) 2 c1)) (.own 5 (.slice (some ⟨b2,0,none⟩) 2 c2)) (.own 6 (.slice (some ⟨b3,0,none⟩) 2 c3)) (.own 7 (.slice (some ⟨b4,0,none⟩) 2 c4)) (.own 2 (.slice (some ⟨bt,0,none⟩) 4 vt)))[0+0+aa s i*1]? :=by
         rw[show 0+0+aa s i*1=aa s i by omega,hk,hg 92 (by decide),if_pos rfl]
        refine xm1 ?_
        intros
        erw[←g]
        refine xm1 ?_
        intros
        refine dw_p mixed hC hGL false (fun(_:Unit)=>[(0,.own 3 (pv bz 0)),(1,.str s),(12,.own 8 (.slice (some ⟨bo,0,none⟩) (escS s).length (escS s).length)),(13,.int .i64 (((escS (s.take i)).length:Nat)+2)),(14,.int .i64 (i:Nat))]) (fun _=>escH br bl vc cs (some ⟨bt,0,none⟩) 4 vt bz b1 c1 b2 c2 b3 c3 b4 c4++[.buf bo (t.take (escS (s.take i)).length++[92,92]++t.drop ((escS (s.take i)).length+2)) (escS s).length]) (.take 0 (.take 1 (.take 2 (.take 4 (.take 5 (.take 6 (.take 7 (.take 8 (.br 3 (.br 9 (.br 10 (.take 11 (.take 12 (.done))) (.nil)) (.nil)) (.br 9 (.br 3 (.br 10 (.take 11 (.take 12 (.done))) (.nil)) (.nil)) (.nil))))))))))) (by kernel_rfl) ?_ ?_
        ·refine xm ?_
         repeat' (first|exact Le.n|refine Lc.mk ?_ ?_)
         ·intros
          refine aK (i:=8) (o:=(escS (s.take i)).length) (l:=(escS s).length) (c:=(escS s).length) (by assumption) hGL rfl rfl (by omega) (by omega) rfl rfl rfl rfl rfl rfl ?_
          refine xm1 ?_
          intros
          erw[←g]
          refine xm1 ?_
          intros
          refine aN (i:=8) (j:=7) (bl:=bo) (o:=(escS (s.take i)).length) (l:=(escS s).length-(escS (s.take i)).length) (s:=t) (s2:=[92,92]) (by assumption) hGL rfl rfl rfl rfl (by rw[hl2];exact hj) (by show 2≤_;omega) rfl rfl rfl rfl rfl rfl ?_
          refine xm1 ?_
          intros
          exact⟨(),⟨rfl,rfl,rfl,rfl,rfl,trivial⟩,rfl⟩
         ·intros
          erw[←g]
          refine xm1 ?_
          intros
          refine aK (i:=8) (o:=(escS (s.take i)).length) (l:=(escS s).length) (c:=(escS s).length) (by assumption) hGL rfl rfl (by omega) (by omega) rfl rfl rfl rfl rfl rfl ?_
          refine xm1 ?_
          intros
          refine aN (i:=8) (j:=7) (bl:=bo) (o:=(escS (s.take i)).length) (l:=(escS s).length-(escS (s.take i)).length) (s:=t) (s2:=[92,92]) (by assumption) hGL rfl rfl rfl rfl (by rw[hl2];exact hj) (by show 2≤_;omega) rfl rfl rfl rfl rfl rfl ?_
          refine xm1 ?_
          intros
          exact⟨(),⟨rfl,rfl,rfl,rfl,rfl,trivial⟩,rfl⟩
        ·intro _
         refine xm1 ?_
         intros
         refine nxt (i+1,t.take (escS (s.take i)).length++[92,92]++t.drop ((escS (s.take i)).length+2)) ?_ ?_ ⟨rfl,rfl,rfl,?_,rfl,trivial⟩ rfl
         ·refine⟨hlt,?_⟩
          show t.take (escS (s.take i)).length++[92,92]++t.drop ((escS (s.take i)).length+2)=escS (s.take (i+1))++List.replicate ((escS s).length-(escS (s.take (i+1))).length) 0
          rw[hT,et]
          exact fF rfl hj
         ·show s.length-(i+1)<s.length-i;omega
         ·show some (AVal.int .i64 (((escS (s.take i)).length:Nat)+2))=some (AVal.int .i64 ((escS (s.take (i+1))).length:Nat))
          rw[et,List.length_append,Int.natCast_add]
          rfl
       ·have he:escF s[i]=[92,44]:=by rw[(u8_k (by decide)).2 (hb0.symm.trans hk)];exact sb
        have hj:(escS (s.take i)).length+2≤(escS s).length:=by rw[et,List.length_append,he] at e1;have:([92,44]:List UInt8).length=2:=rfl;omega
        rw[he] at et
        have g:some (AVal.own 6 (.slice (some ⟨b3,0,none⟩) 2 c3))=(tabE (.own 4 (.slice (some ⟨b1,0,none⟩) 2 c1)) (.own 5 (.slice (some ⟨b2,0,none⟩) 2 c2)) (.own 6 (.slice (some ⟨b3,0,none⟩) 2 c3)) (.own 7 (.slice (some ⟨b4,0,none⟩) 2 c4)) (.own 2 (.slice (some ⟨bt,0,none⟩) 4 vt)))[0+0+aa s i*1]? :=by
         rw[show 0+0+aa s i*1=aa s i by omega,hk,hg 44 (by decide),if_neg (by decide),if_pos rfl]
        refine xm1 ?_
        intros
        erw[←g]
        refine xm1 ?_
        intros
        refine dw_p mixed hC hGL false (fun(_:Unit)=>[(0,.own 3 (pv bz 0)),(1,.str s),(12,.own 8 (.slice (some ⟨bo,0,none⟩) (escS s).length (escS s).length)),(13,.int .i64 (((escS (s.take i)).length:Nat)+2)),(14,.int .i64 (i:Nat))]) (fun _=>escH br bl vc cs (some ⟨bt,0,none⟩) 4 vt bz b1 c1 b2 c2 b3 c3 b4 c4++[.buf bo (t.take (escS (s.take i)).length++[92,44]++t.drop ((escS (s.take i)).length+2)) (escS s).length]) (.take 0 (.take 1 (.take 2 (.take 4 (.take 5 (.take 6 (.take 7 (.take 8 (.br 3 (.br 9 (.br 10 (.take 11 (.take 12 (.done))) (.nil)) (.nil)) (.br 9 (.br 3 (.br 10 (.take 11 (.take 12 (.done))) (.nil)) (.nil)) (.nil))))))))))) (by kernel_rfl) ?_ ?_
        ·refine xm ?_
         repeat' (first|exact Le.n|refine Lc.mk ?_ ?_)
         ·intros
          refine aK (i:=8) (o:=(escS (s.take i)).length) (l:=(escS s).length) (c:=(escS s).length) (by assumption) hGL rfl rfl (by omega) (by omega) rfl rfl rfl rfl rfl rfl ?_
          refine xm1 ?_
          intros
          erw[←g]
          refine xm1 ?_
          intros
          refine aN (i:=8) (j:=6) (bl:=bo) (o:=(escS (s.take i)).length) (l:=(escS s).length-(escS (s.take i)).length) (s:=t) (s2:=[92,44]) (by assumption) hGL rfl rfl rfl rfl (by rw[hl2];exact hj) (by show 2≤_;omega) rfl rfl rfl rfl rfl rfl ?_
          refine xm1 ?_
          intros
          exact⟨(),⟨rfl,rfl,rfl,rfl,rfl,trivial⟩,rfl⟩
         ·intros
          erw[←g]
          refine xm1 ?_
          intros
          refine aK (i:=8) (o:=(escS (s.take i)).length) (l:=(escS s).length) (c:=(escS s).length) (by assumption) hGL rfl rfl (by omega) (by omega) rfl rfl rfl rfl rfl rfl ?_
          refine xm1 ?_
          intros
          refine aN (i:=8) (j:=6) (bl:=bo) (o:=(escS (s.take i)).length) (l:=(escS s).length-(escS (s.take i)).length) (s:=t) (s2:=[92,44]) (by assumption) hGL rfl rfl rfl rfl (by rw[hl2];exact hj) (by show 2≤_;omega) rfl rfl rfl rfl rfl rfl ?_
          refine xm1 ?_
          intros
          exact⟨(),⟨rfl,rfl,rfl,rfl,rfl,trivial⟩,rfl⟩
        ·intro _
         refine xm1 ?_
         intros
         refine nxt (i+1,t.take (escS (s.take i)).length++[92,44]++t.drop ((escS (s.take i)).length+2)) ?_ ?_ ⟨rfl,rfl,rfl,?_,rfl,trivial⟩ rfl
         ·refine⟨hlt,?_⟩
          show t.take (escS (s.take i)).length++[92,44]++t.drop ((escS (s.take i)).length+2)=escS (s.take (i+1))++List.replicate ((escS s).length-(escS (s.take (i+1))).length) 0
          rw[hT,et]
          exact fF rfl hj
         ·show s.length-(i+1)<s.length-i;omega
         ·show some (AVal.int .i64 (((escS (s.take i)).length:Nat)+2))=some (AVal.int .i64 ((escS (s.take (i+1))).length:Nat))
          rw[et,List.length_append,Int.natCast_add]
          rfl
       ·have he:escF s[i]=[92,59]:=by rw[(u8_k (by decide)).2 (hb0.symm.trans hk)];exact sa
        have hj:(escS (s.take i)).length+2≤(escS s).length:=by rw[et,List.length_append,he] at e1;have:([92,59]:List UInt8).length=2:=rfl;omega
        rw[he] at et
        have g:some (AVal.own 5 (.slice (some ⟨b2,0,none⟩) 2 c2))=(tabE (.own 4 (.slice (some ⟨b1,0,none⟩) 2 c1)) (.own 5 (.slice (some ⟨b2,0,none⟩) 2 c2)) (.own 6 (.slice (some ⟨b3,0,none⟩) 2 c3)) (.own 7 (.slice (some ⟨b4,0,none⟩) 2 c4)) (.own 2 (.slice (some ⟨bt,0,none⟩) 4 vt)))[0+0+aa s i*1]? :=by
         rw[show 0+0+aa s i*1=aa s i by omega,hk,hg 59 (by decide),if_neg (by decide),if_neg (by decide),if_pos rfl]
        refine xm1 ?_
        intros
        erw[←g]
        refine xm1 ?_
        intros
        refine dw_p mixed hC hGL false (fun(_:Unit)=>[(0,.own 3 (pv bz 0)),(1,.str s),(12,.own 8 (.slice (some ⟨bo,0,none⟩) (escS s).length (escS s).length)),(13,.int .i64 (((escS (s.take i)).length:Nat)+2)),(14,.int .i64 (i:Nat))]) (fun _=>escH br bl vc cs (some ⟨bt,0,none⟩) 4 vt bz b1 c1 b2 c2 b3 c3 b4 c4++[.buf bo (t.take (escS (s.take i)).length++[92,59]++t.drop ((escS (s.take i)).length+2)) (escS s).length]) (.take 0 (.take 1 (.take 2 (.take 4 (.take 5 (.take 6 (.take 7 (.take 8 (.br 3 (.br 9 (.br 10 (.take 11 (.take 12 (.done))) (.nil)) (.nil)) (.br 9 (.br 3 (.br 10 (.take 11 (.take 12 (.done))) (.nil)) (.nil)) (.nil))))))))))) (by kernel_rfl) ?_ ?_
        ·refine xm ?_
         repeat' (first|exact Le.n|refine Lc.mk ?_ ?_)
         ·intros
          refine aK (i:=8) (o:=(escS (s.take i)).length) (l:=(escS s).length) (c:=(escS s).length) (by assumption) hGL rfl rfl (by omega) (by omega) rfl rfl rfl rfl rfl rfl ?_
          refine xm1 ?_
          intros
          erw[←g]
          refine xm1 ?_
          intros
          refine aN (i:=8) (j:=5) (bl:=bo) (o:=(escS (s.take i)).length) (l:=(escS s).length-(escS (s.take i)).length) (s:=t) (s2:=[92,59]) (by assumption) hGL rfl rfl rfl rfl (by rw[hl2];exact hj) (by show 2≤_;omega) rfl rfl rfl rfl rfl rfl ?_
          refine xm1 ?_
          intros
          exact⟨(),⟨rfl,rfl,rfl,rfl,rfl,trivial⟩,rfl⟩
         ·intros
          erw[←g]
          refine xm1 ?_
          intros
          refine aK (i:=8) (o:=(escS (s.take i)).length) (l:=(escS s).length) (c:=(escS s).length) (by assumption) hGL rfl rfl (by omega) (by omega) rfl rfl rfl rfl rfl rfl ?_
          refine xm1 ?_
          intros
          refine aN (i:=8) (j:=5) (bl:=bo) (o:=(escS (s.take i)).length) (l:=(escS s).length-(escS (s.take i)).length) (s:=t) (s2:=[92,59]) (by assumption) hGL rfl rfl rfl rfl (by rw[hl2];exact hj) (by show 2≤_;omega) rfl rfl rfl rfl rfl rfl ?_
          refine xm1 ?_
          intros
          exact⟨(),⟨rfl,rfl,rfl,rfl,rfl,trivial⟩,rfl⟩
        ·intro _
         refine xm1 ?_
         intros
         refine nxt (i+1,t.take (escS (s.take i)).length++[92,59]++t.drop ((escS (s.take i)).length+2)) ?_ ?_ ⟨rfl,rfl,rfl,?_,rfl,trivial⟩ rfl
         ·refine⟨hlt,?_⟩
          show t.take (escS (s.take i)).length++[92,59]++t.drop ((escS (s.take i)).length+2)=escS (s.take (i+1))++List.replicate ((escS s).length-(escS (s.take (i+1))).length) 0
          rw[hT,et]
          exact fF rfl hj
         ·show s.length-(i+1)<s.length-i;omega
         ·show some (AVal.int .i64 (((escS (s.take i)).length:Nat)+2))=some (AVal.int .i64 ((escS (s.take (i+1))).length:Nat))
          rw[et,List.length_append,Int.natCast_add]
          rfl
       ·have he:escF s[i]=[92,110]:=by rw[(u8_k (by decide)).2 (hb0.symm.trans hk)];exact sc
        have hj:(escS (s.take i)).length+2≤(escS s).length:=by rw[et,List.length_append,he] at e1;have:([92,110]:List UInt8).length=2:=rfl;omega
        rw[he] at et
        have g:some (AVal.own 4 (.slice (some ⟨b1,0,none⟩) 2 c1))=(tabE (.own 4 (.slice (some ⟨b1,0,none⟩) 2 c1)) (.own 5 (.slice (some ⟨b2,0,none⟩) 2 c2)) (.own 6 (.slice (some ⟨b3,0,none⟩) 2 c3)) (.own 7 (.slice (some ⟨b4,0,none⟩) 2 c4)) (.own 2 (.slice (some ⟨bt,0,none⟩) 4 vt)))[0+0+aa s i*1]? :=by
         rw[show 0+0+aa s i*1=aa s i by omega,hk,hg 10 (by decide),if_neg (by decide),if_neg (by decide),if_neg (by decide),if_pos rfl]
        refine xm1 ?_
        intros
        erw[←g]
        refine xm1 ?_
        intros
        refine dw_p mixed hC hGL false (fun(_:Unit)=>[(0,.own 3 (pv bz 0)),(1,.str s),(12,.own 8 (.slice (some ⟨bo,0,none⟩) (escS s).length (escS s).length)),(13,.int .i64 (((escS (s.take i)).length:Nat)+2)),(14,.int .i64 (i:Nat))]) (fun _=>escH br bl vc cs (some ⟨bt,0,none⟩) 4 vt bz b1 c1 b2 c2 b3 c3 b4 c4++[.buf bo (t.take (escS (s.take i)).length++[92,110]++t.drop ((escS (s.take i)).length+2)) (escS s).length]) (.take 0 (.take 1 (.take 2 (.take 4 (.take 5 (.take 6 (.take 7 (.take 8 (.br 3 (.br 9 (.br 10 (.take 11 (.take 12 (.done))) (.nil)) (.nil)) (.br 9 (.br 3 (.br 10 (.take 11 (.take 12 (.done))) (.nil)) (.nil)) (.nil))))))))))) (by kernel_rfl) ?_ ?_
        ·refine xm ?_
         repeat' (first|exact Le.n|refine Lc.mk ?_ ?_)
         ·intros
          refine aK (i:=8) (o:=(escS (s.take i)).length) (l:=(escS s).length) (c:=(escS s).length) (by assumption) hGL rfl rfl (by omega) (by omega) rfl rfl rfl rfl rfl rfl ?_
          refine xm1 ?_
          intros
          erw[←g]
          refine xm1 ?_
          intros
          refine aN (i:=8) (j:=4) (bl:=bo) (o:=(escS (s.take i)).length) (l:=(escS s).length-(escS (s.take i)).length) (s:=t) (s2:=[92,110]) (by assumption) hGL rfl rfl rfl rfl (by rw[hl2];exact hj) (by show 2≤_;omega) rfl rfl rfl rfl rfl rfl ?_
          refine xm1 ?_
          intros
          exact⟨(),⟨rfl,rfl,rfl,rfl,rfl,trivial⟩,rfl⟩
         ·intros
          erw[←g]
          refine xm1 ?_
          intros
          refine aK (i:=8) (o:=(escS (s.take i)).length) (l:=(escS s).length) (c:=(escS s).length) (by assumption) hGL rfl rfl (by omega) (by omega) rfl rfl rfl rfl rfl rfl ?_
          refine xm1 ?_
          intros
          refine aN (i:=8) (j:=4) (bl:=bo) (o:=(escS (s.take i)).length) (l:=(escS s).length-(escS (s.take i)).length) (s:=t) (s2:=[92,110]) (by assumption) hGL rfl rfl rfl rfl (by rw[hl2];exact hj) (by show 2≤_;omega) rfl rfl rfl rfl rfl rfl ?_
          refine xm1 ?_
          intros
          exact⟨(),⟨rfl,rfl,rfl,rfl,rfl,trivial⟩,rfl⟩
        ·intro _
         refine xm1 ?_
         intros
         refine nxt (i+1,t.take (escS (s.take i)).length++[92,110]++t.drop ((escS (s.take i)).length+2)) ?_ ?_ ⟨rfl,rfl,rfl,?_,rfl,trivial⟩ rfl
         ·refine⟨hlt,?_⟩
          show t.take (escS (s.take i)).length++[92,110]++t.drop ((escS (s.take i)).length+2)=escS (s.take (i+1))++List.replicate ((escS s).length-(escS (s.take (i+1))).length) 0
          rw[hT,et]
          exact fF rfl hj
         ·show s.length-(i+1)<s.length-i;omega
         ·show some (AVal.int .i64 (((escS (s.take i)).length:Nat)+2))=some (AVal.int .i64 ((escS (s.take (i+1))).length:Nat))
          rw[et,List.length_append,Int.natCast_add]
          rfl
       ·have he:escF s[i]=[s[i]]:=ld (by rw[←hb0];exact k0) (by rw[←hb0];exact k1) (by rw[←hb0];exact k2) (by rw[←hb0];exact k3)
        have hj:(escS (s.take i)).length+1≤(escS s).length:=by rw[et,List.length_append,he,List.length_singleton] at e1;omega
        have hj3:(escS (s.take i)).length<t.length:=by omega
        rw[he] at et
        have g:some (AVal.raw (.slice none 0 0))=(tabE (.own 4 (.slice (some ⟨b1,0,none⟩) 2 c1)) (.own 5 (.slice (some ⟨b2,0,none⟩) 2 c2)) (.own 6 (.slice (some ⟨b3,0,none⟩) 2 c3)) (.own 7 (.slice (some ⟨b4,0,none⟩) 2 c4)) (.own 2 (.slice (some ⟨bt,0,none⟩) 4 vt)))[0+0+aa s i*1]? :=by
         rw[show 0+0+aa s i*1=aa s i by omega,hg _ hby,if_neg k0,if_neg k1,if_neg k2,if_neg k3]
        refine xm1 ?_
        intros
        erw[←g]
        refine xm1 ?_
        intros
        refine nxt (i+1,t.set (escS (s.take i)).length (UInt8.ofNat (aa s i))) ?_ ?_ ⟨rfl,rfl,rfl,?_,rfl,trivial⟩ rfl
        ·refine⟨hlt,?_⟩
         show t.set (escS (s.take i)).length (UInt8.ofNat (aa s i))=escS (s.take (i+1))++List.replicate ((escS s).length-(escS (s.take (i+1))).length) 0
         rw[hT,et,hb0,UInt8.ofNat_toNat]
         exact yX rfl hj
        ·show s.length-(i+1)<s.length-i;omega
        ·show some (AVal.int .i64 (((escS (s.take i)).length:Nat)+1))=some (AVal.int .i64 ((escS (s.take (i+1))).length:Nat))
         rw[et,List.length_append,Int.natCast_add]
         rfl
      ·have hT2:t=escS s:=by rw[hT,lf (by omega),Nat.sub_self,List.replicate_zero,List.append_nil]
       subst hT2
       exact xm0
    ·apply ak
     rw[yR]
     have hb:any=false:=by assumption
     exact Decidable.byContradiction fun h=>by have:=ha2.2 h;rw[hb] at this;cases this
end
end Go.Proofs.YtdpbejofgemloaaGreatDoor
