/- Parts of the proof of jcardReads_card. -/
import Derived.Lib.IndexBytes
import Derived.Test.YtpgdnpielhfpgaaGreatDoorBam
set_option linter.unusedVariables false
set_option linter.unusedSimpArgs false
set_option linter.unusedSectionVars false
namespace Go.Proofs.YtpgdnpielhfpgaaGreatDoor
open Go Go.RowKit
open Go.Proofs.Tryz Go.Proofs.YtpgdnpielhfpgaaGreatDoor.Tryz
set_option maxRecDepth 20000
set_option maxHeartbeats 4000000
section
theorem bn {s u:List UInt8}{i:Nat}(h:aY s=u)(hi:i<u.length)(h57:aa u i=57):48<=aa s i/\aa s i<=57:=fw.1 (((dO h).2 i hi).trans h57)
theorem jw {s:List UInt8}{a b i:Nat}(h:i<b-a):aa ((s.take b).drop a) i=aa s (a+i):=by
 rw[cM,gm (by omega)]
attribute [local irreducible] bN aw aa aC bg ab ae
attribute [local irreducible] aY dp
theorem tv {G:Glo}(s:List UInt8)(hl:s.length=2)(h0:48<=aa s 0/\aa s 0<=57)(h1:48<=aa s 1/\aa s 1<=57):aj prog G 222 [.str s] (.tuple [.int .i64 (dj s 0),.bool true]):=by
 refine ao func222 call222 λC hC hGL=> ?_;refine a6 ?_;refine og hC hGL 3 ?_;refine xw ?_;repeat' first|exact .n|apply Lc.mk
 all_goals intros
 all_goals try (exfalso;simp only[Nat.zero_add,Nat.reduceAdd] at*;omega)
 apply ak;unfold dj bU;simp only[Nat.zero_add,Nat.reduceAdd] at*
 congr 3
 omega
theorem rL {G:Glo}(s:List UInt8)(hl:s.length=4)(h0:48<=aa s 0/\aa s 0<=57)(h1:48<=aa s 1/\aa s 1<=57)(h2:48<=aa s 2/\aa s 2<=57)(h3:48<=aa s 3/\aa s 3<=57):aj prog G 222 [.str s] (.tuple [.int .i64 (ji s 0),.bool true]):=by
 refine ao func222 call222 λC hC hGL=> ?_;refine a6 ?_;refine og hC hGL 5 ?_;refine xw ?_;repeat' first|exact .n|apply Lc.mk
 all_goals intros
 all_goals try (exfalso;simp only[Nat.zero_add,Nat.reduceAdd] at*;omega)
 apply ak;unfold ji bU;simp only[Nat.zero_add,Nat.reduceAdd] at*
 congr 3
 omega
theorem B4 {G:Glo}(r:Nat)(h:r<=1114111):aj prog G 242 [.int .i32 (r:Int)] (.int .i32 (dp r)):=by
 refine ao func242 call242 λC hC hGL=> ?_;refine xw ?_;repeat' first|exact .n|apply Lc.mk
 all_goals intros
 all_goals (apply ak;refine congrArg (AVal.int .i32) ?_;unfold dp;split<;>omega)
theorem uY {G:Glo}(hU:ab G utfTy)(s:List UInt8)(hl:s.length<=1000000):aj prog G 221 [.str s] (.str (Lib.mapD dp s)):=by
 have k1:=Co (G:=G) hU dp 242 s hl (λr hr=>B4 r hr) (λx hx=>by unfold dp;split<;>omega) call242;refine ao func221 call221 λC hC hGL=> ?_;exact ba
end
section
def dL (k i:Nat):Int:=([[-1, -1, -1],[0, -1, -1],[0,5, -1],[0,4,6],[-1,2, -1],[-1,2,4],[-1, -1,3]].getD k [0,0,0]).getD i 0
def dV (k:Nat)(s:List UInt8)(i:Nat):Int:=if i=0 then dY k s else if i=1 then dM k s else dD k s
def dW (i:Nat):Int:=if i=0 then 4 else 2
def cL (k i:Nat):Int:=([[0,0,0],[0, -1, -1],[0,2, -1],[0,2,4],[-1,1, -1],[-1,1,3],[-1, -1,2]].getD k [0,0,0]).getD i 0
def cV (k:Nat)(s:List UInt8)(i:Nat):Int:=if i=0 then cH k s else if i=1 then cI k s else cS k s
def BC (d:List UInt8):Nat:=if aY d=aT 1 then 1 else if aY d=aT 2 then 2 else if aY d=aT 3 then 3 else if aY d=aT 4 then 4 else if aY d=aT 5 then 5 else if aY d=aT 6 then 6 else 7
theorem GV {d:List UInt8}{k:Nat}(h1:1<=k)(hk:k<=6)(h:aY d=aT k):BC d=k:=by
  unfold BC
  (repeat' split)
  all_goals first
    |(rename_i e;exact(II h1 hk (by decide) (by decide) (h.symm.trans e)).symm)
    | (exfalso
       rcases(show k=1\/k=2\/k=3\/k=4\/k=5\/k=6 by omega) with rfl|rfl|rfl|rfl|rfl|rfl<;>contradiction)
theorem ON {d:List UInt8}(h:∀k,1<=k->k<=6->aY d≠aT k):BC d=7:=by
 unfold BC;rw[if_neg (h 1 (by decide) (by decide)),if_neg (h 2 (by decide) (by decide)),if_neg (h 3 (by decide) (by decide)),if_neg (h 4 (by decide) (by decide)),if_neg (h 5 (by decide) (by decide)),if_neg (h 6 (by decide) (by decide))]
theorem zZ (d:List UInt8):(BC d=7/\∀k,1<=k->k<=6->aY d≠aT k)\/∃k,1<=k/\k<=6/\BC d=k/\aY d=aT k:=by
 by_cases h:∃k,1<=k/\k<=6/\aY d=aT k
 ·obtain⟨k,h1,h2,h3⟩:=h;exact .inr ⟨k,h1,h2,GV h1 h2 h3,h3⟩
 ·have h:∀k,1<=k->k<=6->aY d≠aT k:=λk h1 h2 h3=>h ⟨k,h1,h2,h3⟩;exact .inl ⟨ON h,h⟩
theorem Ku (d:List UInt8):(lg d=7/\∀k,k<=6->aY d≠aU k)\/∃k,k<=6/\lg d=k/\aY d=aU k:=by
 by_cases h:∃k,k<=6/\aY d=aU k
 ·obtain⟨k,h2,h3⟩:=h;exact .inr ⟨k,h2,xl h2 h3,h3⟩
 ·have h:∀k,k<=6->aY d≠aU k:=λk h2 h3=>h ⟨k,h2,h3⟩;exact .inl ⟨GM h,h⟩
theorem LG {s:List UInt8}{a b:Nat}(h:b=a+2):dj ((s.take b).drop a) 0=dj s a:=by
 subst h;unfold dj bU;rw[jw (by omega),jw (by omega)];simp only[Nat.add_zero,Nat.zero_add]
theorem Kd {s:List UInt8}{a b:Nat}(h:b=a+4):ji ((s.take b).drop a) 0=ji s a:=by
 subst h;unfold ji bU;rw[jw (by omega),jw (by omega),jw (by omega),jw (by omega)];simp only[Nat.add_zero,Nat.zero_add]
theorem HT {G:Glo}{s u:List UInt8}(h:aY s=u)(a b:Nat)(hb:b=a+2)(hl:b<=u.length)(h0:aa u a=57)(h1:aa u (a+1)=57):aj prog G 222 [.str ((s.take b).drop a)] (.tuple [.int .i64 (dj s a),.bool true]):=by
 have hsl:=(dO h).1;have:=tv (G:=G) ((s.take b).drop a) (by rw[List.length_drop,List.length_take];omega) (by rw[jw (by omega)];exact bn h (by omega) h0) (by rw[jw (by omega)];exact bn h (by omega) h1);rwa [LG hb] at this
theorem MQ {G:Glo}{s u:List UInt8}(h:aY s=u)(a b:Nat)(hb:b=a+4)(hl:b<=u.length)(h0:aa u a=57)(h1:aa u (a+1)=57)(h2:aa u (a+2)=57)(h3:aa u (a+3)=57):aj prog G 222 [.str ((s.take b).drop a)] (.tuple [.int .i64 (ji s a),.bool true]):=by
 have hsl:=(dO h).1;have:=rL (G:=G) ((s.take b).drop a) (by rw[List.length_drop,List.length_take];omega) (by rw[jw (by omega)];exact bn h (by omega) h0) (by rw[jw (by omega)];exact bn h (by omega) h1) (by rw[jw (by omega)];exact bn h (by omega) h2) (by rw[jw (by omega)];exact bn h (by omega) h3);rwa [Kd hb] at this
def SO (G:Glo)(s:List UInt8)(l w v:Int):Prop:=(l<0/\v= -1)\/(0<=l/\0<=l+w/\l<=l+w/\l+w<=s.length/\aj prog G 222 [.str ((s.take (l+w).toNat).drop l.toNat)] (.tuple [.int .i64 v,.bool true]))
theorem xi {G:Glo}{s:List UInt8}{k:Nat}(hk:k<=6)(h:aY s=aU k):∀i,i<3->SO G s (dL k i) (dW i) (dV k s i):=by
 have hl:=(dO h).1;intro i hi;rcases(show k=0\/k=1\/k=2\/k=3\/k=4\/k=5\/k=6 by omega) with rfl|rfl|rfl|rfl|rfl|rfl|rfl<;>rcases(show i=0\/i=1\/i=2 by omega) with rfl|rfl|rfl
 all_goals first
  |exact .inl ⟨by decide,rfl⟩
  |exact .inr ⟨by decide,by decide,by decide,by rw[hl];decide,MQ h _ _ (by decide) (by decide) (by decide) (by decide) (by decide) (by decide)⟩
  |exact .inr ⟨by decide,by decide,by decide,by rw[hl];decide,HT h _ _ (by decide) (by decide) (by decide) (by decide)⟩
theorem sP {G:Glo}{s:List UInt8}{k:Nat}(h1:1<=k)(hk:k<=6)(h:aY s=aT k):∀i,i<3->SO G s (cL k i) 2 (cV k s i):=by
 have hl:=(dO h).1;intro i hi;rcases(show k=1\/k=2\/k=3\/k=4\/k=5\/k=6 by omega) with rfl|rfl|rfl|rfl|rfl|rfl<;>rcases(show i=0\/i=1\/i=2 by omega) with rfl|rfl|rfl
 all_goals first
  |exact .inl ⟨by decide,rfl⟩
  |exact .inr ⟨by decide,by decide,by decide,by rw[hl];decide,HT h _ _ (by decide) (by decide) (by decide) (by decide)⟩
theorem HY {s u:List UInt8}(hu:∀c∈u,c.toNat<128)(h:Lib.mapD dp s=u):aY s=u:=(sn hu).1 h
theorem IF:∀k,k<=6->∀c∈aU k,c.toNat<128:=by
 intro k hk;rcases(show k=0\/k=1\/k=2\/k=3\/k=4\/k=5\/k=6 by omega) with rfl|rfl|rfl|rfl|rfl|rfl|rfl<;>decide
theorem OH:∀k,k<=6->∀c∈aT k,c.toNat<128:=by
 intro k hk;rcases(show k=0\/k=1\/k=2\/k=3\/k=4\/k=5\/k=6 by omega) with rfl|rfl|rfl|rfl|rfl|rfl|rfl<;>decide
theorem mK {s:List UInt8}(k:Nat)(hk:k<=6)(h:Lib.mapD dp s=aU k):k=lg s:=(xl hk (HY (IF k hk) h)).symm
theorem oJ {s:List UInt8}(k:Nat)(h1:1<=k)(hk:k<=6)(h:Lib.mapD dp s=aT k):k=BC s:=(GV h1 hk (HY (OH k hk) h)).symm
theorem Ov {s:List UInt8}(h:(Lib.mapD dp s).length=0):0=lg s:=mK 0 (by decide) (List.eq_nil_of_length_eq_zero h)
theorem Ou {s:List UInt8}(g0:(Lib.mapD dp s).length≠0)(h1:Lib.mapD dp s≠aU 1)(h2:Lib.mapD dp s≠aU 2)(h3:Lib.mapD dp s≠aU 3)(h4:Lib.mapD dp s≠aU 4)(h5:Lib.mapD dp s≠aU 5)(h6:Lib.mapD dp s≠aU 6):7=lg s:=by
 have h0:Lib.mapD dp s≠aU 0:=λh=>g0 (by rw[h];rfl);refine(GM λk hk h=> ?_).symm
 have h:=(sn (IF k hk)).2 h
 rcases(show k=0\/k=1\/k=2\/k=3\/k=4\/k=5\/k=6 by omega) with rfl|rfl|rfl|rfl|rfl|rfl|rfl<;>contradiction
theorem OO {s:List UInt8}(h1:Lib.mapD dp s≠aT 1)(h2:Lib.mapD dp s≠aT 2)(h3:Lib.mapD dp s≠aT 3)(h4:Lib.mapD dp s≠aT 4)(h5:Lib.mapD dp s≠aT 5)(h6:Lib.mapD dp s≠aT 6):7=BC s:=by
 refine(ON λk g1 hk h=> ?_).symm;have h:=(sn (OH k hk)).2 h;rcases(show k=1\/k=2\/k=3\/k=4\/k=5\/k=6 by omega) with rfl|rfl|rfl|rfl|rfl|rfl<;>contradiction
abbrev pW (b:Nat):Value:=.pointer (some ⟨b,0,none⟩)
abbrev pF (b o:Nat):AVal:=.own 0 (.pointer (some ⟨b,o,none⟩))
abbrev gL (b:Nat)(y m d h i s:Int)(z:Bool)(o:Int):HEnt:=.cells b (some 54) [.int .i64 y,.int .i64 m,.int .i64 d,.int .i64 h,.int .i64 i,.int .i64 s,.bool z,.int .i64 o]
def pk (v:Int)(i r:Nat):Int:=if i<r then v else-1
attribute [local irreducible] bN aw aa aC bg ab ae
attribute [local irreducible] aY dp lg BC
theorem Sv (v:Int)(i:Nat):pk v i 0= -1:=by unfold pk;rw[if_neg (by omega)]
theorem IT {G:Glo}(hU:ab G utfTy)(b:Nat)(s:List UInt8)(hl:s.length<=1000000)(h i c:Int)(z:Bool)(o:Int):ae prog G 190 [.str s,.raw (pW b)] [gL b (-1) (-1) (-1) h i c z o]
  (λr H=>r= .ret (.bool (decide (lg s≠7)))/\H=[gL b (dY (lg s) s) (dM (lg s) s) (dD (lg s) s) h i c z o]):=by
 have k0:=uY (G:=G) hU s hl;have hGL:ab G []:=aG
 refine wX [(1,0,pW b)] func190 call190 rfl rfl rfl rfl (by repeat (first|exact trivial|refine And.intro ⟨rfl,rfl⟩ ?_)) ?_
 intro C hC
 refine cut hC hGL [(0,.str s),(1,.own 0 (pW b))] [gL b (-1) (-1) (-1) h i c z o] True ba λ_=> ?_
 refine dU hC hGL (X:=Nat) (λbm=>[(0,.str s),(1,.own 0 (pW b)),(5,.own 1 (.map (some bm)))]) (λbm=>[gL b (-1) (-1) (-1) h i c z o,.mp bm [(.str [],.agg [.int .i64 (-1),.int .i64 (-1),.int .i64 (-1)]),(.str [57,57,57,57],.agg [.int .i64 0,.int .i64 (-1),.int .i64 (-1)]),(.str [57,57,57,57,45,57,57],.agg [.int .i64 0,.int .i64 5,.int .i64 (-1)]),(.str [57,57,57,57,57,57,57,57],.agg [.int .i64 0,.int .i64 4,.int .i64 6]),(.str [45,45,57,57],.agg [.int .i64 (-1),.int .i64 2,.int .i64 (-1)]),(.str [45,45,57,57,57,57],.agg [.int .i64 (-1),.int .i64 2,.int .i64 4]),(.str [45,45,45,57,57],.agg [.int .i64 (-1),.int .i64 (-1),.int .i64 3])]]) (λ_=>True) ?_ λbm _=> ?_
 ·refine a6 ?_
  intro bm
  intros
  exact cy bm trivial
 refine dU hC hGL (X:=Nat×Nat) (λx=>[(0,.str s),(1,.own 0 (pW b)),(6,.own 2 (pW x.2)),(7,.bool (decide (x.1≠7)))]) (λx=>[gL b (-1) (-1) (-1) h i c z o,.mp bm [(.str [],.agg [.int .i64 (-1),.int .i64 (-1),.int .i64 (-1)]),(.str [57,57,57,57],.agg [.int .i64 0,.int .i64 (-1),.int .i64 (-1)]),(.str [57,57,57,57,45,57,57],.agg [.int .i64 0,.int .i64 5,.int .i64 (-1)]),(.str [57,57,57,57,57,57,57,57],.agg [.int .i64 0,.int .i64 4,.int .i64 6]),(.str [45,45,57,57],.agg [.int .i64 (-1),.int .i64 2,.int .i64 (-1)]),(.str [45,45,57,57,57,57],.agg [.int .i64 (-1),.int .i64 2,.int .i64 4]),(.str [45,45,45,57,57],.agg [.int .i64 (-1),.int .i64 (-1),.int .i64 3])],.cells x.2 (some 249) [.int .i64 (dL x.1 0),.int .i64 (dL x.1 1),.int .i64 (dL x.1 2)]]) (λx=>x.1=lg s) ?_ λx hx=> ?_
 ·refine xw ?_
  repeat' first|exact .n|apply Lc.mk
  all_goals intros
  all_goals first
   |exact cy (0,_) (Ov (by assumption))
   |exact cy (1,_) (mK 1 (by decide) (by assumption))
   |exact cy (2,_) (mK 2 (by decide) (by assumption))
   |exact cy (3,_) (mK 3 (by decide) (by assumption))
   |exact cy (4,_) (mK 4 (by decide) (by assumption))
   |exact cy (5,_) (mK 5 (by decide) (by assumption))
   |exact cy (6,_) (mK 6 (by decide) (by assumption))
   |exact cy (7,_) (Ou (by assumption) (by assumption) (by assumption) (by assumption) (by assumption) (by assumption) (by assumption))
 obtain⟨k,b6⟩:=x
 obtain rfl:k=lg s:=hx
 dsimp only
 rcases Ku s with⟨h7, -⟩|⟨k,hk,hk2,hk3⟩
 ·rw[h7]
  exact am hC hGL ba
 have n0:=xi (G:=G) hk hk3 0 (by decide)
 have n1:=xi (G:=G) hk hk3 1 (by decide)
 have n2:=xi (G:=G) hk hk3 2 (by decide)
 rw[hk2]
 have e7:decide (k≠7)=true:=decide_eq_true (by omega)
 rw[e7]
 rw[show dY k s=dV k s 0 from rfl]
 rw[show dM k s=dV k s 1 from rfl]
 rw[show dD k s=dV k s 2 from rfl]
 generalize dL k 0=l0 at*
 generalize dL k 1=l1 at*
 generalize dL k 2=l2 at*
 generalize dV k s 0=v0 at*
 generalize dV k s 1=v1 at*
 generalize dV k s 2=v2 at*
 rw[show dW 0=4 from rfl] at n0
 rw[show dW 1=2 from rfl] at n1
 rw[show dW 2=2 from rfl] at n2
 refine am hC hGL (az ?_)
 intros
 refine cF mixed hC hGL false (λ_ _=>False) (λ(_:Unit)=>[(0,.str s),(6,.own 2 (pW b6)),(37,.list 1 3 (bq [(0,pF b 0),(1,pF b 1),(2,pF b 2)])),(38,.int .i64 3),(39,.int .i64 0)]) (λ_=>[gL b (-1) (-1) (-1) h i c z o,.mp bm [(.str [],.agg [.int .i64 (-1),.int .i64 (-1),.int .i64 (-1)]),(.str [57,57,57,57],.agg [.int .i64 0,.int .i64 (-1),.int .i64 (-1)]),(.str [57,57,57,57,45,57,57],.agg [.int .i64 0,.int .i64 5,.int .i64 (-1)]),(.str [57,57,57,57,57,57,57,57],.agg [.int .i64 0,.int .i64 4,.int .i64 6]),(.str [45,45,57,57],.agg [.int .i64 (-1),.int .i64 2,.int .i64 (-1)]),(.str [45,45,57,57,57,57],.agg [.int .i64 (-1),.int .i64 2,.int .i64 4]),(.str [45,45,45,57,57],.agg [.int .i64 (-1),.int .i64 (-1),.int .i64 3])],.cells b6 (some 249) [.int .i64 l0,.int .i64 l1,.int .i64 l2]]) .p12 (by kernel_rfl) ?_ ?_ (λ_ _ h=>h.elim)
 ·refine xn ?_
  repeat' first|exact .n|apply Lc.mk
  all_goals intros
  all_goals (exact⟨(),ad,an⟩)
 intro _
 refine az ?_
 refine qM (aE (aK (i:=2) (k:=6) rfl rfl) (cQ (e':=[(0,.str s),(6,.rop [.int .i64 l0,.int .i64 l1,.int .i64 l2] 0),(37,.list 1 3 (bq [(0,pF b 0),(1,pF b 1),(2,pF b 2)])),(38,.int .i64 3),(39,.int .i64 0)]) (h':=[gL b (-1) (-1) (-1) h i c z o]) ad (List.Sublist.cons_cons _ (List.nil_sublist _)))) ?_
 refine lp hC hGL (λr:Nat=>[(0,.str s),(6,.rop [.int .i64 l0,.int .i64 l1,.int .i64 l2] 0),(37,.list 1 3 (bq [(0,pF b 0),(1,pF b 1),(2,pF b 2)])),(38,.int .i64 3),(39,.int .i64 (r:Nat))]) (λr=>[gL b (pk v0 0 r) (pk v1 1 r) (pk v2 2 r) h i c z o]) (λr=>r<=3) (λr=>3-r) 0 (by decide) ad (by simp only[Sv]) ?_
 intro r hr
 rcases(show r=0\/r=1\/r=2\/r=3 by omega) with rfl|rfl|rfl|rfl
 ·rcases n0 with⟨g1,g2⟩|⟨g1,g2,g3,g4,g5⟩
  ·refine a6 ?_
   intros
   refine di 1 (by decide) (by decide) ad ?_
   simp[pk,g2]
  ·refine az ?_
   intros
   refine cF mixed hC hGL false (λ_ _=>False) (λ(_:Unit)=>[(0,.str s),(6,.rop [.int .i64 l0,.int .i64 l1,.int .i64 l2] 0),(37,.list 1 3 (bq [(0,pF b 0),(1,pF b 1),(2,pF b 2)])),(38,.int .i64 3),(39,.int .i64 (0:Nat)),(8,.int .i64 (0:Nat))]) (λ_=>[gL b (pk v0 0 1) (pk v1 1 1) (pk v2 2 1) h i c z o]) .p3 (by kernel_rfl) ?_ ?_ (λ_ _ h=>h.elim)
   ·refine xn ?_
    repeat' first|exact .n|apply Lc.mk
    all_goals intros
    all_goals (exact⟨(),ad,an⟩)
   ·intro _
    refine a6 ?_
    intros
    exact di 1 (by decide) (by decide) ad rfl
 ·rcases n1 with⟨g1,g2⟩|⟨g1,g2,g3,g4,g5⟩
  ·refine a6 ?_
   intros
   refine di 2 (by decide) (by decide) ad ?_
   simp[pk,g2]
  ·refine az ?_
   intros
   refine cF mixed hC hGL false (λ_ _=>False) (λ(_:Unit)=>[(0,.str s),(6,.rop [.int .i64 l0,.int .i64 l1,.int .i64 l2] 0),(37,.list 1 3 (bq [(0,pF b 0),(1,pF b 1),(2,pF b 2)])),(38,.int .i64 3),(39,.int .i64 (1:Nat)),(8,.int .i64 (1:Nat))]) (λ_=>[gL b (pk v0 0 2) (pk v1 1 2) (pk v2 2 2) h i c z o]) .p3 (by kernel_rfl) ?_ ?_ (λ_ _ h=>h.elim)
   ·refine xn ?_
    repeat' first|exact .n|apply Lc.mk
    all_goals intros
    all_goals (exact⟨(),ad,an⟩)
   ·intro _
    refine a6 ?_
    intros
    exact di 2 (by decide) (by decide) ad rfl
 ·rcases n2 with⟨g1,g2⟩|⟨g1,g2,g3,g4,g5⟩
  ·refine a6 ?_
   intros
   refine di 3 (by decide) (by decide) ad ?_
   simp[pk,g2]
  ·refine az ?_
   intros
   refine cF mixed hC hGL false (λ_ _=>False) (λ(_:Unit)=>[(0,.str s),(6,.rop [.int .i64 l0,.int .i64 l1,.int .i64 l2] 0),(37,.list 1 3 (bq [(0,pF b 0),(1,pF b 1),(2,pF b 2)])),(38,.int .i64 3),(39,.int .i64 (2:Nat)),(8,.int .i64 (2:Nat))]) (λ_=>[gL b (pk v0 0 3) (pk v1 1 3) (pk v2 2 3) h i c z o]) .p3 (by kernel_rfl) ?_ ?_ (λ_ _ h=>h.elim)
   ·refine xn ?_
    repeat' first|exact .n|apply Lc.mk
    all_goals intros
    all_goals (exact⟨(),ad,an⟩)
   ·intro _
    refine a6 ?_
    intros
    exact di 3 (by decide) (by decide) ad rfl
 ·exact ba
theorem EV {G:Glo}(hU:ab G utfTy)(b:Nat)(s:List UInt8)(hl:s.length<=1000000)(y m d:Int)(z:Bool)(o:Int):ae prog G 193 [.str s,.raw (pW b)] [gL b y m d (-1) (-1) (-1) z o]
  (λr H=>r= .ret (.bool (decide (BC s≠7)))/\H=[gL b y m d (cH (BC s) s) (cI (BC s) s) (cS (BC s) s) z o]):=by
 have k0:=uY (G:=G) hU s hl;have hGL:ab G []:=aG;refine wX [(1,0,pW b)] func193 call193 rfl rfl rfl rfl (by repeat (first|exact trivial|refine And.intro ⟨rfl,rfl⟩ ?_)) ?_;intro C hC;refine cut hC hGL [(0,.str s),(1,.own 0 (pW b))] [gL b y m d (-1) (-1) (-1) z o] True ba λ_=> ?_;refine dU hC hGL (X:=Nat) (λbm=>[(0,.str s),(1,.own 0 (pW b)),(5,.own 1 (.map (some bm)))]) (λbm=>[gL b y m d (-1) (-1) (-1) z o,.mp bm [(.str [57,57],.agg [.int .i64 0,.int .i64 (-1),.int .i64 (-1)]),(.str [57,57,57,57],.agg [.int .i64 0,.int .i64 2,.int .i64 (-1)]),(.str [57,57,57,57,57,57],.agg [.int .i64 0,.int .i64 2,.int .i64 4]),(.str [45,57,57],.agg [.int .i64 (-1),.int .i64 1,.int .i64 (-1)]),(.str [45,57,57,57,57],.agg [.int .i64 (-1),.int .i64 1,.int .i64 3]),(.str [45,45,57,57],.agg [.int .i64 (-1),.int .i64 (-1),.int .i64 2])]]) (λ_=>True) ?_ λbm _=> ?_
 ·refine a6 ?_;intro bm;intros;exact cy bm trivial
 refine dU hC hGL (X:=Nat×Nat) (λx=>[(0,.str s),(1,.own 0 (pW b)),(6,.own 2 (pW x.2)),(7,.bool (decide (x.1≠7)))]) (λx=>[gL b y m d (-1) (-1) (-1) z o,.mp bm [(.str [57,57],.agg [.int .i64 0,.int .i64 (-1),.int .i64 (-1)]),(.str [57,57,57,57],.agg [.int .i64 0,.int .i64 2,.int .i64 (-1)]),(.str [57,57,57,57,57,57],.agg [.int .i64 0,.int .i64 2,.int .i64 4]),(.str [45,57,57],.agg [.int .i64 (-1),.int .i64 1,.int .i64 (-1)]),(.str [45,57,57,57,57],.agg [.int .i64 (-1),.int .i64 1,.int .i64 3]),(.str [45,45,57,57],.agg [.int .i64 (-1),.int .i64 (-1),.int .i64 2])],.cells x.2 (some 249) [.int .i64 (cL x.1 0),.int .i64 (cL x.1 1),.int .i64 (cL x.1 2)]]) (λx=>x.1=BC s) ?_ λx hx=> ?_
 ·refine xw ?_;repeat' first|exact .n|apply Lc.mk
  all_goals intros
  all_goals first
   |exact cy (1,_) (oJ 1 (by decide) (by decide) (by assumption))
   |exact cy (2,_) (oJ 2 (by decide) (by decide) (by assumption))
   |exact cy (3,_) (oJ 3 (by decide) (by decide) (by assumption))
   |exact cy (4,_) (oJ 4 (by decide) (by decide) (by assumption))
   |exact cy (5,_) (oJ 5 (by decide) (by decide) (by assumption))
   |exact cy (6,_) (oJ 6 (by decide) (by decide) (by assumption))
   |exact cy (7,_) (OO (by assumption) (by assumption) (by assumption) (by assumption) (by assumption) (by assumption))
 obtain⟨k,b6⟩:=x;obtain rfl:k=BC s:=hx;dsimp only
 rcases zZ s with⟨h7, -⟩|⟨k,hk1,hk,hk2,hk3⟩
 ·rw[h7];exact am hC hGL ba
 have n0:=sP (G:=G) hk1 hk hk3 0 (by decide);have n1:=sP (G:=G) hk1 hk hk3 1 (by decide);have n2:=sP (G:=G) hk1 hk hk3 2 (by decide);rw[hk2];have e7:decide (k≠7)=true:=decide_eq_true (by omega);rw[e7];rw[show cH k s=cV k s 0 from rfl];rw[show cI k s=cV k s 1 from rfl];rw[show cS k s=cV k s 2 from rfl];generalize cL k 0=l0 at*
 generalize cL k 1=l1 at*
 generalize cL k 2=l2 at*
 generalize cV k s 0=v0 at*
 generalize cV k s 1=v1 at*
 generalize cV k s 2=v2 at*
 refine am hC hGL (az ?_);intros;refine cF mixed hC hGL false (λ_ _=>False) (λ(_:Unit)=>[(0,.str s),(6,.own 2 (pW b6)),(36,.list 1 3 (bq [(0,pF b 3),(1,pF b 4),(2,pF b 5)])),(37,.int .i64 3),(38,.int .i64 0)]) (λ_=>[gL b y m d (-1) (-1) (-1) z o,.mp bm [(.str [57,57],.agg [.int .i64 0,.int .i64 (-1),.int .i64 (-1)]),(.str [57,57,57,57],.agg [.int .i64 0,.int .i64 2,.int .i64 (-1)]),(.str [57,57,57,57,57,57],.agg [.int .i64 0,.int .i64 2,.int .i64 4]),(.str [45,57,57],.agg [.int .i64 (-1),.int .i64 1,.int .i64 (-1)]),(.str [45,57,57,57,57],.agg [.int .i64 (-1),.int .i64 1,.int .i64 3]),(.str [45,45,57,57],.agg [.int .i64 (-1),.int .i64 (-1),.int .i64 2])],.cells b6 (some 249) [.int .i64 l0,.int .i64 l1,.int .i64 l2]]) .p12 (by kernel_rfl) ?_ ?_ (λ_ _ h=>h.elim)
 ·refine xn ?_;repeat' first|exact .n|apply Lc.mk
  all_goals intros
  all_goals (exact⟨(),ad,an⟩)
 intro _;refine az ?_;refine qM (aE (aK (i:=2) (k:=6) rfl rfl) (cQ (e':=[(0,.str s),(6,.rop [.int .i64 l0,.int .i64 l1,.int .i64 l2] 0),(36,.list 1 3 (bq [(0,pF b 3),(1,pF b 4),(2,pF b 5)])),(37,.int .i64 3),(38,.int .i64 0)]) (h':=[gL b y m d (-1) (-1) (-1) z o]) ad (List.Sublist.cons_cons _ (List.nil_sublist _)))) ?_;refine lp hC hGL (λr:Nat=>[(0,.str s),(6,.rop [.int .i64 l0,.int .i64 l1,.int .i64 l2] 0),(36,.list 1 3 (bq [(0,pF b 3),(1,pF b 4),(2,pF b 5)])),(37,.int .i64 3),(38,.int .i64 (r:Nat))]) (λr=>[gL b y m d (pk v0 0 r) (pk v1 1 r) (pk v2 2 r) z o]) (λr=>r<=3) (λr=>3-r) 0 (by decide) ad (by simp only[Sv]) ?_;intro r hr;rcases(show r=0\/r=1\/r=2\/r=3 by omega) with rfl|rfl|rfl|rfl
 ·rcases n0 with⟨g1,g2⟩|⟨g1,g2,g3,g4,g5⟩
  ·refine a6 ?_;intros;refine di 1 (by decide) (by decide) ad ?_;simp[pk,g2]
  ·refine az ?_;intros;refine cF mixed hC hGL false (λ_ _=>False) (λ(_:Unit)=>[(0,.str s),(6,.rop [.int .i64 l0,.int .i64 l1,.int .i64 l2] 0),(36,.list 1 3 (bq [(0,pF b 3),(1,pF b 4),(2,pF b 5)])),(37,.int .i64 3),(38,.int .i64 (0:Nat)),(8,.int .i64 (0:Nat))]) (λ_=>[gL b y m d (pk v0 0 1) (pk v1 1 1) (pk v2 2 1) z o]) .p4 (by kernel_rfl) ?_ ?_ (λ_ _ h=>h.elim)
   ·refine xn ?_;repeat' first|exact .n|apply Lc.mk
    all_goals intros
    all_goals (exact⟨(),ad,an⟩)
   ·intro _;refine a6 ?_;intros;exact di 1 (by decide) (by decide) ad rfl
 ·rcases n1 with⟨g1,g2⟩|⟨g1,g2,g3,g4,g5⟩
  ·refine a6 ?_;intros;refine di 2 (by decide) (by decide) ad ?_;simp[pk,g2]
  ·refine az ?_;intros;refine cF mixed hC hGL false (λ_ _=>False) (λ(_:Unit)=>[(0,.str s),(6,.rop [.int .i64 l0,.int .i64 l1,.int .i64 l2] 0),(36,.list 1 3 (bq [(0,pF b 3),(1,pF b 4),(2,pF b 5)])),(37,.int .i64 3),(38,.int .i64 (1:Nat)),(8,.int .i64 (1:Nat))]) (λ_=>[gL b y m d (pk v0 0 2) (pk v1 1 2) (pk v2 2 2) z o]) .p4 (by kernel_rfl) ?_ ?_ (λ_ _ h=>h.elim)
   ·refine xn ?_;repeat' first|exact .n|apply Lc.mk
    all_goals intros
    all_goals (exact⟨(),ad,an⟩)
   ·intro _;refine a6 ?_;intros;exact di 2 (by decide) (by decide) ad rfl
 ·rcases n2 with⟨g1,g2⟩|⟨g1,g2,g3,g4,g5⟩
  ·refine a6 ?_;intros;refine di 3 (by decide) (by decide) ad ?_;simp[pk,g2]
  ·refine az ?_;intros;refine cF mixed hC hGL false (λ_ _=>False) (λ(_:Unit)=>[(0,.str s),(6,.rop [.int .i64 l0,.int .i64 l1,.int .i64 l2] 0),(36,.list 1 3 (bq [(0,pF b 3),(1,pF b 4),(2,pF b 5)])),(37,.int .i64 3),(38,.int .i64 (2:Nat)),(8,.int .i64 (2:Nat))]) (λ_=>[gL b y m d (pk v0 0 3) (pk v1 1 3) (pk v2 2 3) z o]) .p4 (by kernel_rfl) ?_ ?_ (λ_ _ h=>h.elim)
   ·refine xn ?_;repeat' first|exact .n|apply Lc.mk
    all_goals intros
    all_goals (exact⟨(),ad,an⟩)
   ·intro _;refine a6 ?_;intros;exact di 3 (by decide) (by decide) ad rfl
 ·exact ba
end
section
theorem R6 (t:Stm):(t.E= .none/\t.e=0)\/∃x,x≠0/\t.E= .errno x/\t.e=x:=by
 unfold Stm.E Stm.e
 (repeat' split)
 ·exact .inl ⟨rfl,rfl⟩
 ·exact .inr ⟨2,by decide,rfl,rfl⟩
 ·exact .inr ⟨3,by decide,rfl,rfl⟩
theorem We {t:Stm}(h:t.e=0):oR t=(t,.none):=by unfold oR;rw[if_pos h]
theorem Wd {t:Stm}{x:Int}(h:t.e=x)(hx:x≠0):oR t=(Stm.no,.errno x):=by unfold oR;rw[if_neg (by rw[h];exact hx),h]
theorem IG {s:List UInt8}{c:Int}(h:(eK s c).2.2=false):(eK s c).2.1=[]:=by
 unfold eK at*
 split
 ·rfl
 ·rename_i h1;rw[if_neg h1] at h;cases h
theorem El (s:List UInt8)(c:Int):(eK s c).1.length<=s.length/\(eK s c).2.1.length<=s.length:=by
 unfold eK;split
 ·simp
 ·simp only[List.length_take,List.length_drop];omega
theorem Sb {d t:List UInt8}{b:Bool}(h:lg d=7):lw d b t=(Stm.no,.errno 3):=by unfold lw;rw[if_pos h]
theorem R9 {d t:List UInt8}(h:lg d≠7):lw d false t=oR (EY (lg d) d 0 [] []):=by unfold lw;rw[if_neg h,if_pos rfl]
theorem La {d t:List UInt8}(h:lg d≠7)(h0:nq t=0):lw d true t=(Stm.no,.errno 3):=by unfold lw;rw[if_neg h,if_neg (by decide),if_pos h0]
theorem L3:nq []=0:=by
 refine Decidable.byContradiction λh=> ?_;have g:=Aw h;have h1:=g.hn;have h2:=(BA g.j1 g.j6).1
 rw[<-g.len] at h2
 simp at h1
 omega
theorem Px {d t:List UInt8}{k:Nat}(h:lg d≠7)(hk:IP t k)(hc:BC (t.take k)=7):lw d true t=(Stm.no,.errno 3):=by
 have hn:∀j,1<=j->j<=6->aY (t.take k)≠aT j:=λj h1 h6 e=>by
  rw[GV h1 h6 e] at hc;omega
 rcases L1 hk hn with h0|⟨h0,h1,h2⟩
 ·exact La h h0
 ·unfold lw;rw[if_neg h,if_neg (by decide),if_neg h0,if_pos ⟨λe=>by have:=congrArg List.length e;rw[List.length_drop,List.length_nil] at this;omega,by rw[h2];decide⟩,h2]
theorem Vj {d t:List UInt8}{k j:Nat}(h:lg d≠7)(hk:IP t k)(h1:1<=j)(h6:j<=6)(hs:aY (t.take k)=aT j)(hl:k<t.length)(hz:(bI (t.drop k)).2≠0):lw d true t=(Stm.no,.errno (bI (t.drop k)).2):=by
 obtain⟨e1,e2⟩:=Cv hk h1 h6 hs;unfold lw;rw[if_neg h,if_neg (by decide),if_neg (by omega),e2,if_pos ⟨λe=>by have:=congrArg List.length e;rw[List.length_drop,List.length_nil] at this;omega,hz⟩]
theorem K9 {d t:List UInt8}{k j:Nat}(h:lg d≠7)(hk:IP t k)(h1:1<=j)(h6:j<=6)(hs:aY (t.take k)=aT j)(hz:k<t.length->(bI (t.drop k)).2=0):lw d true t=oR (EY (lg d) d j (t.take k) (t.drop k)):=by
 obtain⟨e1,e2⟩:=Cv hk h1 h6 hs;unfold lw;rw[if_neg h,if_neg (by decide),if_neg (by omega),e1,e2,if_neg];rintro⟨g1,g2⟩;rcases Nat.lt_or_ge k t.length with g|g
 ·exact g2 (hz g)
 ·exact g1 (List.drop_eq_nil_of_le g)
theorem K7 {i j:Nat}{d c z:List UInt8}(h:z≠[]):EY i d j c z=⟨dY i d,dM i d,dD i d,cH j c,cI j c,cS j c,true,(bI z).1⟩:=by
 unfold EY;rw[if_neg h,decide_eq_true h]
theorem K8 {i j:Nat}{d c:List UInt8}:EY i d j c []=⟨dY i d,dM i d,dD i d,cH j c,cI j c,cS j c,false,0⟩:=rfl
theorem EU (z:List UInt8):(gN z= .none/\(bI z).2=0)\/∃e,e≠0/\gN z= .errno e/\(bI z).2=e:=by
 unfold gN;by_cases h:(bI z).2=0
 ·rw[if_pos h];exact .inl ⟨rfl,h⟩
 ·rw[if_neg h];exact .inr ⟨_,h,rfl,rfl⟩
def WL (t:List UInt8):Int:=if 0<=Lib.indexAny t [90,43] then Lib.indexAny t [90,43] else if 2<=fU t 45 t.length then fU t 45 t.length else t.length
theorem wL (t:List UInt8):(Lib.indexAny t [90,43]= -1/\∀j,j<t.length->aa t j≠90/\aa t j≠43)\/∃m,m<t.length/\Lib.indexAny t [90,43]=(m:Int)/\(aa t m=90\/aa t m=43)/\∀j,j<m->aa t j≠90/\aa t j≠43:=by
 have key:∀j (hj:j<t.length),([90,43]:List UInt8).contains t[j]=true↔(aa t j=90\/aa t j=43):=by
  intro j hj
  rw[bM hj,List.contains_iff_mem]
  simp only[List.mem_cons,List.not_mem_nil,or_false]
  constructor
  ·rintro(h|h)<;>rw[h]
   ·exact .inl rfl
   ·exact .inr rfl
  ·rintro(h|h)
   ·exact .inl (UInt8.toNat_inj.1 h)
   ·exact .inr (UInt8.toNat_inj.1 h)
 by_cases h:∃m,m<t.length/\(aa t m=90\/aa t m=43)/\∀j,j<m->aa t j≠90/\aa t j≠43
 ·obtain⟨m,h1,h2,h3⟩:=h
  refine .inr ⟨m,h1,?_,h2,h3⟩
  refine Lib.indexAny_hit (λj x hj hx=> ?_) (List.getElem?_eq_getElem h1) ((key m h1).2 h2)
  obtain⟨hj',rfl⟩:=List.getElem?_eq_some_iff.1 hx
  rw[Bool.eq_false_iff]
  intro hc
  have:=(key j hj').1 hc
  have:=h3 j hj
  omega
 ·have hn:∀n,n<=t.length->∀j,j<n->aa t j≠90/\aa t j≠43:=by
   intro n
   induction n with
   |zero=>intro _ j hj;omega
   |succ n ih=>
    intro hl j hj
    rcases Nat.lt_or_ge j n with g|g
    ·exact ih (by omega) j g
    ·refine Decidable.byContradiction λhc=>h ⟨n,by omega,?_,ih (by omega)⟩
     rw[show j=n by omega] at hc
     omega
  refine .inl ⟨Lib.indexAny_none λj x hj hx=> ?_,hn _ (Nat.le_refl _)⟩
  obtain⟨hj',rfl⟩:=List.getElem?_eq_some_iff.1 hx
  rw[Bool.eq_false_iff]
  intro hc
  have:=(key j hj').1 hc
  have:=hn _ (Nat.le_refl _) j hj'
  omega
theorem Vh (t:List UInt8):∃k:Nat,WL t=k/\IP t k:=by
 unfold WL IP;rcases wL t with⟨h1,h2⟩|⟨m,h1,h2,h3,h4⟩
 ·rw[h1,if_neg (by decide)];rcases td t 45 t.length with⟨g1,g2⟩|⟨m,g1,g2,g3,g4⟩
  ·rw[g1,if_neg (by decide)];exact⟨_,rfl,.inr ⟨h2,.inr ⟨rfl,λj _ hj=>by have:=g2 j hj;omega⟩⟩⟩
  ·rw[g2];split
   ·exact⟨m,rfl,.inr ⟨h2,.inl ⟨g1,by omega,by omega,λj k1 k2=>by have:=g4 j k1 k2;omega⟩⟩⟩
   ·exact⟨_,rfl,.inr ⟨h2,.inr ⟨rfl,λj k1 k2=>by have:=g4 j (by omega) k2;omega⟩⟩⟩
 ·rw[h2,if_pos (by omega)];exact⟨m,rfl,.inl ⟨h1,h3,h4⟩⟩
attribute [local irreducible] bN aw aa aC bg ab ae
attribute [local irreducible] aY dp lg BC lw EY oR eK bI gN fU IP
attribute [local irreducible] Lib.indexAny
theorem EX {G:Glo}{m:Int}(hU:ab G utfTy)(hM:ab G (ct m))(s:List UInt8)(hl:s.length<=10000):aj prog G 137 [.str s] (.tuple [(Hf s).1.A,(Hf s).2.A]):=by
  have k1:aj prog G 87 [.str s,.str [84]] (.tuple [.str (eK s 84).1,.str (eK s 84).2.1,.bool (eK s 84).2.2]):=mV s 84 (by omega);have hn:=IG (s:=s) (c:=84);have hlen:=El s 84;unfold Hf;generalize (eK s 84).1=d at*
  generalize (eK s 84).2.1=t at*
  generalize (eK s 84).2.2=timed at*
  have hD:=λb=>IT (G:=G) hU b d (by omega) (-1) (-1) (-1) false 0;have hR:=λu=>j8 (G:=G) hM u;have k2:=Bd (G:=G) (a:=90) (b:=43) (by decide) (by decide) t (by omega);have k3:=m8 (G:=G) t 45 (by decide) (by decide) (by omega);have hZ:=λx h=>uU (G:=G) x h;have hC4:=λb x h=>EV (G:=G) hU b x h (dY (lg d) d) (dM (lg d) d) (dD (lg d) d) false 0;refine fN func137 call137 λC hC hGL=> ?_;refine dU hC hGL (λb2:Nat=>[(0,.str s),(2,.own 0 (pW b2))]) (λb2=>[gL b2 0 0 0 0 0 0 false 0]) (λ_=>True) ?_ λb2 _=> ?_
  · refine a6 ?_;intro b2;exact cy b2 trivial
  refine dU hC hGL (λb4:Nat=>[(0,.str s),(2,.own 0 (pW b2)),(4,.own 1 (pW b4))]) (λb4=>[gL b2 0 0 0 0 0 0 false 0,gL b4 (-1) (-1) (-1) (-1) (-1) (-1) false 0]) (λ_=>True) ?_ λb4 _=> ?_
  · refine a6 ?_;intro b4;exact cy b4 trivial
  refine cut hC hGL [(2,.own 0 (pW b2)),(4,.own 1 (pW b4)),(5,.str d),(6,.str t),(7,.bool timed)] [gL b2 0 0 0 0 0 0 false 0,gL b4 (-1) (-1) (-1) (-1) (-1) (-1) false 0] True ba λ_=> ?_;refine cut hC hGL [(2,.own 0 (pW b2)),(4,.own 1 (pW b4)),(6,.str t),(7,.bool timed)] [gL b2 0 0 0 0 0 0 false 0,gL b4 (dY (lg d) d) (dM (lg d) d) (dD (lg d) d) (-1) (-1) (-1) false 0] (lg d≠7/\(timed=true->t≠[])) ?_ λhd=> ?_
  · refine a6 ?_;refine aL (i:=1) rfl (hD b4) ?_;by_cases h7:lg d=7
    · rw[Sb h7,h7];exact ba
    · rw[show decide (lg d≠7)=true from decide_eq_true h7];cases timed with
      | false=>
        obtain rfl:=hn rfl;refine xw ?_;repeat' first|exact .n|apply Lc.mk
        all_goals intros
        all_goals first
          |(exfalso;rename_i wb;rw[bx.2 rfl] at wb;cases wb;done)
          |exact⟨h7,λh=>by cases h⟩
          |skip
      | true=>
        refine xw ?_;repeat' first|exact .n|apply Lc.mk
        all_goals intros
        all_goals first
          | (rename_i wb
             have e:t=[]:=bx.1 (by simpa using wb)
             subst e
             rw[La h7 L3]
             exact bK)
          | (rename_i wb
             exact⟨h7,λ_=>du.1 (by simpa using wb)⟩)
          |skip
  obtain⟨h7,ht⟩:=hd;refine dU hC hGL (λ_:Stm=>[(2,.own 0 (pW b2)),(4,.own 1 (pW b4))]) (λu=>[gL b2 0 0 0 0 0 0 false 0,gL b4 u.y u.m u.d u.h u.i u.s u.z u.o]) (λu=>lw d timed t=oR u) ?_ λu hu=> ?_
  · cases timed with
    | false=>
      refine a6 ?_;intros;exact cy (EY (lg d) d 0 [] []) (R9 h7) ad (by unfold EY;rfl)
    | true=>
      obtain⟨k,hk,hI⟩:∃k:Nat,IP t k/\((Lib.indexAny t [90,43]=(k:Int))\/(Lib.indexAny t [90,43]= -1/\fU t 45 t.length=(k:Int)/\2<=k)\/(Lib.indexAny t [90,43]= -1/\fU t 45 t.length<2/\k=t.length)):=by
        obtain⟨k,h1,h2⟩:=Vh t;refine⟨k,h2,?_⟩;have g1:=Lib.indexAny_ge [90,43] t;unfold WL at h1;split at h1
        · exact .inl h1
        · split at h1
          · exact .inr (.inl ⟨by omega,h1,by omega⟩)
          · exact .inr (.inr ⟨by omega,by omega,by omega⟩)
      have hkl:=F9 hk;have hc:=And.intro trivial (hC4 b4 (t.take k) (by rw[List.length_take];omega));have hz:=hZ (t.drop k) (by rw[List.length_drop];omega);generalize Lib.indexAny t [90,43]=ia at*
      generalize fU t 45 t.length=ib at*
      have key:∀j,BC (t.take k)=j->1<=j/\j<=6/\aY (t.take k)=aT j\/j=7:=by
        rintro j rfl;rcases zZ (t.take k) with⟨h,_⟩|⟨j,h1,h2,h3,h4⟩
        · exact .inr h
        · rw[h3];exact .inl ⟨h1,h2,h4⟩
      generalize hj:BC (t.take k)=j at*
      have hzc:=EU (t.drop k);have hdr:k<t.length->t.drop k≠[]:=λh e=>by
        have:=congrArg List.length e;rw[List.length_drop,List.length_nil] at this;omega
      rcases hI with rfl|⟨rfl,rfl,hI⟩|⟨rfl,hI,hI2⟩
      all_goals (
        refine a6 ?_
        intros
        try (have hI3:(t.length:Int)=(k:Int):=by omega))
      all_goals (
        try (rw[<-hI2])
        refine aL (i:=1) rfl hc.2 ?_
        rcases key j rfl with⟨j1,j6,js⟩|rfl)
      all_goals first
        | (rw[Px h7 hk hj]
           exact ba)
        |skip
      all_goals (
        rw[show decide (j≠7)=true from decide_eq_true (by omega)]
        by_cases hkt:k<t.length
        · first
          |(exfalso;omega)
          | (have hdr:=hdr hkt
             rcases hzc with⟨z1,z2⟩|⟨e,e0,z1,z2⟩
             · rw[z1] at hz;refine a6 ?_;intros;exact cy ⟨dY (lg d) d,dM (lg d) d,dD (lg d) d,cH j (t.take k),cI j (t.take k),cS j (t.take k),true,(bI (t.drop k)).1⟩ (by rw[K9 h7 hk j1 j6 js (λ_=>z2),K7 hdr])
             · rw[z1] at hz;rw[Vj h7 hk j1 j6 js hkt (by rw[z2];exact e0),z2];exact ba)
        · have hd0:t.drop k=[]:=List.drop_eq_nil_of_le (by omega);refine a6 ?_;intros;exact cy ⟨dY (lg d) d,dM (lg d) d,dD (lg d) d,cH j (t.take k),cI j (t.take k),cS j (t.take k),false,0⟩ (by rw[K9 h7 hk j1 j6 js (λh=>absurd h hkt),hd0,K8]))
  have hu1:lw d timed t=oR u:=hu;have hR1:aj prog G 152 [.agg [.int .i64 u.y,.int .i64 u.m,.int .i64 u.d,.int .i64 u.h,.int .i64 u.i,.int .i64 u.s,.bool u.z,.int .i64 u.o]] u.E.A:=hR u;rw[hu1];rcases R6 u with⟨e1,e2⟩|⟨x,x0,e1,e2⟩
  · rw[e1] at hR1;rw[We e2];exact am hC hGL ba
  · rw[e1] at hR1;rw[Wd e2 x0];exact am hC hGL ba
end
section
abbrev ax:AVal:=.raw (.slice none 0 0)
attribute [local irreducible] bN aw aa aC bg ab ae
abbrev Pm (v:Vl)(q:AVal):AVal:=.agg [.int .i64 v.t,.str v.s,q,.int .i64 v.st.y,.int .i64 v.st.m,.int .i64 v.st.d,.int .i64 v.st.h,.int .i64 v.st.i,.int .i64 v.st.s,.bool v.st.z,.int .i64 v.st.o,.int .i64 v.n]
attribute [local irreducible] ow fh dy xY ir jb bw gu dF Hf bI gN kQ yu
def WF (s:List UInt8)(k:Int)(r:cz)(H:Heap):Prop:=
 (∃q,r= .ret (.tuple [Pm (lA s k).1 q,(lA s k).2.A])/\H=[]/\((q=ax/\(lA s k).1.L=[])\/(q= .list 1 (jb s).length (kQ (jb s))/\(lA s k).1.L=jb s)))\/
 (∃g,r= .ret (.tuple [Pm (lA s k).1 (.list 1 1 g),.raw .nilIface])/\g 0= .list 1 (ir s).length (ay (ir s))/\(lA s k).1.L=[ir s]/\(lA s k).2= .none/\H=[])
theorem B6 {G:Glo}{m:Int}(hU:ab G utfTy)(hM:ab G (ct m))(s:List UInt8)(k:Int)(hl:s.length<=10000):ae prog G 82 [.str s,.int .i64 k] [] (WF s k):=by
 have hH:=nf (G:=G) s false (by omega);refine ao func82 call82 λC hC hGL=> ?_;by_cases hk:k<1\/9<=k
 ·have e:lA s k=(Vl.no,.errno 1):=by unfold lA;rw[if_pos hk]
  unfold WF;rw[e];refine xw ?_;repeat' first|exact .n|apply Lc.mk
  all_goals intros
  all_goals exact⟨[],List.nil_sublist _,.inl ⟨ax,rfl,rfl,.inl ⟨rfl,rfl⟩⟩⟩
 cases hh:fh false s with
 |false=>
  have e:lA s k=(Vl.no,.errno 3):=by unfold lA;rw[if_neg hk,if_pos hh]
  unfold WF;rw[e];rw[hh] at hH;refine xw ?_;repeat' first|exact .n|apply Lc.mk
  all_goals intros
  all_goals exact⟨[],List.nil_sublist _,.inl ⟨ax,rfl,rfl,.inl ⟨rfl,rfl⟩⟩⟩
 |true=>
  rw[hh] at hH;have hv:lA s k=(match (ne s k).2 with|.none=>ne s k|e=>(Vl.no,e)):=by unfold lA;rw[if_neg hk,if_neg (by rw[hh];decide)];cases (ne s k).2<;>rfl
  have h1:=xZ (G:=G) s (by omega);have h2:=I8 (G:=G) s (by omega);have h3:=Fb (G:=G) s (by omega);have h4:=yT (G:=G) s (by omega);have h5:=EX (G:=G) hU hM s (by omega);have h6:=uU (G:=G) s (by omega);have h7:=pQ (G:=G) s (by omega);unfold WF;rw[hv];rcases(show k=1\/k=2\/k=3\/k=4\/k=5\/k=6\/k=7\/k=8 by omega) with rfl|rfl|rfl|rfl|rfl|rfl|rfl|rfl
  all_goals simp only[ne,if_pos,if_neg,Int.reduceEq,reduceIte]
  ·rcases hq:bw s 0 with _|e|⟨e,p⟩
   all_goals
    rw[hq] at h1;simp only[Err.A,fq] at h1;refine a6 ?_;intros;exact⟨[],List.nil_sublist _,.inl ⟨ax,rfl,rfl,.inl ⟨rfl,rfl⟩⟩⟩
  ·rcases hq:bw s 0 with _|e|⟨e,p⟩
   all_goals
    rw[hq] at h2;simp only[Err.A,fq] at h2;refine az ?_
    intros
    first
     |exact⟨[],List.nil_sublist _,.inl ⟨ax,rfl,rfl,.inl ⟨rfl,rfl⟩⟩⟩
     |exact⟨[],List.nil_sublist _,.inr ⟨_,rfl,rfl,rfl,rfl,rfl⟩⟩
  ·rcases hq:bw s 0 with _|e|⟨e,p⟩
   all_goals
    rw[hq] at h3;simp only[Err.A,fq] at h3;refine a6 ?_;intros;first
     |exact⟨[],List.nil_sublist _,.inl ⟨_,rfl,rfl,.inr ⟨rfl,rfl⟩⟩⟩
     |exact⟨[],List.nil_sublist _,.inl ⟨ax,rfl,rfl,.inl ⟨rfl,rfl⟩⟩⟩
  ·rcases hq:gu s with _|e|⟨e,p⟩
   all_goals
    rw[hq] at h4;simp only[Err.A,fq] at h4;refine a6 ?_;intros;exact⟨[],List.nil_sublist _,.inl ⟨ax,rfl,rfl,.inl ⟨rfl,rfl⟩⟩⟩
  ·rcases hq:(Hf s).2 with _|e|⟨e,p⟩
   all_goals
    rw[hq] at h5;simp only[Err.A,fq] at h5;generalize (Hf s).1=t at*
    refine a6 ?_;intros;exact⟨[],List.nil_sublist _,.inl ⟨ax,rfl,rfl,.inl ⟨rfl,rfl⟩⟩⟩
  ·rcases hq:gN s with _|e|⟨e,p⟩
   all_goals
    rw[hq] at h6;simp only[Err.A,fq] at h6;refine a6 ?_;intros;exact⟨[],List.nil_sublist _,.inl ⟨ax,rfl,rfl,.inl ⟨rfl,rfl⟩⟩⟩
  ·rcases hq:dF s with _|e|⟨e,p⟩
   all_goals
    rw[hq] at h7;simp only[Err.A,fq] at h7;refine a6 ?_;intros;exact⟨[],List.nil_sublist _,.inl ⟨ax,rfl,rfl,.inl ⟨rfl,rfl⟩⟩⟩
  ·refine a6 ?_
   intros
   exact⟨[],List.nil_sublist _,.inl ⟨ax,rfl,rfl,.inl ⟨rfl,trivial⟩⟩⟩
end
section
def Vl.R (v:Vl):AVal:=Pm v (.list 1 v.L.length (kQ v.L))
def Pj (L:List (List (List UInt8)))(q:AVal):Prop:=(q=ax/\L=[])\/q= .list 1 L.length (kQ L)\/∃l g,q= .list 1 1 g/\g 0=yu l/\L=[l]
theorem p7 {v:Vl}{q B:AVal}(h:Pj v.L q):tu (.ret (.tuple [Pm v q,B])) [] (.tuple [v.R,B]):=by
 rintro C R w e' hm ⟨x,rfl,hx⟩;refine⟨R,hm,x,rfl,jX (Seal.le_refl R) hx λu hu=> ?_⟩;rcases h with⟨rfl,hL⟩|rfl|⟨l,g,rfl,hg,hL⟩
 ·have e:v.R=Pm v (.list 1 0 (kQ [])):=by unfold Vl.R;rw[hL];rfl
  rw[e];exact jn (p:=2) (a':=.list 1 0 (kQ [])) (Seal.le_refl R) hu rfl (λv=>g7)
 ·exact hu
 ·have e:v.R=Pm v (.list 1 1 (kQ [l])):=by unfold Vl.R;rw[hL];rfl
  rw[e];refine jn (p:=2) (a':=.list 1 1 (kQ [l])) (Seal.le_refl R) hu rfl (λv=>kq λi hi=> ?_);obtain rfl:i=0:=by omega
  rw[hg];rfl
theorem E0 {G:Glo}{m:Int}(hU:ab G utfTy)(hM:ab G (ct m))(s:List UInt8)(k:Int)(hl:s.length<=10000):aj prog G 82 [.str s,.int .i64 k] (.tuple [(lA s k).1.R,(lA s k).2.A]):=by
 refine dC (B6 hU hM s k hl) ?_;rintro r H (⟨q,rfl,rfl,⟨rfl,hL⟩|⟨rfl,hL⟩⟩|⟨g,rfl,hg,hL,he,rfl⟩)
 ·exact p7 (.inl ⟨rfl,hL⟩)
 ·exact p7 (.inr (.inl (by rw[hL])))
 ·rw[he];exact p7 (.inr (.inr ⟨ir s,g,rfl,hg,hL⟩))
end
section
theorem JJ (L:List (List (List UInt8))):kQ L=eF L:=by
 funext i
 rfl
def oP (l:List Itm):List AVal:=l.flatMap dG
theorem zE (l:List Itm)(x:Itm):oP l++dG x=oP (l++[x]):=by
 unfold oP;rw[List.flatMap_append,List.flatMap_singleton]
theorem If:∀(l:List Itm) (i:Nat),i<l.length->dG (l.getD i Itm.z)=((oP l).drop (i*15)).take 15
 |[],i,h=>absurd h (Nat.not_lt_zero _)
 |x::l,0,_=>by
  show dG x=((dG x++oP l).drop 0).take 15;rw[List.drop_zero,List.take_append_of_le_length (by simp)];rfl
 |x::l,i+1,h=>by
  have ih:=If l i (by simpa using h);have e:oP (x::l)=dG x++oP l:=rfl;rw[e,show(i+1)*15=15+i*15 by omega,<-List.drop_drop,List.drop_left' (show(dG x).length=15 from rfl),List.getD_cons_succ];exact ih
theorem Ie (l:List Itm):∀i,i<l.length->(eJ l i).cells=((oP l).drop (i*15)).take 15/\(eJ l i).plain=true:=by
 intro i hi;exact⟨If l i hi,rfl⟩
abbrev mL (b:Nat)(v:Int)(q:AVal):HEnt:=.cells b (some 29) [.int .i64 v,q]
def OF (c:Crd)(x:AVal)(r:cz)(H:Heap):Prop:=∃q,r= .ret (.tuple [.agg [.int .i64 c.v,q],x])/\H=[]/\((q=ax/\c.l=[])\/q= .list 15 c.l.length (eJ c.l))
theorem En {c:Crd}{x:AVal}{r:cz}{H:Heap}(h:OF c x r H):tu r H (.tuple [c.A,x]):=by
 obtain⟨q,rfl,rfl,h⟩:=h;rintro C R w e' hm ⟨y,rfl,hx⟩;refine⟨R,hm,y,rfl,jX (Seal.le_refl R) hx λu hu=> ?_⟩;rcases h with⟨rfl,hl⟩|rfl
 ·unfold Crd.A;rw[hl] at*
  exact jn (p:=1) (a':=.list 15 0 (eJ [])) (Seal.le_refl R) hu rfl (λv=>g7)
 ·exact hu
end
section
abbrev Sh (b:Nat)(v:Vl)(q:AVal):HEnt:=.cells b (some 56) [.int .i64 v.t,.str v.s,q,.int .i64 v.st.y,.int .i64 v.st.m,.int .i64 v.st.d,.int .i64 v.st.h,.int .i64 v.st.i,.int .i64 v.st.s,.bool v.st.z,.int .i64 v.st.o,.int .i64 v.n]
def WT (p:Vl×Err)(r:cz)(H:Heap):Prop:=∃q,r= .ret (.tuple [Pm p.1 q,p.2.A])/\H=[]/\Pj p.1.L q
theorem Qs {p:Vl×Err}{r:cz}{H:Heap}(h:WT p r H):tu r H (.tuple [p.1.R,p.2.A]):=by
 obtain⟨q,rfl,rfl,h⟩:=h;exact p7 h
theorem sh {p:Vl×Err}{v:AVal}{H:Heap}(e:v= .tuple [Pm p.1 ax,p.2.A])(hL:p.1.L=[]):Rt (WT p) v H:=⟨[],List.nil_sublist _,ax,by rw[e],rfl,.inl ⟨rfl,hL⟩⟩
attribute [local irreducible] bN aw aa aC bg ab ae
attribute [local irreducible] bc
theorem Gh {G:Glo}(d:Nat)(x:Js)(hd:Js.le d x):aj prog G 23 [Js.R d x] (.bool (mf x)):=by
 by_cases h6:x.k=6;case neg=>
  rw[show mf x=false by unfold mf;rw[fV.2 h6];rfl]
  unfold Js.R
  refine ao func23 call23 λC hC hGL=> ?_
  exact ba
 by_cases h4:x.l.length=4
 case neg=>
  rw[show mf x=false by unfold mf;rw[bP.2 h6,fV.2 (by omega)];rfl]
  unfold Js.R
  refine ao func23 call23 λC hC hGL=> ?_
  exact ba
 obtain⟨e,rfl, -⟩:=e8 hd (show 0<x.l.length by omega)
 have i0:=Id (G:=G) e (aA x.l 0) [118,101,114,115,105,111,110]
 have i2:=Id (G:=G) e (aA x.l 2) [116,101,120,116]
 have i3:=Id (G:=G) e (aA x.l 3) [52,46,48]
 have ev:mf x=(tT (aA x.l 0) [118,101,114,115,105,111,110]&&(cm (aA x.l 1).k 7&&(cm ((aA x.l 1).ks.length:Nat) 0&&(tT (aA x.l 2) [116,101,120,116]&&tT (aA x.l 3) [52,46,48])))):=by
  unfold mf
  rw[bP.2 h6,bP.2 (by omega)]
  rfl
 rw[ev]
 unfold Js.R at*
 generalize tT (aA x.l 0) _=b0 at*
 generalize tT (aA x.l 2) _=b2 at*
 generalize tT (aA x.l 3) _=b3 at*
 cases b0
 ·refine ao func23 call23 λC hC hGL=> ?_
  exact ba
 by_cases h7:(aA x.l 1).k=7
 case neg=>
  rw[fV.2 h7]
  refine ao func23 call23 λC hC hGL=> ?_
  exact ba
 by_cases h0:(aA x.l 1).ks.length=0
 case neg=>
  rw[bP.2 h7,fV.2 (by omega)]
  refine ao func23 call23 λC hC hGL=> ?_
  exact ba
 rw[bP.2 h7,bP.2 (by omega)]
 cases b2<;>cases b3
 all_goals
  refine ao func23 call23 λC hC hGL=> ?_
  exact ba
abbrev PI (v:Vl)(b4 b6:Nat)(q:AVal):Heap:=[Sh b4 Vl.no ax,Sh b6 v q]
theorem Nv {G:Glo}{m:Int}(hU:ab G utfTy)(hM:ab G (ct m))(e:Nat)(l:List Js)(k:Int)(hl:l.length<=1000000)(hle:∀i,i<l.length->Js.le e (aA l i))(ht:(aA l 0).t.length<=10000)(hb:(aA l 0).l.length<=1000000)(hbb:∀i,(aA (aA l 0).l i).l.length<=1000000000):
  ae prog G 48 [.list 4 l.length (kR (e+1) l),.int .i64 k] [] (WT (cE l k)):=by
 have hRd:=E0 (G:=G) hU hM (aA l 0).t k ht
 have r2a:k=2->l.all strB=true->cE l k=(⟨2,[],[l.map Js.t],Stm.no,0⟩,.none):=λh1 h2=>by unfold cE;rw[if_pos h1,if_pos h2]
 have r2b:k=2->l.all strB=false->cE l k=(Vl.no,.errno 3):=λh1 h2=>by unfold cE;rw[if_pos h1,if_neg (by rw[h2];decide)]
 have r1:k≠2->l.length≠1->cE l k=(Vl.no,.errno 3):=λh1 h2=>by unfold cE;rw[if_neg h1,if_pos h2]
 have r3:k≠2->l.length=1->cE l k=if k=3 then if(aA l 0).k=6/\(aA l 0).l.all dl=true then(⟨3,[],(aA l 0).l.map bp,Stm.no,0⟩,.none) else(Vl.no,.errno 3)
  else if strB (aA l 0)=false then(Vl.no,.errno 3) else if k=1 then(⟨1,(aA l 0).t,[],Stm.no,0⟩,.none) else lA (aA l 0).t k:=λh1 h2=>by
  conv=>lhs;unfold cE
  rw[if_neg h1,if_neg (by omega)]
 generalize cE l k=P at*
 refine fN func48 call48 λC hC hGL=> ?_
 refine dU hC hGL (λb:Nat=>[(0,.list 4 l.length (kR (e+1) l)),(1,.int .i64 k),(4,.own 0 (bX b)),(5,.raw .nilIface)]) (λb=>[Sh b Vl.no ax]) (λ_=>True) ?_ ?_
 ·refine az ?_
  intro b
  intros
  exact cy b trivial
 intro b4 _
 refine dU hC hGL (λb:Nat=>[(0,.list 4 l.length (kR (e+1) l)),(1,.int .i64 k),(4,.own 0 (bX b4)),(5,.raw .nilIface),(6,.own 1 (bX b))]) (λb=>PI ⟨k,[],[],Stm.no,0⟩ b4 b ax) (λ_=>True) ?_ ?_
 ·refine az ?_
  intro b
  intros
  exact cy b trivial
 intro b6 _
 by_cases h2:k=2
 ·subst h2
  have r2a:=r2a rfl
  have r2b:=r2b rfl
  clear r1 r3 hRd
  refine fY (fY (am hC hGL (az ?_)))
  refine BI rfl (λhq=> ?_) (λhq=>absurd rfl (fV.1 hq))
  refine cut hC hGL [(0,.list 4 l.length (kR (e+1) l)),(4,.own 0 (bX b4)),(5,.raw .nilIface),(6,.own 1 (bX b6)),(7,ax)] (PI ⟨2,[],[],Stm.no,0⟩ b4 b6 ax) True cx λ_=> ?_
  refine dU hC hGL (λv:Value=>[(4,.own 0 (bX b4)),(5,.raw .nilIface),(6,.own 1 (bX b6)),(7,.own 2 v)]) (λv=>[Sh b4 Vl.no ax,Sh b6 ⟨2,[],[],Stm.no,0⟩ ax,.row v none 1 l.length (bc (l.map Js.t))]) (λ_=>l.all strB=true) ?_ ?_
  ·refine az ?_
   intros
   refine gv 7 1 rfl ?_
   refine lp hC hGL (λz:Nat×Value=>[(4,.own 0 (bX b4)),(5,.raw .nilIface),(6,.own 1 (bX b6)),(7,.own 2 z.2),(18,.list 4 l.length (kR (e+1) l)),(19,.int .i64 (l.length:Nat)),(20,.int .i64 (z.1:Nat))]) (λz=>[Sh b4 Vl.no ax,Sh b6 ⟨2,[],[],Stm.no,0⟩ ax,.row z.2 none 1 z.1 (bc ((l.take z.1).map Js.t))]) (λz=>z.1<=l.length/\∀j,j<z.1->strB (aA l j)=true) (λz=>l.length-z.1) (0,.slice none 0 0) ⟨Nat.zero_le _,λj h=>absurd h (Nat.not_lt_zero _)⟩ ad (by dsimp only;rw[List.take_zero];unfold bc;rfl) ?_
   rintro⟨j,v⟩ ⟨k1,k2⟩
   have k1:j<=l.length:=k1
   have k2:∀i,i<j->strB (aA l i)=true:=k2
   dsimp only
   by_cases hlt:j<l.length
   ·by_cases h5:(aA l j).k=5
    ·refine az ?_
     intro _ va vk vc
     intros
     refine cJ (j+1,Value.slice va vk vc) ⟨hlt,aV k2 (lk.2 h5)⟩ (by show l.length-(j+1)<l.length-j;omega) ad ?_
     dsimp only
     rw[rO hlt,<-bJ]
     exact .cons_cons _ (.cons_cons _ (.cons_cons _ (List.nil_sublist _)))
    ·rw[r2b (A8 hlt (vl.2 h5))]
     refine az ?_
     intros
     exact sh rfl rfl
   ·obtain rfl:j=l.length:=by omega
    rw[List.take_length]
    refine az ?_
    intros
    exact cy v (su k2)
  intro v hall
  rw[r2a hall]
  have hlm:(l.map Js.t).length=l.length:=by rw[List.length_map]
  refine Ag (Ck (i:=2) (k:=7) (ay (l.map Js.t)) rfl rfl (λj hj=>eq (l.map Js.t) j (by omega))) ?_
  refine am hC hGL (az ?_)
  intros
  refine⟨[],List.nil_sublist _,_,rfl,rfl,.inr (.inr ⟨l.map Js.t,_,rfl,?_,rfl⟩)⟩
  unfold yu
  rw[hlm]
  rfl
 refine cut hC hGL [(0,.list 4 l.length (kR (e+1) l)),(1,.int .i64 k),(4,.own 0 (bX b4)),(5,.raw .nilIface),(6,.own 1 (bX b6))] (PI ⟨k,[],[],Stm.no,0⟩ b4 b6 ax) True cx λ_=> ?_
 by_cases hl1:l.length=1
 case neg=>
  rw[r1 h2 hl1]
  refine am hC hGL (az ?_)
  intros
  exact sh rfl rfl
 have r3:=r3 h2 hl1
 clear r1 r2a r2b
 refine cut hC hGL [(0,.list 4 l.length (kR (e+1) l)),(1,.int .i64 k),(4,.own 0 (bX b4)),(5,.raw .nilIface),(6,.own 1 (bX b6))] (PI ⟨k,[],[],Stm.no,0⟩ b4 b6 ax) True cx λ_=> ?_
 have h0:0<l.length:=by omega
 have hle0:=hle 0 h0
 by_cases h3:k=3
 ·subst h3
  rw[if_pos rfl] at r3
  by_cases h6:(aA l 0).k=6
  case neg=>
   rw[if_neg λh=>h6 h.1] at r3
   rw[r3]
   refine am hC hGL (az ?_)
   intros
   exact sh rfl rfl
  have r3a:(aA l 0).l.all dl=true->P=(⟨3,[],(aA l 0).l.map bp,Stm.no,0⟩,.none):=λh=>by rw[r3,if_pos ⟨h6,h⟩]
  have r3b:(aA l 0).l.all dl=false->P=(Vl.no,.errno 3):=λh=>by rw[r3,if_neg (by rw[h];simp)]
  clear r3
  refine fY (fY (am hC hGL (az ?_)))
  refine BI rfl (λhq=> ?_) (λhq=>absurd rfl (fV.1 hq))
  refine cut hC hGL [(0,.list 4 l.length (kR (e+1) l)),(4,.own 0 (bX b4)),(5,.raw .nilIface),(6,.own 1 (bX b6))] (PI ⟨3,[],[],Stm.no,0⟩ b4 b6 ax) True cx λ_=> ?_
  generalize hy:aA l 0=y at*
  refine dU hC hGL (λv:Value=>[(4,.own 0 (bX b4)),(5,.raw .nilIface),(6,.own 1 (bX b6))]) (λv=>PI ⟨3,[],[],Stm.no,0⟩ b4 b6 (.own 2 v)++[.row v none 1 y.l.length (eb (y.l.map bp))]) (λ_=>y.l.all dl=true) ?_ ?_
  ·refine az ?_
   intros
   rw[hy]
   refine qM (aE (gQ 1) (jD (i:=1) (p:=2) (x:=Sh b6 ⟨3,[],[],Stm.no,0⟩ ax) (a':=.own 2 (.slice none 0 0)) rfl (λR=>.cells rfl λ_=>jK))) ?_
   refine lp hC hGL (λz:Nat×Value=>[(4,.own 0 (bX b4)),(5,.raw .nilIface),(6,.own 1 (bX b6)),(56,.list 4 y.l.length (kR e y.l)),(57,.int .i64 (y.l.length:Nat)),(58,.int .i64 (z.1:Nat))]) (λz=>PI ⟨3,[],[],Stm.no,0⟩ b4 b6 (.own 2 z.2)++[.row z.2 none 1 z.1 (eb ((y.l.take z.1).map bp))]) (λz=>z.1<=y.l.length/\∀j,j<z.1->dl (aA y.l j)=true) (λz=>y.l.length-z.1) (0,.slice none 0 0) ⟨Nat.zero_le _,λj h=>absurd h (Nat.not_lt_zero _)⟩ ad rfl ?_
   rintro⟨j,v⟩ ⟨k1,k2⟩
   have k1:j<=y.l.length:=k1
   have k2:∀i,i<j->dl (aA y.l i)=true:=k2
   dsimp only
   by_cases hlt:j<y.l.length
   ·obtain⟨e',rfl,he'⟩:=e8 hle0 hlt
    have hs:=Ic (G:=G) e' (aA y.l j) he' (hbb j)
    unfold Js.R at hs
    cases hsb:dl (aA y.l j) with
    |true=>
     rw[hsb] at hs
     refine az ?_
     intro _ va vk vc
     intros
     refine cJ (j+1,Value.slice va vk vc) ⟨hlt,aV k2 hsb⟩ (by show y.l.length-(j+1)<y.l.length-j;omega) ad ?_
     dsimp only
     have hp:eb ((y.l.take (j+1)).map bp)=eb ((y.l.take j).map bp)++[.list 1 (bp (aA y.l j)).length (ay (bp (aA y.l j)))]:=by
      rw[List.take_succ_eq_append_getElem hlt,List.map_append,List.map_singleton,<-lN,mN hlt]
      rfl
     rw[hp]
     exact .cons_cons _ (.cons_cons _ (.cons_cons _ (List.nil_sublist _)))
    |false=>
     rw[hsb] at hs
     rw[r3b (A8 hlt hsb)]
     refine az ?_
     intros
     exact sh rfl rfl
   ·obtain rfl:j=y.l.length:=by omega
    rw[List.take_length]
    refine az ?_
    intros
    exact cy v (su k2)
  intro v hall
  rw[r3a hall]
  have hlm:(y.l.map bp).length=y.l.length:=by rw[List.length_map]
  refine Ag (jC (i:=2) (k:=1) (p:=2) (kQ (y.l.map bp)) rfl rfl (λj hj=>uu _ j (by omega)) (λR hr=>.cells (a:=.own 2 v) rfl λ_=>df hr)) ?_
  refine am hC hGL (az ?_)
  intros
  exact⟨[],List.nil_sublist _,_,rfl,rfl,.inr (.inl (by rw[hlm]))⟩
 rw[if_neg h3] at r3
 refine cut hC hGL [(0,.list 4 l.length (kR (e+1) l)),(1,.int .i64 k),(4,.own 0 (bX b4)),(5,.raw .nilIface),(6,.own 1 (bX b6))] (PI ⟨k,[],[],Stm.no,0⟩ b4 b6 ax) True cx λ_=> ?_
 by_cases h5:(aA l 0).k=5
 case neg=>
  rw[if_pos (vl.2 h5)] at r3
  rw[r3]
  refine am hC hGL (az ?_)
  intros
  exact sh rfl rfl
 rw[if_neg (by rw[lk.2 h5];decide)] at r3
 refine cut hC hGL [(0,.list 4 l.length (kR (e+1) l)),(1,.int .i64 k),(4,.own 0 (bX b4)),(5,.raw .nilIface),(6,.own 1 (bX b6))] (PI ⟨k,[],[],Stm.no,0⟩ b4 b6 ax) True cx λ_=> ?_
 by_cases h1:k=1
 ·subst h1
  rw[if_pos rfl] at r3
  rw[r3]
  refine am hC hGL (az ?_)
  intros
  exact sh rfl rfl
 rw[if_neg h1] at r3
 subst r3
 generalize lA (aA l 0).t k=p at*
 obtain⟨v,x⟩:=p
 dsimp only at hRd
 unfold Vl.R at hRd
 cases x<;>simp only[Err.A,fq,BJ] at hRd
 all_goals
  refine am hC hGL (az ?_)
  intros
  exact⟨[],List.nil_sublist _,_,rfl,rfl,.inr (.inl rfl)⟩
theorem QX {G:Glo}{m:Int}(hU:ab G utfTy)(hM:ab G (ct m))(e:Nat)(l:List Js)(k:Int)(hl:l.length<=1000000)(hle:∀i,i<l.length->Js.le e (aA l i))(ht:(aA l 0).t.length<=10000)(hb:(aA l 0).l.length<=1000000)(hbb:∀i,(aA (aA l 0).l i).l.length<=1000000000):
  aj prog G 48 [.list 4 l.length (kR (e+1) l),.int .i64 k] (.tuple [(cE l k).1.R,(cE l k).2.A]):=dC (Nv hU hM e l k hl hle ht hb hbb) λ_ _ h=>Qs h
end
section
def mt (ps:List Pr):List AVal:=ps.flatMap λq=>[.str q.n,.list 1 q.vs.length (ay q.vs)]
theorem oi (ps:List Pr)(q:Pr):mt (ps++[q])=mt ps++[.str q.n,.list 1 q.vs.length (ay q.vs)]:=by
 simp[mt]
theorem FP:∀(l:List Pr) (i:Nat),i<l.length->(fH l i).cells=((mt l).drop (i*2)).take 2/\(fH l i).plain=true
 |[],i,h=>absurd h (Nat.not_lt_zero _)
 |q::l,0,h=>⟨by simp[fH,AVal.cells,mt],rfl⟩
 |q::l,i+1,h=>by
  have ih:=FP l i (by simpa using h)
  refine⟨?_,rfl⟩
  have e:fH (q::l) (i+1)=fH l i:=rfl
  have e2:mt (q::l)=[.str q.n,.list 1 q.vs.length (ay q.vs)]++mt l:=by simp[mt]
  rw[e,ih.1,e2,show(i+1)*2=2+i*2 by omega,<-List.drop_drop]
  rfl
end
section
abbrev V7 (x:Itm)(q1 q2:AVal):List AVal:=[.str x.1.g,.str x.1.n,q1,.int .i64 x.2.t,.str x.2.s,q2,.int .i64 x.2.st.y,.int .i64 x.2.st.m,.int .i64 x.2.st.d,.int .i64 x.2.st.h,.int .i64 x.2.st.i,.int .i64 x.2.st.s,.bool x.2.st.z,.int .i64 x.2.st.o,.int .i64 x.2.n]
abbrev bV (b:Nat)(x:Itm)(q1 q2:AVal):HEnt:=.cells b (some 58) (V7 x q1 q2)
abbrev vF (v:Value)(l:List Pr):HEnt:=.row v none 2 l.length (mt l)
def WD (ps:List Pr)(q:AVal):Prop:=(q=ax/\ps=[])\/q= .list 2 ps.length (fH ps)
def NB (x:Itm)(E:AVal)(r:cz)(H:Heap):Prop:=∃q1 q2,r= .ret (.tuple [.agg (V7 x q1 q2),E])/\H=[]/\WD x.1.ps q1/\Pj x.2.L q2
theorem Qt {R:Seal}{ps:List Pr}{q:AVal}(h:WD ps q)(u:Value):bh R q [u]->bh R (.list 2 ps.length (fH ps)) [u]:=by
 rcases h with⟨rfl,rfl⟩|rfl
 ·exact g7
 ·exact id
theorem QM {R:Seal}{L:List (List (List UInt8))}{q:AVal}(h:Pj L q)(u:Value):bh R q [u]->bh R (.list 1 L.length (eF L)) [u]:=by
 rw[<-JJ];rcases h with⟨rfl,rfl⟩|rfl|⟨l,g,rfl,hg,rfl⟩
 ·exact g7
 ·exact id
 ·refine kq λi hi=> ?_;obtain rfl:i=0:=by omega
  rw[hg];rfl
theorem Ig {R:Seal}{x:Itm}{q1 q2:AVal}{u:Value}(h1:WD x.1.ps q1)(h2:Pj x.2.L q2)(hu:bE R (.agg (V7 x q1 q2)) u):bE R (DL x) u:=
 jn (p:=5) (a':=.list 1 x.2.L.length (eF x.2.L)) (Seal.le_refl R) (jn (p:=2) (a':=.list 2 x.1.ps.length (fH x.1.ps)) (Seal.le_refl R) hu rfl (Qt h1)) rfl (QM h2)
theorem NA {x:Itm}{E:AVal}{r:cz}{H:Heap}(h:NB x E r H):tu r H (.tuple [DL x,E]):=by
 obtain⟨q1,q2,rfl,rfl,h1,h2⟩:=h;rintro C R w e' hm ⟨y,rfl,hx⟩;exact⟨R,hm,y,rfl,jX (Seal.le_refl R) hx λu hu=>Ig h1 h2 hu⟩
theorem pj {x:Itm}{E v:AVal}{H:Heap}(hx:x=Itm.z)(e:v= .tuple [.agg (V7 Itm.z ax ax),E]):Rt (NB x E) v H:=⟨[],List.nil_sublist _,ax,ax,by subst hx e;exact⟨rfl,rfl,.inl ⟨rfl,rfl⟩,.inl ⟨rfl,rfl⟩⟩⟩
theorem vu {x:Js}(h:dl x=true):1<=(bp x).length:=by
 cases hs:strB x with
 |true=>rw[(vr hs).2];exact Nat.le_refl _
 |false=>
  cases ha:x.l.all strB with
  |true=>
   obtain⟨e1,e2⟩:=vx hs ha;rw[e1,Bool.and_eq_true] at h;rw[e2,List.length_map]
   have:=of_decide_eq_true h.2
   omega
  |false=>rw[(vw hs ha).1] at h;cases h
theorem Ib (e:Nat)(l:List Js)(j:Nat):(λk=>kR (e+1) l (j+k))=kR (e+1) (l.drop j):=by
 funext k
 rw[Gb,Gb,il]
theorem Hl {C:Ctx}{n:Nat}{e:Env}{h:Heap}{i:Nat}{v:Value}{eT:Option TypeId}{sz m:Nat}{A:List AVal}{a b c:AVal}(hi:h[i]? =some (.row v eT sz m (A++[a,b])))(ht:∀R u,bh R b [u]->bh R c [u]):To C n e h e (h.set i (.row v eT sz m (A++[a,c]))):=by
 have h1:=jD (C:=C) (n:=n) (e:=e) (p:=A.length+1) (a':=c) (y:=.row v eT sz m ((A++[a,b]).set (A.length+1) c)) hi (λR=>.row (a:=b) (by simp) (ht R));rwa [show(A++[a,b]).set (A.length+1) c=A++[a,c] by simp] at h1
theorem Dj {R:Seal}{t:List UInt8}{u:Value}:bh R (.list 1 1 (bq [(0,.str t)])) [u]->bh R (.list 1 1 (ay [t])) [u]:=kq λi hi=>by
 obtain rfl:i=0:=by omega
 rfl
theorem zF {x:Js}:Pq x=true↔x.k=6/\4<=x.l.length/\(aA x.l 0).k=5/\(aA x.l 1).k=7/\(aA x.l 2).k=5:=by
 unfold Pq strB;simp only[Bool.and_eq_true,decide_eq_true_eq,bP]
theorem Np:al 97 122 (-32) valN=valN:=by decide+kernel
theorem Pw (s:List UInt8)(j:Nat):kS s (j+1)=if aS (iC (8-(j:Int))) s=true then 8-(j:Int) else kS s j:=rfl
attribute [local irreducible] bN aw aa aC bg ab ae
attribute [local irreducible] bc mt kS dk iC al dl bp eM ek nb
theorem Gi {G:Glo}(d:Nat)(x:Js)(hd:Js.le d x)(h:Pq x=false):ae prog G 24 [Js.R d x] [] (NB Itm.z (fq 3)):=by
 have hn:¬(x.k=6/\4<=x.l.length/\(aA x.l 0).k=5/\(aA x.l 1).k=7/\(aA x.l 2).k=5):=λg=>by rw[zF.2 g] at h;cases h
 unfold fq Js.R;by_cases h6:x.k=6;case neg=>
  refine ao func24 call24 λC hC hGL=> ?_;refine az ?_;intros;exact pj rfl rfl
 by_cases h4:x.l.length<4
 ·refine ao func24 call24 λC hC hGL=> ?_;refine az ?_;intros;exact pj rfl rfl
 obtain⟨e,rfl, -⟩:=e8 hd (show 0<x.l.length by omega);by_cases h0:(aA x.l 0).k=5;case neg=>
  refine ao func24 call24 λC hC hGL=> ?_;refine az ?_;intros;exact pj rfl rfl
 by_cases h1:(aA x.l 1).k=7;case neg=>
  refine ao func24 call24 λC hC hGL=> ?_;refine az ?_;intros;exact pj rfl rfl
 by_cases h2:(aA x.l 2).k=5;case neg=>
  refine ao func24 call24 λC hC hGL=> ?_;refine az ?_;intros;exact pj rfl rfl
 exact absurd ⟨h6,by omega,h0,h1,h2⟩ hn
theorem Nw {G:Glo}{m:Int}(hU:ab G utfTy)(hM:ab G (ct m))(hS:rI G)(e n w:Nat)(x:Js)(hd:Js.le (e+1) x)(hb:Pq x=true)(ht:Js.thin (w+4) x)(hf:Js.fit (e+1) x)(hr:kM (n+2) x=0):
  ae prog G 24 [Js.R (e+1) x] [] (NB (DK x) (gM x).A):=by
 obtain⟨h6,h4,h0,h1,h2⟩:=zF.1 hb;have hkl:=(pi ((pi hr).2.2 1 (by omega))).2.1 h1;have hle:=hd 1 (by omega);have hRd:=λk=>QX (G:=G) hU hM e (x.l.drop 3) k (by rw[List.length_drop];have:=ht.1.2.2.1;omega) (λi hi=>by rw[il];exact hd _ (by rw[List.length_drop] at hi;omega)) (by rw[il];have:=(cp ht (3+0)).1.1;omega) (by rw[il];have:=(cp ht (3+0)).1.2.2.1;omega) (λi=>by rw[il];have:=(cp (cp ht (3+0)) i).1.2.2.1;omega);have hfk:=(rc (hf.2 1 (by omega))).2.2.1;have ht0:=(cp ht 0).1.1;have ht1:=cp ht 1;have pA:nb (aA x.l 1)=true->DK x=Itm.z/\gM x= .errno 3:=λh=>by
  unfold DK gM;rw[if_pos (.inr (.inl h)),if_neg (by rw[hb];decide),if_pos h];exact⟨rfl,rfl⟩
 have pB:nb (aA x.l 1)=false->dk (aA x.l 2).t=0->DK x=Itm.z/\gM x= .errno 5:=λh g=>by
  unfold DK gM;rw[if_pos (.inr (.inr g)),if_neg (by rw[hb];decide),if_neg (by rw[h];decide),if_pos g];exact⟨rfl,rfl⟩
 have pC:nb (aA x.l 1)=false->dk (aA x.l 2).t≠0->DK x=xU x/\gM x=(cE (x.l.drop 3) (Ih x)).2:=λh g=>by
  unfold DK gM;rw[if_neg (λq=>by rcases q with q|q|q;(rw[hb] at q;cases q);(rw[h] at q;cases q);exact g q),if_neg (by rw[hb];decide),if_neg (by rw[h];decide),if_neg g];exact⟨rfl,rfl⟩
 have hV:xU x=(⟨eM (aA x.l 1) (aA x.l 1).ks.length,al 97 122 (-32) (aA x.l 0).t,wH x,[]⟩,(cE (x.l.drop 3) (Ih x)).1):=rfl;have hPs:wH x=ek (aA x.l 1) (aA x.l 1).ks.length++if Ih x=oQ x then[] else[⟨valN,[(aA x.l 2).t]⟩]:=rfl
 have hK:Ih x=if dk (aA x.l 2).t=1/\(oQ x=2\/oQ x=3) then oQ x else dk (aA x.l 2).t:=rfl
 have hR4:oQ x=(ci 4 (al 97 122 (-32) (aA x.l 0).t)).t:=rfl;have hUp:=fK (G:=G) (aA x.l 0).t (by omega);generalize xU x=V at*
 generalize wH x=PS at*
 generalize oQ x=R4 at*
 generalize DK x=X at*
 generalize gM x=E at*
 rw[List.length_drop] at hRd;unfold Js.R;have hN:=qe (aA x.l 0).t;generalize al 97 122 (-32) (aA x.l 0).t=N at*
 refine fN func24 call24 λC hC hGL=> ?_;refine dU hC hGL (λb:Nat=>[(1,.rop (Js.C (e+1) x) 0),(2,.own 0 (bX b)),(3,.raw .nilIface)]) (λb=>[bV b Itm.z ax ax]) (λ_=>True) ?_ ?_
 ·refine az ?_;intro b;intros;exact cy b trivial
 intro b2 _;refine cut hC hGL [(1,.rop (Js.C (e+1) x) 0),(2,.own 0 (bX b2)),(3,.raw .nilIface)] [bV b2 Itm.z ax ax] True cx λ_=> ?_;refine dU hC hGL (λb:Nat=>[(1,.rop (Js.C (e+1) x) 0),(2,.own 0 (bX b2)),(3,.raw .nilIface),(4,.own 1 (bX b))]) (λb=>[bV b2 Itm.z ax ax,bV b (⟨[],N,[],[]⟩,Vl.no) ax ax]) (λ_=>True) ?_ ?_
 ·refine az ?_;intro b;intros;exact cy b trivial
 intro b4 _;generalize ho:aA x.l 1=o at*
 refine yF (λ_:Unit=>[(1,.rop (Js.C (e+1) x) 0),(2,.own 0 (bX b2)),(3,.raw .nilIface),(4,.own 1 (bX b4)),(5,.rop (Js.C e o) 0)]) (λ_=>[bV b2 Itm.z ax ax,bV b4 (⟨[],N,[],[]⟩,Vl.no) ax ax]) (λ_=>True) (am hC hGL ?_) ?_
 ·refine az ?_;intro b;intros;rw[ho];exact BY () trivial (aE (aK (i:=2) (k:=5) rfl rfl) (cQ ad an))
 intro _ _;refine dU hC hGL (λv:Value=>[(1,.rop (Js.C (e+1) x) 0),(2,.own 0 (bX b2)),(3,.raw .nilIface),(4,.own 1 (bX b4))]) (λv=>[bV b2 Itm.z ax ax,bV b4 (⟨eM o o.ks.length,N,[],[]⟩,Vl.no) (.own 2 v) ax,vF v (ek o o.ks.length)]) (λ_=>nb o=false) ?_ ?_
 ·refine az ?_;intros;refine qM (aE (gQ 2) (jD (i:=1) (p:=2) (x:=bV b4 (⟨[],N,[],[]⟩,Vl.no) ax ax) (a':=.own 2 (.slice none 0 0)) rfl (λR=>.cells rfl λ_=>jK))) ?_;refine lp hC hGL (λz:Nat×Value=>[(1,.rop (Js.C (e+1) x) 0),(2,.own 0 (bX b2)),(3,.raw .nilIface),(4,.own 1 (bX b4)),(5,.rop (Js.C e o) 0),(63,.list 1 o.ks.length (ay o.ks)),(64,.int .i64 (o.ks.length:Nat)),(65,.int .i64 (z.1:Nat))]) (λz=>[bV b2 Itm.z ax ax,bV b4 (⟨eM o z.1,N,[],[]⟩,Vl.no) (.own 2 z.2) ax,vF z.2 (ek o z.1)]) (λz=>z.1<=o.ks.length/\∀j,j<z.1->ss o j=false) (λz=>o.ks.length-z.1) (0,.slice none 0 0) ⟨Nat.zero_le _,λj h=>absurd h (Nat.not_lt_zero _)⟩ ad (by unfold eM ek;show _=[_,_,HEnt.row _ none 2 0 (mt [])];unfold mt;rfl) ?_;rintro⟨k,v⟩ ⟨k1,k2⟩;have k1:k<=o.ks.length:=k1;have k2:∀i,i<k->ss o i=false:=k2;dsimp only
  by_cases hlt:k<o.ks.length;case neg=>
   obtain rfl:k=o.ks.length:=by omega
   refine az ?_;intros;exact cy v (Nq k2)
  obtain⟨e',rfl,he'⟩:=e8 hle (show k<o.l.length by omega);have hs:=Ic (G:=G) e' (aA o.l k) he' (by have:=(cp ht1 k).1.2.2.1;omega);have hkl2:=eo (l:=o.ks) (k:=k);have hsm:=sm (G:=G) (o.ks.getD k []) valN (by omega) (by decide);have hup:=fK (G:=G) (o.ks.getD k []) (by omega);have hpl:=lR o k;have hol:=ht1.1.2.1;rw[Np] at hsm;unfold Js.R at hs;have hkB:ss o k=(!dl (aA o.l k)||aS (al 97 122 (-32) (o.ks.getD k [])) valN||(aS (o.ks.getD k []) qS&&(decide (1<(bp (aA o.l k)).length)||aS ((bp (aA o.l k)).getD 0 []) []))):=rfl;cases hsb:dl (aA o.l k) with
  |false=>
   obtain⟨e1,e2⟩:=pA (k9 hlt (by rw[hkB,hsb];rfl));rw[hsb] at hs;subst e2;refine az ?_;intros;exact pj e1 rfl
  |true=>
  have hsl:=vu hsb;rw[hsb] at hs;cases hvb:aS (al 97 122 (-32) (o.ks.getD k [])) valN with
  |true=>
   obtain⟨e1,e2⟩:=pA (k9 hlt (by rw[hkB,hsb,hvb];rfl));rw[hvb] at hsm;subst e2;refine az ?_;intros;exact pj e1 rfl
  |false=>
  rw[hvb] at hsm;by_cases hgk:o.ks.getD k []=[103,114,111,117,112]
  ·have hgb:aS (o.ks.getD k []) qS=true:=bx.2 hgk;by_cases hl1:1<(bp (aA o.l k)).length
   ·obtain⟨e1,e2⟩:=pA (k9 hlt (by rw[hkB,hsb,hvb,hgb,decide_eq_true hl1];rfl));subst e2;refine az ?_;intros;exact pj e1 rfl
   by_cases hz:((bp (aA o.l k)).getD 0 []).length=0
   ·obtain⟨e1,e2⟩:=pA (k9 hlt (by rw[hkB,hsb,hvb,hgb,decide_eq_false hl1,bx.2 (List.length_eq_zero_iff.1 hz)];rfl));subst e2;refine az ?_;intros;exact pj e1 rfl
   have hB0:ss o k=false:=by rw[hkB,hsb,hvb,hgb,decide_eq_false hl1,du.2 λg=>hz (List.length_eq_zero_iff.2 g)];rfl
   obtain⟨g1,g2⟩:=Nu hgb;refine az ?_;intros;refine cJ (k+1,v) ⟨hlt,aV k2 hB0⟩ (by show o.ks.length-(k+1)<o.ks.length-k;omega) ad ?_;dsimp only
   rw[g1,g2];exact List.Sublist.refl _
  ·have hgb:aS (o.ks.getD k []) qS=false:=du.2 hgk;have hB0:ss o k=false:=by rw[hkB,hsb,hvb,hgb];rfl
   obtain⟨g1,g2⟩:=Nt hgb;generalize al 97 122 (-32) (o.ks.getD k [])=K at*
   refine az ?_;intros;refine cR mixed hC hGL false (λ_:Option Addr×Nat×Nat=>[(1,.rop (Js.C (e'+1+1) x) 0),(2,.own 0 (bX b2)),(3,.raw .nilIface),(4,.own 1 (bX b4)),(5,.rop (Js.C (e'+1) o) 0),(63,.list 1 o.ks.length (ay o.ks)),(64,.int .i64 (o.ks.length:Nat)),(65,.int .i64 (k:Nat))]) (λz=>[bV b2 Itm.z ax ax,bV b4 (⟨eM o k,N,[],[]⟩,Vl.no) (.own 2 (.slice z.1 z.2.1 z.2.2)) ax,.row (.slice z.1 z.2.1 z.2.2) none 2 ((ek o k).length+1) (mt (ek o k)++[.str K,.list 1 (bp (aA o.l k)).length (ay (bp (aA o.l k)))])]) .p13 (by kernel_rfl) ?_ ?_
   ·refine xn ?_;repeat' first|exact .n|apply Lc.mk
    all_goals intros
    all_goals exact⟨(_,_,_),ad,rfl⟩
   rintro⟨va,vk,vc⟩;dsimp only
   refine az ?_;intros;refine cJ (k+1,.slice va vk vc) ⟨hlt,aV k2 hB0⟩ (by show o.ks.length-(k+1)<o.ks.length-k;omega) ad ?_;dsimp only
   rw[g1,g2];unfold vF;rw[List.length_append,oi];exact List.Sublist.refl _
 intro v hkE;have pB:=pB hkE;have pC:=pC hkE;clear pA hkl hle;generalize hw:(aA x.l 2).t=t at*
 refine cut hC hGL [(1,.rop (Js.C (e+1) x) 0),(2,.own 0 (bX b2)),(3,.raw .nilIface),(4,.own 1 (bX b4)),(10,.int .i64 0)] [bV b2 Itm.z ax ax,bV b4 (⟨eM o o.ks.length,N,[],[]⟩,Vl.no) (.own 2 v) ax,vF v (ek o o.ks.length)] True cx λ_=> ?_;refine cut hC hGL [(1,.rop (Js.C (e+1) x) 0),(2,.own 0 (bX b2)),(3,.raw .nilIface),(4,.own 1 (bX b4)),(10,.int .i64 (dk t))] [bV b2 Itm.z ax ax,bV b4 (⟨eM o o.ks.length,N,[],[]⟩,Vl.no) (.own 2 v) ax,vF v (ek o o.ks.length)] True ?_ λ_=> ?_
 ·have hcl:=call46;refine az ?_;intros;refine lp hC hGL (λj:Nat=>[(1,.rop (Js.C (e+1) x) 0),(2,.own 0 (bX b2)),(3,.raw .nilIface),(4,.own 1 (bX b4)),(10,.int .i64 (kS t j)),(11,.int .i64 (8-(j:Int)))]) (λ_=>[bV b2 Itm.z ax ax,bV b4 (⟨eM o o.ks.length,N,[],[]⟩,Vl.no) (.own 2 v) ax,vF v (ek o o.ks.length)]) (λj=>j<=8) (λj=>8-j) 0 (Nat.zero_le _) ⟨rfl,rfl,rfl,rfl,by unfold kS;rfl,rfl,trivial⟩ rfl ?_;intro j hj;by_cases h8:j<8
  ·have hK:=Fz (G:=G) (8-(j:Int));have hs:=Pw t j;generalize iC (8-(j:Int))=w8 at*
   refine az ?_;intros;refine cR mixed hC hGL false (λ_:Unit=>[(1,.rop (Js.C (e+1) x) 0),(2,.own 0 (bX b2)),(3,.raw .nilIface),(4,.own 1 (bX b4)),(10,.int .i64 (kS t j)),(11,.int .i64 (8-(j:Int))),(127,.bool (aS w8 t))]) (λ_=>[bV b2 Itm.z ax ax,bV b4 (⟨eM o o.ks.length,N,[],[]⟩,Vl.no) (.own 2 v) ax,vF v (ek o o.ks.length)]) (.t 0 (.t 2 (.t 3 (.t 4 (.t 5 (.t 6 (.b 1 (.t 7 .done)))))))) (by kernel_rfl) ?_ ?_
   ·refine xn ?_;repeat' first|exact .n|apply Lc.mk
    all_goals intros
    all_goals
     rw[hw];exact⟨(),ad,rfl⟩
   intro _;have h9:some (AVal.int .i64 (8-(j:Int)-1))=some (AVal.int .i64 (8-((j+1:Nat):Int))):=by
    rw[show 8-(j:Int)-1=8-((j+1:Nat):Int) by omega]
   cases hq:aS w8 t with
   |true=>
    rw[hq,if_pos rfl] at hs;refine az ?_;intros;exact cJ (j+1) h8 (by omega) ⟨rfl,rfl,rfl,rfl,by rw[hs];rfl,h9,trivial⟩ an
   |false=>
    rw[hq,if_neg (by decide)] at hs;refine az ?_;intros;exact cJ (j+1) h8 (by omega) ⟨rfl,rfl,rfl,rfl,by rw[hs];rfl,h9,trivial⟩ an
  ·obtain rfl:j=8:=by omega
   rw[Pu];exact cx
 by_cases hk0:dk t=0
 ·obtain⟨e1,e2⟩:=pB hk0;subst e2;refine am hC hGL (az ?_);intros;exact pj e1 rfl
 obtain⟨e1,e2⟩:=pC hk0;clear pB pC;generalize dk t=kw at*
 refine cut hC hGL [(1,.rop (Js.C (e+1) x) 0),(2,.own 0 (bX b2)),(3,.raw .nilIface),(4,.own 1 (bX b4)),(10,.int .i64 kw)] [bV b2 Itm.z ax ax,bV b4 (⟨eM o o.ks.length,N,[],[]⟩,Vl.no) (.own 2 v) ax,vF v (ek o o.ks.length)] True cx λ_=> ?_;have hOf:=nr (G:=G) hS 4 N (by omega);rw[show dR 4= .none by unfold dR;rfl] at hOf;unfold Rl.A at hOf;simp only[Err.A] at hOf;generalize ci 4 N=r at*
 obtain⟨r0,ra,rb,rp⟩:=r;dsimp only at*
 subst hR4;refine dU hC hGL (λb:Nat=>[(1,.rop (Js.C (e+1) x) 0),(2,.own 0 (bX b2)),(3,.raw .nilIface),(4,.own 1 (bX b4)),(10,.int .i64 kw),(12,.own 3 (bX b))]) (λb=>[bV b2 Itm.z ax ax,bV b4 (⟨eM o o.ks.length,N,[],[]⟩,Vl.no) (.own 2 v) ax,vF v (ek o o.ks.length),.cells b (some 90) [.int .i64 R4,.int .i64 ra,.int .i64 rb,.int .i64 rp]]) (λ_=>True) ?_ ?_
 ·refine az ?_;intro b;intros;exact cy b trivial
 intro b12 _;generalize Ih x=kk at*
 refine cut hC hGL [(1,.rop (Js.C (e+1) x) 0),(2,.own 0 (bX b2)),(3,.raw .nilIface),(4,.own 1 (bX b4)),(10,.int .i64 kk),(12,.own 3 (bX b12))] [bV b2 Itm.z ax ax,bV b4 (⟨eM o o.ks.length,N,[],[]⟩,Vl.no) (.own 2 v) ax,vF v (ek o o.ks.length),.cells b12 (some 90) [.int .i64 R4,.int .i64 ra,.int .i64 rb,.int .i64 rp]] True ?_ λ_=> ?_
 ·by_cases hc:kw=1/\(R4=2\/R4=3)
  ·rw[if_pos hc] at hK;obtain⟨hc1,hc2⟩:=hc;subst hK hc1;rcases hc2 with rfl|rfl
   ·exact cx
   ·exact cx
  ·rw[if_neg hc] at hK;subst hK;by_cases hc1:kk=1
   ·have g1:R4≠2:=λg=>hc ⟨hc1,.inl g⟩;have g2:R4≠3:=λg=>hc ⟨hc1,.inr g⟩;exact cx
   ·exact cx
 clear hK;refine yF (λ_:Value=>[(1,.rop (Js.C (e+1) x) 0),(2,.own 0 (bX b2)),(3,.raw .nilIface),(4,.own 1 (bX b4)),(10,.int .i64 kk)]) (λv=>[bV b2 Itm.z ax ax,bV b4 (⟨eM o o.ks.length,N,[],[]⟩,Vl.no) (.own 2 v) ax,vF v PS]) (λ_=>True) (am hC hGL ?_) ?_
 ·by_cases hkk:kk=R4
  ·rw[if_pos hkk,List.append_nil] at hPs;subst hPs;refine az ?_;intros;exact BY v trivial (cQ ad an)
  ·rw[if_neg hkk] at hPs;have hpl:=lR o o.ks.length;have hol:=ht1.1.2.1;refine az ?_;intros;refine cR mixed hC hGL false (λ_:Option Addr×Nat×Nat=>[(1,.rop (Js.C (e+1) x) 0),(2,.own 0 (bX b2)),(3,.raw .nilIface),(4,.own 1 (bX b4)),(10,.int .i64 kk)]) (λz=>[bV b2 Itm.z ax ax,bV b4 (⟨eM o o.ks.length,N,[],[]⟩,Vl.no) (.own 2 (.slice z.1 z.2.1 z.2.2)) ax,.row (.slice z.1 z.2.1 z.2.2) none 2 ((ek o o.ks.length).length+1) (mt (ek o o.ks.length)++[.str valN,.list 1 1 (bq [(0,.str (aA x.l 2).t)])]),.cells b12 (some 90) [.int .i64 R4,.int .i64 ra,.int .i64 rb,.int .i64 rp]]) (.t 0 (.t 2 (.br 1 (.b 3 (.t 4 (.t 5 (.b 6 (.b 7 (.t 8 (.b 9 (.b 10 (.t 11 (.b 12 .done)))))))))) (.b 3 (.t 4 (.t 5 (.br 1 (.b 6 (.b 7 (.t 8 (.b 9 (.b 10 (.t 11 (.b 12 .done))))))) (.b 6 (.br 1 (.b 7 (.t 8 (.b 9 (.b 10 (.t 11 (.b 12 .done)))))) (.b 7 (.t 8 (.br 1 (.b 9 (.b 10 (.t 11 (.b 12 .done)))) (.b 9 (.b 1 (.b 10 (.t 11 (.b 12 .done))))))))))))))))) (by kernel_rfl) ?_ ?_
   ·refine xn ?_;repeat' first|exact .n|apply Lc.mk
    all_goals intros
    all_goals exact⟨(_,_,_),ad,rfl⟩
   rintro⟨va,vk,vc⟩;refine BY (.slice va vk vc) trivial (aE (Hl (i:=2) (c:=.list 1 1 (ay [(aA x.l 2).t])) rfl λR u=>Dj) (cQ ad ?_));dsimp only
   rw[hPs];unfold vF;rw[List.length_append,oi,hw];exact an
 intro v2 _;refine Ag (jC (i:=2) (k:=1) (p:=2) (fH PS) rfl rfl (FP PS) (λR hr=>.cells (a:=.own 2 v2) rfl λ_=>df hr)) ?_;have hRd:=hRd kk;rw[<-Ib] at hRd;rw[e1,hV];subst e2;generalize cE (x.l.drop 3) kk=p at*
 obtain⟨vv,ee⟩:=p;dsimp only at hRd ⊢;unfold Vl.R at hRd;cases ee<;>simp only[Err.A,fq,BJ] at hRd ⊢
 all_goals
  refine am hC hGL (az ?_);intros;exact⟨[],List.nil_sublist _,_,_,rfl,rfl,.inr rfl,.inr (.inl rfl)⟩
theorem QY {G:Glo}{m:Int}(hU:ab G utfTy)(hM:ab G (ct m))(hS:rI G)(d n w:Nat)(x:Js)(hd:Js.le d x)(ht:Js.thin (w+4) x)(hf:Js.fit d x)(hr:kM (n+2) x=0):
  aj prog G 24 [Js.R d x] (.tuple [DL (DK x),(gM x).A]):=by
 refine dC (H:=[]) (Qf:=NB (DK x) (gM x).A) ?_ λ_ _ h=>NA h;cases hb:Pq x with
 |false=>
  have e1:DK x=Itm.z:=by unfold DK;rw[if_pos (.inl hb)]
  have e2:gM x= .errno 3:=by unfold gM;rw[if_pos hb]
  rw[e1,e2];exact Gi d x hd hb
 |true=>
  obtain⟨e,rfl, -⟩:=e8 hd (show 0<x.l.length by have:=(zF.1 hb).2.1;omega);exact Nw hU hM hS e n w x hd hb ht hf hr
end
section
def HO (x:Js):AVal:=if dl x=true then .list 1 (bp x).length (ay (bp x)) else .raw (.slice none 0 0)
theorem JQ {t:List UInt8}:tu (.ret (.list 1 1 (bq [(0,.str t)]))) [] (.list 1 1 (ay [t])):=by
 rintro C R w e' hm ⟨x,rfl,hx⟩;refine⟨R,hm,x,rfl,?_⟩;obtain⟨h1,h2⟩:=hx;refine⟨?_,h2⟩;obtain⟨a,cap,e,_⟩:=id h1;rw[e] at h1 ⊢;exact kq (n:=1) (λi hi=>by
  obtain rfl:i=0:=by omega
  rfl) h1
attribute [local irreducible] bN aw aa aC bg ab ae
attribute [local irreducible] bc
theorem vN {G:Glo}(d:Nat)(x:Js)(hd:Js.le d x)(hl:x.l.length<=1000000000):aj prog G 35 [Js.R d x] (HO x):=by
 unfold Js.R HO;cases hs:strB x with
 |true=>
  obtain⟨e1,e2⟩:=vr hs;have hk:=lk.1 hs;rw[e1,e2,if_pos rfl];refine dC (H:=[]) (Qf:=λr H=>r= .ret (.list 1 1 (bq [(0,.str x.t)]))/\H=[]) ?_ (λr H h=>by obtain⟨rfl,rfl⟩:=h;exact JQ);refine ao func35 call35 λC hC hGL=> ?_;exact ba
 |false=>
  have hk:=vl.1 hs;by_cases h6:x.k=6/\1<x.l.length
  ·obtain⟨h6,h7⟩:=h6;cases ha:x.l.all strB with
   |true=>
    obtain⟨e1,e2⟩:=vx hs ha;rw[e1,e2,bP.2 h6,decide_eq_true h7,if_pos (show(true&&true)=true from rfl)];have hst:∀k,k<x.l.length->(aA x.l k).k=5:=λk h=>lk.1 (by
     rw[List.all_eq_true] at ha;exact ha _ (by rw[mN h];exact List.getElem_mem h))
    have hlm:(x.l.map Js.t).length=x.l.length:=by rw[List.length_map]
    rw[hlm];refine jP (λa=>a) HW (ay (x.l.map Js.t)) (λi hi=>eq (x.l.map Js.t) i (by rw[List.length_map];exact hi)) (cs:=bc (x.l.map Js.t)) (eT:=none) ?_;refine ao func35 call35 λC hC hGL=> ?_;refine a6 ?_;intros;refine gv 3 1 rfl ?_;refine lp hC hGL (λz:Nat×Value=>[(3,.own 0 z.2),(22,.list 4 x.l.length (kR d x.l)),(23,.int .i64 (x.l.length:Nat)),(24,.int .i64 (z.1:Nat))]) (λz=>[.row z.2 none 1 z.1 (bc ((x.l.take z.1).map Js.t))]) (λz=>z.1<=x.l.length) (λz=>x.l.length-z.1) (0,.slice none 0 0) (Nat.zero_le _) ad (by dsimp only;rw[List.take_zero];unfold bc;rfl) ?_;rintro⟨k,v⟩ k1;have k1:k<=x.l.length:=k1;dsimp only
    by_cases hlt:k<x.l.length
    ·obtain⟨e,rfl,he⟩:=e8 hd hlt;have h5:=hst k hlt;refine a6 ?_;intro _ va vk vc;intros;refine cJ (k+1,Value.slice va vk vc) hlt (by show x.l.length-(k+1)<x.l.length-k;omega) ad ?_;dsimp only
     rw[rO hlt,<-bJ];exact .cons_cons _ (List.nil_sublist _)
    ·obtain rfl:k=x.l.length:=by omega
     rw[List.take_length];refine a6 ?_;intros;exact⟨_,.refl _,0,v,rfl,rfl⟩
   |false=>
    obtain⟨e1,e2⟩:=vw hs ha;rw[e1,if_neg (by decide)];refine ao func35 call35 λC hC hGL=> ?_;refine a6 ?_;intros;refine gv 3 1 rfl ?_;refine lp hC hGL (λz:Nat×Value=>[(3,.own 0 z.2),(22,.list 4 x.l.length (kR d x.l)),(23,.int .i64 (x.l.length:Nat)),(24,.int .i64 (z.1:Nat))]) (λz=>[.row z.2 none 1 z.1 (bc ((x.l.take z.1).map Js.t))]) (λz=>z.1<=x.l.length/\∀j,j<z.1->strB (aA x.l j)=true) (λz=>x.l.length-z.1) (0,.slice none 0 0) ⟨Nat.zero_le _,λj h=>absurd h (Nat.not_lt_zero _)⟩ ad (by dsimp only;rw[List.take_zero];unfold bc;rfl) ?_;rintro⟨k,v⟩ ⟨k1,k2⟩;have k1:k<=x.l.length:=k1;have k2:∀j,j<k->strB (aA x.l j)=true:=k2;dsimp only
    by_cases hlt:k<x.l.length
    ·obtain⟨e,rfl,he⟩:=e8 hd hlt;by_cases h5:(aA x.l k).k=5
     ·refine a6 ?_;intro _ va vk vc;intros;refine cJ (k+1,Value.slice va vk vc) ⟨hlt,aV k2 (lk.2 h5)⟩ (by show x.l.length-(k+1)<x.l.length-k;omega) ad ?_;dsimp only
      rw[rO hlt,<-bJ];exact .cons_cons _ (List.nil_sublist _)
     ·exact ba
    ·obtain rfl:k=x.l.length:=by omega
     rw[su k2] at ha;cases ha
  ·have e1:dl x=false:=by
    unfold dl;rw[hs,Bool.false_or];by_cases h:x.k=6
    ·rw[decide_eq_false λh7=>h6 ⟨h,h7⟩,Bool.false_and,Bool.and_false]
    ·rw[fV.2 h,Bool.false_and]
   rw[e1,if_neg (by decide)];by_cases h:x.k=6
   ·have h7:¬1<x.l.length:=λh7=>h6 ⟨h,h7⟩;refine ao func35 call35 λC hC hGL=> ?_;exact ba
   ·refine ao func35 call35 λC hC hGL=> ?_;exact ba
end
section
def aN (c:UInt8)(s:List UInt8):List UInt8:=s.filter (· != c)
theorem NI:∀{s:List UInt8} {c:UInt8},Lib.indexByte s c= -1->c∉s
 |[],c,_=>by simp
 |x::t,c,h=>by
  have hge:=Lib.indexByte_ge t c;unfold Lib.indexByte at h;split at h
  ·omega
  ·rename_i hx;split at h
   ·rename_i h2;have:=NI (beq_iff_eq.1 h2);simp only[List.mem_cons,not_or];exact⟨λe=>hx (by simp[e]),this⟩
   ·omega
theorem Ii:∀{s:List UInt8} {c:UInt8} {i:Nat},Lib.indexByte s c=i->∃t,s=s.take i++c::t/\s.drop (i+1)=t/\c∉s.take i
 |[],c,i,h=>by unfold Lib.indexByte at h;omega
 |x::t,c,i,h=>by
  have hge:=Lib.indexByte_ge t c;unfold Lib.indexByte at h;split at h
  ·rename_i hx;obtain rfl:i=0:=by omega
   have:x=c:=by simpa using hx
   subst this;exact⟨t,by simp,by simp,by simp⟩
  ·rename_i hx;split at h
   ·omega
   ·rename_i h2;have h2:Lib.indexByte t c≠ -1:=λe=>h2 (beq_iff_eq.2 e);obtain⟨j,rfl⟩:∃j,i=j+1:=⟨i-1,by omega⟩;have hj:Lib.indexByte t c=((j:Nat):Int):=by push_cast at h;omega
    obtain⟨u,h1,h2,h3⟩:=Ii (s:=t) (c:=c) (i:=j) hj;refine⟨u,by rw[List.take_succ_cons,List.cons_append,<-h1],by rw[List.drop_succ_cons];exact h2,?_⟩;rw[List.take_succ_cons,List.mem_cons,not_or];exact⟨λe=>hx (by simp[e]),h3⟩
theorem MH {s:List UInt8}{c:UInt8}(h:c∉s):aN c s=s:=by
 unfold aN;rw[List.filter_eq_self];intro x hx;simp only[bne_iff_ne,ne_eq];rintro rfl;exact h hx
theorem HB (c:UInt8):∀(f:Nat) (s:List UInt8),s.length<f->Lib.replaceK [c] [] (Lib.countFrom [c] f s) s=aN c s
 |0,s,h=>by omega
 |f+1,s,h=>by
  unfold Lib.countFrom;have hge:=Lib.indexByte_ge s c;split
  ·rename_i h1;have h1:=beq_iff_eq.1 h1;rw[Lib.index_one] at h1;rw[Lib.replaceK,MH (NI h1)]
  ·rename_i h1;rw[Lib.index_one] at h1 ⊢;obtain⟨i,hi⟩:∃i:Nat,Lib.indexByte s c=i:=⟨(Lib.indexByte s c).toNat,by
    have:Lib.indexByte s c≠ -1:=λe=>h1 (beq_iff_eq.2 e);omega⟩
   obtain⟨t,h2,h3,h4⟩:=Ii hi;have hi2:Lib.index s [c]=(i:Int):=by rw[Lib.index_one];exact hi
   have hlen:t.length<f:=by
    rw[<-h3,List.length_drop];have:=congrArg List.length h2;simp only[List.length_append,List.length_cons,List.length_take] at this;omega
   rw[hi,Nat.add_comm 1,Lib.replaceK_hit _ _ _ _ i hi2];simp only[Int.toNat_natCast,List.length_cons,List.length_nil,Nat.zero_add,List.append_nil];rw[h3,HB c f t hlen];conv=>rhs;rw[h2]
   have e1:aN c (s.take i++c::t)=aN c (s.take i)++aN c t:=by unfold aN;rw[List.filter_append,List.filter_cons];simp
   rw[e1,MH h4]
theorem CV (s:List UInt8)(c:UInt8):Lib.replaceAll s [c] []=aN c s:=by
 unfold Lib.replaceAll Lib.replace Lib.replaceNum Lib.count;rw[if_neg (by simp),if_pos (.inl (by decide))];exact HB c _ s (Nat.lt_succ_self _)
theorem strings_ReplaceAll {G:Glo}{m:Int}(hU:ab G (ct m))(s:List UInt8)(c:UInt8)(hl:s.length<=1000000):aj prog G 111 [.str s,.str [c],.str []] (.str (aN c s)):=by
 refine bO rfl call111 ?_;rintro R args ⟨x,u,e,hx,y,u',e',hy,z,u2,e2,hz,rfl⟩ w hG hs;obtain rfl:=aI.1 hx;obtain rfl:=aI.1 hy;obtain rfl:=aI.1 hz;subst e2;subst e';obtain rfl:=fb e;refine(Tryz.strings_ReplaceAll ⟨s.toArray⟩ ⟨#[c]⟩ ⟨#[]⟩ m w (by rw[bG];omega) (qK hU hG hs) (Nat.le_refl 1) (by rw[bG];show s.length+_*0<=_;omega)).mono ?_;rintro e w' ⟨rfl,hb⟩;exact⟨by simp[AVal.conc,CV],hb⟩
end
section
set_option maxHeartbeats 8000000
attribute [local irreducible] bN aw aC bg ab ae
def E8 (t:Stm):Nat->Bool
 |0=>eX t.y 0 9999
 |1=>eX t.m 1 12
 |2=>eX t.d 1 t.day
 |3=>eX t.h 0 23
 |4=>eX t.i 0 59
 |_=>eX t.s 0 59
theorem TA {t:Stm}(h:∀j,j<6->E8 t j=true)(z:uS t.o=true):t.rng=true:=by
 have h0:eX t.y 0 9999=true:=h 0 (by decide);have h1:eX t.m 1 12=true:=h 1 (by decide);have h2:eX t.d 1 t.day=true:=h 2 (by decide);have h3:eX t.h 0 23=true:=h 3 (by decide);have h4:eX t.i 0 59=true:=h 4 (by decide);have h5:eX t.s 0 59=true:=h 5 (by decide);unfold Stm.rng;rw[h0,h1,h2,h3,h4,h5,z];rfl
theorem r8 {t:Stm}(j:Nat)(h:E8 t j=false):t.rng=false:=by
 unfold Stm.rng
 match j,h with
 |0,h=>have h:eX t.y 0 9999=false:=h;simp[h]
 |1,h=>have h:eX t.m 1 12=false:=h;simp[h]
 |2,h=>have h:eX t.d 1 t.day=false:=h;simp[h]
 |3,h=>have h:eX t.h 0 23=false:=h;simp[h]
 |4,h=>have h:eX t.i 0 59=false:=h;simp[h]
 |n+5,h=>have h:eX t.s 0 59=false:=h;simp[h]
theorem Vz {t:Stm}(z:uS t.o=false):t.rng=false:=by
 unfold Stm.rng;rw[z];simp
theorem e_3 {t:Stm}(h:¬yO t.dn t.tn t.z t.h t.o):t.e=3:=by
 unfold Stm.e;rw[if_neg (λk=>h ((ld t).1 k))]
theorem e_2 {t:Stm}(h:yO t.dn t.tn t.z t.h t.o)(k:t.rng=false):t.e=2:=by
 unfold Stm.e;rw[if_pos ((ld t).2 h),k];rfl
theorem e_0 {t:Stm}(h:yO t.dn t.tn t.z t.h t.o)(k:t.rng=true):t.e=0:=by
 unfold Stm.e;rw[if_pos ((ld t).2 h),k];rfl
theorem lC {t:Stm}{k:Nat}(h:∀j,j<k->E8 t j=true)(hk:E8 t k=true):∀j,j<k+1->E8 t j=true:=by
 intro j hj;rcases Nat.lt_or_ge j k with g|g
 ·exact h j g
 ·rw[show j=k by omega];exact hk
theorem U2 {p q:Prop}[Decidable p][Decidable q]:((decide p&&decide q)=true)↔p/\q:=by simp
theorem U3 {p q:Prop}[Decidable p][Decidable q]:((decide p&&decide q)=false)↔¬(p/\q):=by simp
theorem wT {n lo hi:Int}(h:n= -1\/lo<=n/\n<=hi):eX n lo hi=true:=uX.2 h
theorem wF {n lo hi:Int}(h:¬(n= -1\/lo<=n/\n<=hi)):eX n lo hi=false:=SQ.2 h
attribute [local irreducible] dT
theorem iT {G:Glo}(hS:ab G shapesTy)(t:Stm):aj prog G 123 [t.A] (.int .i64 t.e):=by
 have h1:=od hS t.y t.m t.d;have h2:=od hS t.h t.i t.s;have h3:=Mu (G:=G) t.y t.m;have k1:=λn lo hi (_:(0:Int)<=0)=>eY (G:=G) n lo hi;have h5:=iS (G:=G) t.o;have hE3:=e_3 (t:=t);have hE2:=e_2 (t:=t);have hE0:=e_0 (t:=t);unfold yO Stm.dn Stm.tn at hE3 hE2 hE0;refine fN func123 call123 λC hC hGL=> ?_;refine cut hC hGL [(1,.rop t.R 0),(2,.int .i64 0)] [] True ?_ λ_=> ?_
 ·exact ba
 refine cut hC hGL [(1,.rop t.R 0),(3,.int .i64 (dT (aB t.y) (aB t.m) (aB t.d))),(4,.int .i64 (dT (aB t.h) (aB t.i) (aB t.s)))] [] True ?_ λ_=> ?_
 ·refine az ?_;refine cR mixed hC hGL false (λ(_:Unit)=>[(1,.rop t.R 0),(3,.int .i64 (dT (aB t.y) (aB t.m) (aB t.d))),(4,.int .i64 (dT (aB t.h) (aB t.i) (aB t.s)))]) (λ_=>[]) .p10 (by kernel_rfl) ?_ ?_
  ·refine xn ?_;repeat' first|exact .n|apply Lc.mk
   all_goals intros
   all_goals exact⟨(),⟨rfl,rfl,rfl,trivial⟩,rfl⟩
  ·intro _;exact cx
 clear h1 h2;generalize dT (aB t.y) (aB t.m) (aB t.d)=D at*
 generalize dT (aB t.h) (aB t.i) (aB t.s)=T at*
 refine cut hC hGL [(1,.rop t.R 0),(3,.int .i64 D),(4,.int .i64 T)] [] (0<=D/\0<=T/\¬(D=0/\T=0)) ?_ λp1=> ?_
 ·clear hE2 hE0;refine xw ?_;repeat' first|exact .n|apply Lc.mk
  all_goals intros
  all_goals first|omega|(apply ak;refine congrArg (AVal.int .i64) ?_;rw[hE3 (λk=>by have:=k.1;omega)])
 refine cut hC hGL [(1,.rop t.R 0),(3,.int .i64 D),(4,.int .i64 T)] [] (0<D/\0<T->(D=3\/D=5\/D=6)/\T<=3) ?_ λp2=> ?_
 ·clear hE2 hE0;refine xw ?_;repeat' first|exact .n|apply Lc.mk
  all_goals intros
  all_goals first|omega|(apply ak;refine congrArg (AVal.int .i64) ?_;rw[hE3 (λk=>by have:=k.1.2.2.2;omega)])
 refine cut hC hGL [(1,.rop t.R 0)] [] ((t.z=true->t.h≠ -1)/\(t.z=false->t.o=0)) ?_ λp3=> ?_
 ·clear hE2 hE0 p1 p2;refine xw ?_;repeat' first|exact .n|apply Lc.mk
  all_goals intros
  all_goals first
   |exact Bool.noConfusion ((show t.z=true by assumption).symm.trans (show t.z=false by assumption))
   |exact⟨λ_=>by assumption,λk=>Bool.noConfusion ((show t.z=true by assumption).symm.trans k)⟩
   |exact⟨λk=>Bool.noConfusion (k.symm.trans (show t.z=false by assumption)),λ_=>by assumption⟩
   |(apply ak;refine congrArg (AVal.int .i64) ?_;rw[hE3 (λk=>by have:=k.2;rw[if_pos (by assumption)] at this;omega)])
   |(apply ak;refine congrArg (AVal.int .i64) ?_;rw[hE3 (λk=>by have:=k.2;rw[if_neg (by rw[show t.z=false by assumption];decide)] at this;omega)])
 have hF:(0<=D/\0<=T/\¬(D=0/\T=0)/\(0<D/\0<T->(D=3\/D=5\/D=6)/\T<=3))/\(if t.z=true then t.h≠ -1 else t.o=0):=by
  refine⟨⟨p1.1,p1.2.1,p1.2.2,p2⟩,?_⟩;split
  ·exact p3.1 (by assumption)
  ·rename_i k;exact p3.2 (by simpa using k)
 have key2:=hE2 hF;have key0:=hE0 hF;clear hE2 hE0 hE3 hF p1 p2 p3;refine cut hC hGL [(1,.rop t.R 0),(5,.int .i64 31)] [] True ?_ λ_=> ?_
 ·exact ba
 refine dU hC hGL (λq:Int=>[(1,.rop t.R 0),(5,.int .i64 q)]) (λ_=>[]) (λq=>q=t.day) ?_ λq hq=> ?_
 ·refine xw ?_;repeat' first|exact .n|apply Lc.mk
  all_goals intros
  all_goals first
   |exact cy _ (by unfold Stm.day;rw[if_neg (by assumption)])
   |exact cy _ (by unfold Stm.day;rw[if_pos (by assumption)])
 subst hq;refine cut hC hGL [(1,.rop t.R 0)] [] (∀j,j<6->E8 t j=true) ?_ λhj=> ?_
 ·refine a6 ?_;refine lp hC hGL (λ(k:Nat)=>[(1,.rop t.R 0),(104,_),(105,.int .i64 6),(106,.int .i64 (k:Nat))]) (λ_=>[]) (λk=>k<=6/\∀j,j<k->E8 t j=true) (λk=>6-k) 0 ?_ ad rfl ?_
  ·exact⟨by omega,λj hj=>absurd hj (by omega)⟩
  rintro k ⟨hk,hj⟩;rcases(show k=0\/k=1\/k=2\/k=3\/k=4\/k=5\/k=6 by omega) with rfl|rfl|rfl|rfl|rfl|rfl|rfl
  all_goals
   refine xw ?_;repeat' first|exact .n|apply Lc.mk
   all_goals intros
   all_goals try simp only[U2,U3] at*
   all_goals first
    |exact hj _ (by assumption)
    |exact cJ 1 ⟨by decide,lC hj (wT (by omega))⟩ (by decide) ad an
    |exact cJ 2 ⟨by decide,lC hj (wT (by omega))⟩ (by decide) ad an
    |exact cJ 3 ⟨by decide,lC hj (wT (by omega))⟩ (by decide) ad an
    |exact cJ 4 ⟨by decide,lC hj (wT (by omega))⟩ (by decide) ad an
    |exact cJ 5 ⟨by decide,lC hj (wT (by omega))⟩ (by decide) ad an
    |exact cJ 6 ⟨by decide,lC hj (wT (by omega))⟩ (by decide) ad an
    |(apply ak;refine congrArg (AVal.int .i64) ?_;first
     |rw[key2 (r8 0 (wF (by omega)))]
     |rw[key2 (r8 1 (wF (by omega)))]
     |rw[key2 (r8 2 (wF (by omega)))]
     |rw[key2 (r8 3 (wF (by omega)))]
     |rw[key2 (r8 4 (wF (by omega)))]
     |rw[key2 (r8 5 (wF (by omega)))])
 refine am hC hGL ?_;refine xw ?_;repeat' first|exact .n|apply Lc.mk
 all_goals intros
 all_goals (apply ak;refine congrArg (AVal.int .i64) ?_;first|rw[key0 (TA hj (by assumption))]|rw[key2 (Vz (by assumption))])
end
section
def WQ (i k:Nat):Bool:=([[false,false,false],[true,false,false],[true,true,false],[true,true,true],[false,true,false],[false,true,true],[false,false,true]].getD i []).getD k false
def fB (s:List UInt8)(a b:Nat):Prop:=∀j,a<=j->j<b->48<=aa s j/\aa s j<=57
theorem VW {α:Type}{l:List α}(h:l.length=4):∃a b c d,l=[a,b,c,d]:=by
 match l,h with
 |[a,b,c,d],_=>exact⟨a,b,c,d,rfl⟩
theorem Wy {s:List UInt8}(hl:s.length=4)(hd:fB s 0 4):Lib.atoiAll s= .ok (ji s 0):=by
 obtain⟨a,b,c,d,rfl⟩:=VW hl;have ha:48<=a.toNat/\a.toNat<=57:=hd 0 (by omega) (by omega);have hb:48<=b.toNat/\b.toNat<=57:=hd 1 (by omega) (by omega);have hc:48<=c.toNat/\c.toNat<=57:=hd 2 (by omega) (by omega);have hdd:48<=d.toNat/\d.toNat<=57:=hd 3 (by omega) (by omega);have e:ji [a,b,c,d] 0=10*(10*(10*((a.toNat:Int)-48)+((b.toNat:Int)-48))+((c.toNat:Int)-48))+((d.toNat:Int)-48):=rfl;have p:Lib.parseUint10 0 [a,b,c,d]= .ok ((((0*10+(a.toNat-48))*10+(b.toNat-48))*10+(c.toNat-48))*10+(d.toNat-48)):=by
  rw[Lib.parseUint10,if_pos ha,if_neg (by omega),if_neg (by omega),Lib.parseUint10,if_pos hb,if_neg (by omega),if_neg (by omega),Lib.parseUint10,if_pos hc,if_neg (by omega),if_neg (by omega),Lib.parseUint10,if_pos hdd,if_neg (by omega),if_neg (by omega),Lib.parseUint10]
 unfold Lib.atoiAll;dsimp only
 rw[if_neg (by omega)];unfold Lib.parseMag;rw[if_neg (by simp),p];dsimp only
 rw[if_neg (by omega),if_neg (by omega),if_neg (by omega),e];congr 1
 omega
theorem KN {G:Glo}(s:List UInt8)(hl:s.length=4)(hd:fB s 0 4):aj prog G 81 [.str s] (.tuple [.int .i64 (ji s 0),.raw .nilIface]):=by
 have ha:=Wy hl hd;refine gp (.tuple #[.int .i64 (ji s 0),.nilIface]) (λR=>lI (aq.2 rfl) (ar.2 rfl)) call81 ?_;intro R args hr w _ _;obtain⟨x,t,e',hx,rfl⟩:=hr;obtain rfl:=aI.1 hx;obtain rfl:=fb e';refine(strconv_Atoi_ok ⟨s.toArray⟩ (by rw[bG];omega) _ (by simpa using ha) w).mono ?_;rintro e w' ⟨rfl,hw⟩;refine⟨rfl,?_⟩;rcases hw with rfl|⟨t,rfl⟩
 ·exact Below.refl _ _
 ·exact⟨rfl,rfl,rfl,by rw[Lib.bytesWorld_size];omega,λk hk=>Lib.bytesWorld_at_old _ _ _ _ hk⟩
abbrev IJ (b:Nat)(t:List UInt8):HEnt:=.cells b (some 9) [.str t]
theorem j7 {G:Glo}{m:Int}(hM:ab G (ct m))(i k:Nat)(hi:i<=6)(hk:k<3):aj prog G 29 [.str (iY i),.str (([97,98,99].take (k+1)).drop k)] (.bool (WQ i k)):=by
 have:=iF (G:=G) hM (iY i) (([97,98,99].take (k+1)).drop k);rcases(show k=0\/k=1\/k=2 by omega) with rfl|rfl|rfl<;>rcases(show i=0\/i=1\/i=2\/i=3\/i=4\/i=5\/i=6 by omega) with rfl|rfl|rfl|rfl|rfl|rfl|rfl<;>exact this (by decide)
def sY (i:Nat)(s:List UInt8):Int:=if i=1\/i=2\/i=3 then ji s 0 else-1
def sM (i:Nat)(s:List UInt8):Int:=if i=2\/i=3 then dj s 4 else if i=4\/i=5 then dj s 0 else-1
def sD (i:Nat)(s:List UInt8):Int:=if i=3 then dj s 6 else if i=5 then dj s 2 else if i=6 then dj s 0 else-1
def sH (i:Nat)(s:List UInt8):Int:=if i=1\/i=2\/i=3 then dj s 0 else-1
def sI (i:Nat)(s:List UInt8):Int:=if i=2\/i=3 then dj s 2 else if i=4\/i=5 then dj s 0 else-1
def sS (i:Nat)(s:List UInt8):Int:=if i=3 then dj s 4 else if i=5 then dj s 2 else if i=6 then dj s 0 else-1
def dN (i:Nat):Nat:=[0,4,6,8,2,4,2].getD i 0
def cN (i:Nat):Nat:=[0,2,4,6,2,4,2].getD i 0
def Sj (i j:Nat)(d c z:List UInt8):Stm×Int:=
 if z≠[]/\(bI z).2≠0 then(Stm.no,(bI z).2)
 else if(⟨sY i d,sM i d,sD i d,sH j c,sI j c,sS j c,decide (z≠[]),if z=[] then 0 else(bI z).1⟩:Stm).e=0 then(⟨sY i d,sM i d,sD i d,sH j c,sI j c,sS j c,decide (z≠[]),if z=[] then 0 else(bI z).1⟩,0)
 else(Stm.no,(⟨sY i d,sM i d,sD i d,sH j c,sI j c,sS j c,decide (z≠[]),if z=[] then 0 else(bI z).1⟩:Stm).e)
theorem fk {s:List UInt8}{a b:Nat}:dj (s.drop a) b=dj s (a+b):=by
 unfold dj bU;rw[cM,cM,Nat.add_assoc]
attribute [local irreducible] bN aw aa aC bg ab ae
attribute [local irreducible] Lib.contains
theorem Au {G:Glo}(b:Nat)(t:List UInt8)(h4:4<=t.length)(hl:t.length<=1000000)(hd:fB t 0 4):ae prog G 168 [.raw (pW b),.int .i64 4] [IJ b t] (λr H=>r= .ret (.int .i64 (ji t 0))/\H=[IJ b (t.drop 4)]):=by
 have k0:aj prog G 81 [.str (t.take 4)] (.tuple [.int .i64 (ji t 0),.raw .nilIface]):=by
  have:=KN (G:=G) (t.take 4) (by rw[List.length_take];omega) (λj h1 h2=>by rw[gm h2];exact hd j h1 h2);have e:ji (t.take 4) 0=ji t 0:=by unfold ji bU;rw[gm (by omega),gm (by omega),gm (by omega),gm (by omega)]
  rwa [e] at this
 have hGL:ab G []:=aG;refine wX [(0,0,pW b)] func168 call168 rfl rfl rfl rfl (by repeat (first|exact trivial|refine And.intro ⟨rfl,rfl⟩ ?_)) ?_;intro C hC;exact am hC hGL ba
theorem fD {G:Glo}(b:Nat)(t:List UInt8)(h4:2<=t.length)(hl:t.length<=1000000)(hd:fB t 0 2):ae prog G 168 [.raw (pW b),.int .i64 2] [IJ b t] (λr H=>r= .ret (.int .i64 (dj t 0))/\H=[IJ b (t.drop 2)]):=by
 have k0:aj prog G 81 [.str (t.take 2)] (.tuple [.int .i64 (dj t 0),.raw .nilIface]):=by
  have:=xH (G:=G) (t.take 2) (by rw[List.length_take];omega) (by rw[gm (by omega)];exact hd 0 (by omega) (by omega)) (by rw[gm (by omega)];exact hd 1 (by omega) (by omega));have e:10*bU (t.take 2) 0+bU (t.take 2) 1=dj t 0:=by unfold dj bU;rw[gm (by omega),gm (by omega)]
  rwa [e] at this
 have hGL:ab G []:=aG;refine wX [(0,0,pW b)] func168 call168 rfl rfl rfl rfl (by repeat (first|exact trivial|refine And.intro ⟨rfl,rfl⟩ ?_)) ?_;intro C hC;exact am hC hGL ba
end
end Go.Proofs.YtpgdnpielhfpgaaGreatDoor
