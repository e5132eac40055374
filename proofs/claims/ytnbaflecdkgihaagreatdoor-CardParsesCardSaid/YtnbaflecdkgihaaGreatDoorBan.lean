/- Parts of the proof of cardParses_card. -/
import Derived.Laws.StructEq
import Derived.Test.YtnbaflecdkgihaaGreatDoorBam
set_option linter.unusedVariables false
set_option linter.unusedSimpArgs false
set_option linter.unusedSectionVars false
namespace Go.Proofs.YtnbaflecdkgihaaGreatDoor
open Go Go.RowKit
open Tryz
set_option maxRecDepth 20000
set_option maxHeartbeats 4000000
section
def zG:List Bool->Bool
 |[]=>true
 |b::l=>b&&zG l
def AS (P:Program)[Tab P](cs ds:List AVal):List Field->Option (List Bool)
 |[]=>some []
 |f::fs=>match bi P f.type,cs[f.offset]?,ds[f.offset]?,AS P cs ds fs with
  |some x,some a,some b,some l=>match x.desc,a,b with
   |.int _,.int k m,.int j q=>match Nat.beq (Pm k) (Pm j) with
    |true=>some (bU m q::l)
    |false=>none
   |.string,.str s,.str t=>some (aY s t::l)
   |.bool,.bool s,.bool t=>some ((s==t)::l)
   |_,_,_=>none
  |_,_,_,_=>none
theorem Et {P:Program}[Tab P]{xs:Array Value}{v:Value}{t:TypeId}{x:TI}{o:Nat}(ht:bi P t=some x)(hd:co x.desc=false)(hv:xs[o]? =some v)(w:World):(part t xs o).run P w= .ok v w:=by
 simp only[part,e_,dS ht,hd,c_,Bu,Zd,hv,h_]
theorem nM {P:Program}[Tab P]{R:Seal}{cs ds:List AVal}{xs ys:Array Value}(ha:bX R cs xs.toList)(hb:bX R ds ys.toList)(d:Nat)(w:World):
  ∀(fs:List Field) (l:List Bool),(fs.all fun f=>f.name != "_")=true→AS P cs ds fs=some l→(Op.eqFields (d+1) xs ys fs).run P w= .ok (zG l) w
 |[],l,_,h=>by
  simp only[AS,g_] at h
  subst h
  rfl
 |f::fs,l,hn,h=>by
  simp only[List.all_cons,l_,bne_iff_ne,Za] at hn
  simp only[AS] at h
  split at h
  ·rename_i x a b l' ht h1 h2 h3
   have ih:=nM ha hb d w fs l' hn.2 h3
   obtain⟨va,e1,r1⟩:=fo ha h1
   obtain⟨vb,e2,r2⟩:=fo hb h2
   have e1:xs[f.offset]? =some va:=by simpa using e1
   have e2:ys[f.offset]? =some vb:=by simpa using e2
   have fin:∀r:Bool,co x.desc=false→(Op.equalIn (d+1) f.type va vb).run P w= .ok r w→(Op.eqFields (d+1) xs ys (f::fs)).run P w= .ok (zG (r::l')) w:=by
    intro r hd hr
    simp only[Op.eqFields,Za,hn.1,not_false_eq_true,Zc,e_,Et ht hd e1,Et ht hd e2,c_,hr]
    cases r
    ·rfl
    ·exact ih
   split at h
   ·rename_i q1 k m j q hd
    split at h
    ·rename_i hk
     cases h
     obtain rfl:=xH hk
     obtain rfl:=aq.1 (cT r1 rfl)
     obtain rfl:=aq.1 (cT r2 rfl)
     refine fin _ (by rw[hd];rfl) ?_
     rw[run_equalIn_int w d f.type _ _ _ _ (by rw[bN ht,hd])]
     unfold bU
     rfl
    ·cases h
   ·rename_i s t hd
    cases h
    obtain rfl:=aD.1 (cT r1 rfl)
    obtain rfl:=aD.1 (cT r2 rfl)
    refine fin _ (by rw[hd];rfl) ?_
    rw[run_equalIn_string w d f.type _ _ (by rw[bN ht,hd])]
    rw[ByteArray.toList_eq,ByteArray.toList_eq]
    unfold aY
    simp
   ·rename_i s t hd
    cases h
    obtain rfl:=aO.1 (cT r1 rfl)
    obtain rfl:=aO.1 (cT r2 rfl)
    exact fin _ (by rw[hd];rfl) (run_equalIn_bool' w d f.type _ _ (by rw[bN ht,hd]))
   ·cases h
  ·cases h
section
variable {P:Program} [Tab P] {C:Ctx} {env:Env} {H:Heap} {x y:Operand} {T ty:TypeId}
theorem C1 {R:Seal}{cs:List AVal}{v:Value}(h:bx R (.agg cs) v):∃vs,v= .agg vs/\bX R cs vs.toList:=by
 obtain⟨h1,h2⟩:=h;cases v<;>first|exact⟨_,rfl,h1⟩|(simp[AVal.isAgg,dc] at h2)
theorem N7 {cs ds:List AVal}{fs:Array Field}{l:List Bool}{xT:TI}(b:Bool)(hx:ai env x=some (.agg cs))(hy:ai env y=some (.agg ds))(h1:bi P T=some xT)(h2:xT.desc= .struct fs)
  (h3:P.stoodInHeld T=false) (h4:P.eqGuardType P.depth T=false) (h5:(fs.toList.all fun f=>f.name != "_")=true) (h6:AS P cs ds fs.toList=some l) (hb:zG l=b):bA P C H env (.binOp .eql T x y ty) (.bool b):=by
 intro R ρ w hm hf dst t p af g
 refine⟨_,?_,aO.2 rfl⟩
 obtain⟨xs,ex,rx⟩:=C1 (hf _ _ hx)
 obtain⟨ys,ey,ry⟩:=C1 (hf _ _ hy)
 have hu:P.underlying T=some (.struct fs):=by rw[bN h1,h2]
 have hfo:P.fieldsOf T=fs:=by unfold Program.fieldsOf;rw[hu]
 have e1:(Op.equalIn 10000 T (.agg xs) (.agg ys)).run P w= .ok b w:=by
  rw[show(10000:Nat)=9999+1 from rfl,run_equalIn_agg w 9999 T xs ys (by rw[hfo];exact hu) h3,hfo]
  subst hb
  exact nM rx ry 9998 w _ _ h5 h6
 simp only[execOp,ex,ey,e_,run_eql_struct,e1,run_eqGuard_agg w .eql T x y xs ys h4,c_,h_]
theorem sW {cs ds:List AVal}{fs:Array Field}{l:List Bool}{xT:TI}(b:Bool)(hx:ai env x=some (.agg cs))(hy:ai env y=some (.agg ds))(h1:bi P T=some xT)(h2:xT.desc= .struct fs)
  (h3:P.stoodInHeld T=false) (h4:P.eqGuardType P.depth T=false) (h5:(fs.toList.all fun f=>f.name != "_")=true) (h6:AS P cs ds fs.toList=some l) (hb:zG l=b):bA P C H env (.binOp .neq T x y ty) (.bool (!b)):=by
 intro R ρ w hm hf dst t p af g
 refine⟨_,?_,aO.2 rfl⟩
 obtain⟨xs,ex,rx⟩:=C1 (hf _ _ hx)
 obtain⟨ys,ey,ry⟩:=C1 (hf _ _ hy)
 have hu:P.underlying T=some (.struct fs):=by rw[bN h1,h2]
 have hfo:P.fieldsOf T=fs:=by unfold Program.fieldsOf;rw[hu]
 have e1:(Op.equalIn 10000 T (.agg xs) (.agg ys)).run P w= .ok b w:=by
  rw[show(10000:Nat)=9999+1 from rfl,run_equalIn_agg w 9999 T xs ys (by rw[hfo];exact hu) h3,hfo]
  subst hb
  exact nM rx ry 9998 w _ _ h5 h6
 simp only[execOp,ex,ey,e_,run_neq_struct,e1,run_eqGuard_agg w .neq T x y xs ys h4,c_,h_]
end
end
section
attribute [local irreducible] bG au aa az aR ab ad
attribute [local irreducible] iw fd dm mC
theorem vW {G:Glo}(hGL:ab G errTy)(x:Err):ak prog G 165 [x.A] x.b.A:=by
 have h:=sG hGL x;cases x;all_goals
  refine uZ func165 call165 rfl rfl rfl rfl hGL ?_;intro C hC;exact bB
theorem vN (t:Stm):zG [bU t.y 0,bU t.m 0,bU t.d 0,bU t.h 0,bU t.i 0,bU t.s 0,t.z==false,bU t.o 0]=mC t:=by
 unfold mC;rw[w_];simp only[zG,l_,fA,Bool.and_true,n_,YS]
theorem GC {G:Glo}(v:Vl):ak prog G 164 [v.A] (.bool v.only):=by
 have hz:=vN v.st;refine ax func164 call164 λC hC hGL=> ?_;refine xw ?_;repeat' first|exact .n|apply Lc.mk
 all_goals intros
 all_goals try (refine aZ hC hGL (N7 (mC v.st) rfl rfl rfl rfl be be be rfl hz) rfl rfl ?_;refine xw ?_)
 repeat' first|exact .n|apply Lc.mk
 all_goals intros
 all_goals (apply aj;refine congrArg AVal.bool ?_;rw[w_];unfold Vl.only;rw[n_];cases hq:mC v.st<;>first|exact absurd (hq.symm.trans (show mC v.st=true by assumption)) b_|exact absurd (hq.symm.trans (show mC v.st=false by assumption)) b_|(simp only[hq,fA,reduceCtorEq,true_iff,false_iff,true_or,false_or,iff_true,true_and,and_true];omega))
theorem JM {L:List (List (List UInt8))}{k:Nat}(hk:k<L.length)(h1:k<=eA L)(h0:(L.getD k []).length=0):eA L<L.length:=by
 rw[tt hk h1 (s_ h0)];exact hk
theorem EH {L:List (List (List UInt8))}{k:Nat}(hk:k<L.length)(h1:k<=eA L)(h0:(L.getD k []).length≠0):k+1<=eA L:=qQ hk h1 (λh=>h0 (by rw[h];rfl))
def W0 (L:List (List (List UInt8)))(k:Nat):Prop:=∀i,i<k->(L.getD i []).all (fd true)=true
def XN (l:List (List UInt8))(j:Nat):Prop:=∀i,i<j->fd true (l.getD i [])=true
theorem Kg {l:List (List UInt8)}{j:Nat}(hj:l.length<=j)(h:XN l j):l.all (fd true)=true:=by
 rw[Bw];intro x hx
 obtain⟨i,hi,rfl⟩:=D_ hx
 have:=h i a_
 rwa [f_,y_ hi] at this
theorem Ke {l:List (List UInt8)}{j:Nat}(hj:j<l.length)(h:fd true (l.getD j [])=false):l.all (fd true)=false:=by
 rw[List.all_eq_false];refine⟨l[j],K_ hj,?_⟩;rw[f_,y_ hj] at h;simpa using h
theorem Kd {L:List (List (List UInt8))}{k:Nat}(hk:L.length<=k)(h:W0 L k):PD L=true:=by
 unfold PD;rw[Bw];intro x hx;obtain⟨i,hi,rfl⟩:=D_ hx;have:=h i a_;rwa [f_,y_ hi] at this
theorem Kc {L:List (List (List UInt8))}{k:Nat}(hk:k<L.length)(h:(L.getD k []).all (fd true)=false):PD L=false:=by
 unfold PD;rw[List.all_eq_false];refine⟨L[k],K_ hk,?_⟩;rw[f_,y_ hk] at h;simpa using h
theorem Fi {l:List (List UInt8)}{j:Nat}(h:XN l j)(k:fd true (l.getD j [])=true):XN l (j+1):=λi hi=>by
 rcases Nat.lt_succ_iff_lt_or_eq.1 hi with h1|rfl
 ·exact h i h1
 ·exact k
theorem Fh {L:List (List (List UInt8))}{j:Nat}(h:W0 L j)(k:(L.getD j []).all (fd true)=true):W0 L (j+1):=λi hi=>by
 rcases Nat.lt_succ_iff_lt_or_eq.1 hi with h1|rfl
 ·exact h i h1
 ·exact k
end
section
attribute [local irreducible] bG au aa az aR ab ad
theorem S4 {a b:Int}:bU a b=decide (a=b):=by rw[w_,fA,n_]
theorem Vl.E_bad {v:Vl}(h:v.t<1\/9<=v.t\/v.only=false):v.E= .errno 1:=if_pos h
theorem Vl.E_ok {v:Vl}(h1:1<=v.t)(h2:v.t<9)(h3:v.only=true):v.E=if v.t=2\/v.t=3 then uT v.t v.L
  else if v.t=4 then(gx v.s).b else if v.t=5 then v.st.E else if v.t=6 then mo v.n else if v.t=7 then(dG v.s).b else if fd (decide (v.t=1)) v.s then .none else .errno 3:=by
 unfold Vl.E;rw[if_neg];rintro(h|h|h)
 ·omega
 ·omega
 ·rw[h3] at h;cases h
theorem Vl.E_rest {v:Vl}(h:v.only=true)(h1:1<=v.t)(h2:v.t<9)(a:v.t≠2)(b:v.t≠3)(c:v.t≠4)(d:v.t≠5)(e:v.t≠6)(f:v.t≠7):v.E=if fd (decide (v.t=1)) v.s then .none else .errno 3:=by
 rw[Vl.E_ok h1 h2 h,if_neg a_,if_neg c,if_neg d,if_neg e,if_neg f]
theorem Vl.E_p {v:Vl}(h:v.only=true)(a:v.t=2\/v.t=3):v.E=uT v.t v.L:=by rw[Vl.E_ok a_ a_ h,if_pos a]
theorem Vl.E_4 {v:Vl}(h:v.only=true)(a:v.t=4):v.E=(gx v.s).b:=by rw[Vl.E_ok a_ a_ h,if_neg a_,if_pos a]
theorem Vl.E_5 {v:Vl}(h:v.only=true)(a:v.t=5):v.E=v.st.E:=by rw[Vl.E_ok a_ a_ h,if_neg a_,if_neg a_,if_pos a]
theorem Vl.E_6 {v:Vl}(h:v.only=true)(a:v.t=6):v.E=mo v.n:=by rw[Vl.E_ok a_ a_ h,if_neg a_,if_neg a_,if_neg a_,if_pos a]
theorem Vl.E_7 {v:Vl}(h:v.only=true)(a:v.t=7):v.E=(dG v.s).b:=by rw[Vl.E_ok a_ a_ h,if_neg a_,if_neg a_,if_neg a_,if_neg a_,if_pos a]
theorem Jx {t:Int}{L:List (List (List UInt8))}(h:L.length=0\/(t=2/\L.length≠1)):uT t L= .errno 8:=if_pos h
theorem Jy {t:Int}{L:List (List (List UInt8))}(h:¬(L.length=0\/(t=2/\L.length≠1))):uT t L=if eA L<L.length then .errno 8 else if PD L then .none else .errno 3:=if_neg h
structure Vl.OK (v:Vl):Prop where
 s:v.s.length<=9223372036854775000
 n:v.L.length<=2000000
 r:∀k,(v.L.getD k []).length<=2000000
 l:∀k j,((v.L.getD k []).getD j []).length<=9223372036854775807
attribute [local irreducible] iw fd dm mC Vl.only gx dG Stm.E vK eA PD
theorem uh {G:Glo}{m:Int}(hU:ab G errTy)(hM:ab G (bP m))(v:Vl)(hv:v.OK):ak prog G 113 [v.A] v.E.A:=by
 have h0:=GC (G:=G) v;have h1:=zL (G:=G) v.s (by have:=hv.s;omega);have h2:=vW hU (gx v.s);rw[<-zM (gx v.s)] at h2;have h3:=ll hM v.st;have h4:=qG (G:=G) v.n;have h5:=qV (G:=G) v.s (by have:=hv.s;omega)
 have h6:=vW hU (dG v.s)
 rw[<-zM (dG v.s)] at h6
 have h7:=oh (G:=G) v.s (bU v.t 1) (by have:=hv.s;omega)
 have h8:=λk j=>oh (G:=G) ((v.L.getD k []).getD j []) true (hv.l k j)
 rw[show fd (bU v.t 1) v.s=fd (decide (v.t=1)) v.s by rw[S4]] at h7
 have k1:=λk j (_:(0:Int)<=0)=>h8 k j
 have hn:=hv.n
 have hr:=hv.r
 obtain⟨t,s,L,st,n⟩:=v
 dsimp only at*
 by_cases ht:t<1\/9<=t
 ·rw[Vl.E_bad (v:=⟨t,s,L,st,n⟩) (ht.elim .inl (λh=>.inr (.inl h)))]
  refine ax func113 call113 λC hC hGL=> ?_
  refine xw ?_
  repeat' first|exact .n|apply Lc.mk
  all_goals intros
  all_goals dsimp only at*
  all_goals first|exact aj rfl|(exfalso;omega)
 cases ho:Vl.only ⟨t,s,L,st,n⟩
 ·rw[Vl.E_bad (.inr (.inr ho))]
  rw[ho] at h0
  refine ax func113 call113 λC hC hGL=> ?_
  exact bB
 ·rw[ho] at h0
  refine ax func113 call113 λC hC hGL=> ?_
  refine xw ?_
  repeat' first|exact .n|apply Lc.mk
  all_goals intros
  all_goals dsimp only at*
  all_goals try first
   |(apply aj;rw[Vl.E_4 ho (by assumption)];done)
   |(apply aj;rw[Vl.E_5 ho (by assumption)];done)
   |(apply aj;rw[Vl.E_7 ho (by assumption)];done)
   |(apply aj;rw[Vl.E_6 ho (by assumption)];unfold mo;dsimp only;rw[show vK n=true by assumption];rfl)
   |(apply aj;rw[Vl.E_6 ho (by assumption)];unfold mo;dsimp only;rw[show vK n=false by assumption];rfl)
   |(apply aj;rw[Vl.E_p ho (by first|exact .inl (by assumption)|exact .inr (by assumption)),Jx (by dsimp only;omega)];rfl)
   |(apply aj;rw[Vl.E_rest ho (by assumption) (by assumption) (by assumption) (by assumption) (by assumption) (by assumption) (by assumption) (by assumption)];dsimp only;rw[show fd (decide (t=1)) s=true by assumption];rfl)
   |(apply aj;rw[Vl.E_rest ho (by assumption) (by assumption) (by assumption) (by assumption) (by assumption) (by assumption) (by assumption) (by assumption)];dsimp only;rw[show fd (decide (t=1)) s=false by assumption];rfl)
  all_goals
   rw[Vl.E_p ho (by first|exact .inl (by assumption)|exact .inr (by assumption)),Jy (by dsimp only;omega)]
   dsimp only
   refine lp hC hGL (λk:Nat=>[(1,.rop [.int .i64 t,.str s,.list 1 L.length (gM L),.int .i64 st.y,.int .i64 st.m,.int .i64 st.d,.int .i64 st.h,.int .i64 st.i,.int .i64 st.s,.bool st.z,.int .i64 st.o,.int .i64 n] 0),(45,.list 1 L.length (gM L)),(46,.int .i64 (L.length:Nat)),(47,.int .i64 (k:Nat))]) (λ_=>[]) (λk=>k<=eA L) (λk=>L.length-k) 0 ?_ ah rfl ?_
   ·exact Nat.zero_le _
   intro k hk
   have hnl:=rY L
   refine xw ?_
   repeat' first|exact .n|apply Lc.mk
   all_goals intros
   all_goals try first
    |(apply aj;rw[if_pos (JM a_ hk a_)];rfl)
    |exact cQ (k+1) (EH a_ hk a_) a_ ah rfl
   rw[if_neg a_]
   refine lp hC hGL (λk:Nat=>[(57,.list 1 L.length (gM L)),(58,.int .i64 (L.length:Nat)),(59,.int .i64 (k:Nat))]) (λ_=>[]) (λk=>k<=L.length/\W0 L k) (λk=>L.length-k) 0 ?_ ah rfl ?_
   ·exact⟨Nat.zero_le _,λi hi=>absurd hi (Uf _)⟩
   rintro i ⟨hi,hK⟩
   refine xw ?_
   repeat' first|exact .n|apply Lc.mk
   all_goals intros
   all_goals try (apply aj;rw[Kd a_ hK];rfl)
   ·refine lp hC hGL (λj:Nat=>[(57,.list 1 L.length (gM L)),(58,.int .i64 (L.length:Nat)),(59,.int .i64 (i:Nat)),(63,.list 1 (L.getD i []).length (aB (L.getD i []))),(64,.int .i64 ((L.getD i []).length:Nat)),(65,.int .i64 (j:Nat))]) (λ_=>[]) (λj=>j<=(L.getD i []).length/\XN (L.getD i []) j) (λj=>(L.getD i []).length-j) 0 ?_ ah rfl ?_
    ·exact⟨Nat.zero_le _,λi hi=>absurd hi (Uf _)⟩
    rintro j ⟨hj,hJ⟩
    have hri:=hr i
    refine xw ?_
    repeat' first|exact .n|apply Lc.mk
    all_goals intros
    all_goals first
     |(apply aj;rw[Kc (k:=i) a_ (Ke (j:=j) a_ (by assumption))];rfl)
     |exact cQ (j+1) ⟨a_,Fi hJ (by assumption)⟩ a_ ah rfl
     |exact cQ (i+1) ⟨a_,Fh hK (Kg a_ hJ)⟩ a_ ah rfl
end
section
attribute [local irreducible] bG au aa az aR ab ad
theorem SB {P:Program}[Tab P]{C:Ctx}{n:Nat}{env:Env}{H:Heap}{Q:aM->Env->Heap->Prop}{c:Code}(k:Lp P C n c env [] Q):Lp P C n c env H Q:=
 EU (λR _ _ hm hf=>⟨R,Seal.le_refl R,hm.drop (Ug _),hf⟩) k
theorem OH {v:Vl}{z:Bool}(hz:mC v.st=z):v.only=true↔(v.s.length=0\/v.t=1\/v.t=4\/v.t=7\/v.t=8)/\(v.L.length=0\/v.t=2\/v.t=3)/\((if z then 0 else 1:Int)=0\/v.t=5)/\(v.n=0\/v.t=6):=by
 unfold Vl.only
 rw[hz,n_];cases z<;>simp
theorem Vl.E_out {v:Vl}(h:v.t<1\/9<=v.t):v.E= .errno 1:=Vl.E_bad (h.elim .inl (λk=>.inr (.inl k)))
theorem Vl.E_no {v:Vl}(h:¬v.only=true):v.E= .errno 1:=Vl.E_bad (.inr (.inr (by simpa using h)))
attribute [local irreducible] iw fd dm mC Vl.only gx dG Stm.e vK eA PD
theorem oE {G:Glo}{m:Int}(hU:ab G utfTy)(hM:ab G (bP m))(v:Vl)(hv:v.OK)(hl:v.s.length<=10000)(h3:ak prog G 147 [v.st.A] (.int .i64 v.st.e)):ak prog G 84 [v.A] (.int .i64 v.E.e):=by
 have h1:=rR (G:=G) v.s a_;have h4:=jR (G:=G) v.n;have h5:=mr hM v.s hl;have h7:=pK hU v.s true a_;have h8:=pK hU v.s false a_;have k1:=λk j (_:(0:Int)<=0)=>pK hU ((v.L.getD k []).getD j []) true (hv.l k j);have hW:=fF (G:=G) v.t 1 8;have hz:=vN v.st;have hz0:zG [bU 0 0,bU 0 0,bU 0 0,bU 0 0,bU 0 0,bU 0 0,false==false,bU 0 0]=true:=by rw[vN ⟨0,0,0,0,0,0,false,0⟩];unfold mC;rfl
 have hn:=hv.n;have hr:=hv.r;by_cases ht:v.t<1\/9<=v.t
 ·rw[show(decide (1<=v.t)&&decide (v.t<=8))=false by rw[<-W_,l_,n_,n_];omega] at hW;rw[Vl.E_out ht];refine ax func84 call84 λC hC hGL=> ?_;exact bB
 rw[show(decide (1<=v.t)&&decide (v.t<=8))=true by rw[l_,n_,n_];omega] at hW;have hO:=OH (v:=v) rfl;cases hq:mC v.st
 all_goals
  rw[hq] at hz hO;simp only[Zc,Zd,Bu,true_or,true_and] at hO;refine ax func84 call84 λC hC hGL=> ?_;refine xw ?_;repeat' first|exact .n|apply Lc.mk
  all_goals intros
  all_goals first
   |(refine aZ hC hGL (sW _ rfl rfl rfl rfl be be be rfl hz) rfl rfl ?_;refine xw ?_)
   |(refine aZ hC hGL (sW _ rfl rfl rfl rfl be be be rfl hz0) rfl rfl ?_;refine xw ?_)
   |skip
  repeat' first|exact .n|apply Lc.mk
  all_goals intros
  all_goals try first
   |(apply aj;rw[Vl.E_no (λk=>by have:=hO.1 k;omega)];rfl)
   |(apply aj;rw[Vl.E_4 (hO.2 a_) (by assumption),Err.b_e];done)
   |(apply aj;rw[Vl.E_5 (hO.2 a_) (by assumption),Stm.E_e];done)
   |(apply aj;rw[Vl.E_7 (hO.2 a_) (by assumption),Err.b_e];done)
   |(apply aj;rw[Vl.E_6 (hO.2 a_) (by assumption)];unfold mo;rw[show vK v.n=true by assumption];rfl)
   |(apply aj;rw[Vl.E_6 (hO.2 a_) (by assumption)];unfold mo;rw[show vK v.n=false by assumption];rfl)
   |(apply aj;rw[Vl.E_p (hO.2 a_) a_,Jx a_];rfl)
   | (apply aj;rw[Vl.E_rest (hO.2 a_) a_ a_ a_ a_ a_ a_ a_ a_];first
     |(rw[show decide (v.t=1)=true from decide_eq_true a_,show fd true v.s=true by assumption];rfl)
     |(rw[show decide (v.t=1)=true from decide_eq_true a_,show fd true v.s=false by assumption];rfl)
     |(rw[show decide (v.t=1)=false from decide_eq_false a_,show fd false v.s=true by assumption];rfl)
     |(rw[show decide (v.t=1)=false from decide_eq_false a_,show fd false v.s=false by assumption];rfl))
  all_goals
   rw[Vl.E_p (hO.2 a_) a_,Jy a_];refine SB ?_;refine lp hC hGL (λx:Nat×Bool=>[(4,.bool x.2),(71,.list 1 v.L.length (gM v.L)),(72,.int .i64 (v.L.length:Nat)),(73,.int .i64 (x.1:Nat))]) (λ_=>[]) (λx=>x.1<=eA v.L/\(x.2=false->W0 v.L x.1)/\(x.2=true->PD v.L=false)) (λx=>v.L.length-x.1) (0,false) ?_ ah rfl ?_
   ·exact⟨Nat.zero_le _,λ_ i hi=>absurd hi (Uf _),λh=>by cases h⟩
   rintro⟨k,b⟩ ⟨hk,hb1,hb2⟩;dsimp only at hk hb1 hb2;have hnl:=rY v.L;refine xw ?_;repeat' first|exact .n|apply Lc.mk
   all_goals intros
   all_goals try dsimp only at*
   all_goals try first
    |(apply aj;rw[if_pos (JM (k:=k) a_ hk a_)];rfl)
    |(apply aj;rw[if_neg a_,hb2 (by assumption)];rfl)
    |(apply aj;rw[if_neg a_,Kd a_ (hb1 (by assumption))];rfl)
   refine lp hC hGL (λx:Nat×Bool=>[(4,.bool x.2),(71,.list 1 v.L.length (gM v.L)),(72,.int .i64 (v.L.length:Nat)),(73,.int .i64 (k:Nat)),(80,.list 1 (v.L.getD k []).length (aB (v.L.getD k []))),(81,.int .i64 ((v.L.getD k []).length:Nat)),(82,.int .i64 (x.1:Nat))]) (λ_=>[]) (λx=>x.1<=(v.L.getD k []).length/\(x.2=false->W0 v.L k/\XN (v.L.getD k []) x.1)/\(x.2=true->PD v.L=false)) (λx=>(v.L.getD k []).length-x.1) (0,b) ?_ ah rfl ?_
   ·exact⟨Nat.zero_le _,λh=>⟨hb1 h,λi hi=>absurd hi (Uf _)⟩,hb2⟩
   rintro⟨j,c⟩ ⟨hj,hc1,hc2⟩;dsimp only at hj hc1 hc2;have hrk:=hr k;refine xw ?_;repeat' first|exact .n|apply Lc.mk
   all_goals intros
   all_goals try dsimp only at*
   all_goals first
    |(refine cQ (k+1,c) ⟨EH a_ hk a_,λh=>Fh (hc1 h).1 (Kg a_ (hc1 h).2),hc2⟩ (by dsimp only;omega) ah rfl)
    |(refine cQ (j+1,true) ⟨by dsimp only;omega,λh=>Bool.noConfusion h,λ_=>hc2 (by assumption)⟩ (by dsimp only;omega) ah rfl)
    |(refine cQ (j+1, !(fd true ((v.L.getD k []).getD j []))) ⟨by dsimp only;omega,λh=>⟨(hc1 (by assumption)).1,Fi (hc1 (by assumption)).2 (by simpa using h)⟩,λh=>Kc (k:=k) a_ (Ke (j:=j) a_ (by simpa using h))⟩ (by dsimp only;omega) ah rfl)
end
section
attribute [local irreducible] bG au aa az aR ab ad
theorem Vl.E_none {v:Vl}(h:v.E= .none):v.only=true/\1<=v.t/\v.t<9:=by
 by_cases h1:v.t<1\/9<=v.t\/v.only=false
 ·rw[Vl.E_bad h1] at h;cases h
 ·refine⟨?_,a_,a_⟩;cases ho:v.only
  ·exact absurd (.inr (.inr ho)) h1
  ·rfl
theorem Vl.T_ok {v:Vl}(h:v.E= .none):v.T=if v.t=1 then escS v.s else if v.t=2\/v.t=3 then iq v.L else if v.t=5 then v.st.T else if v.t=6 then ko v.n else v.s:=by
 unfold Vl.T;rw[h]
theorem Vl.T_no {v:Vl}(h:v.E≠ .none):v.T=[]:=by
 unfold Vl.T;split
 ·rename_i k;exact absurd k h
 ·rfl
theorem E8 {t:Int}{L:List (List (List UInt8))}(h:uT t L= .none):jf L= .none:=by
 unfold uT at h;unfold jf;split at h
 ·cases h
 ·split at h
  ·cases h
  ·rename_i h1 h2;rw[if_neg (λk=>h1 (.inl (by rw[k];rfl))),if_neg h2]
theorem Vl.right {v:Vl}(h:v.E= .none):(v.t=2\/v.t=3->jf v.L= .none)/\(v.t=5->v.st.E= .none)/\(v.t=6->mo v.n= .none):=by
 obtain⟨ho,_,_⟩:=Vl.E_none h;refine⟨λk=> ?_,λk=> ?_,λk=> ?_⟩
 ·rw[Vl.E_p ho k] at h;exact E8 h
 ·rwa [Vl.E_5 ho k] at h
 ·rwa [Vl.E_6 ho k] at h
theorem T_1 {v:Vl}(h:v.E= .none)(k:v.t=1):v.T=escS v.s:=by rw[Vl.T_ok h,if_pos k]
theorem T_2 {v:Vl}(h:v.E= .none)(k:v.t=2\/v.t=3):v.T=iq v.L:=by rw[Vl.T_ok h,if_neg a_,if_pos k]
theorem T_5 {v:Vl}(h:v.E= .none)(k:v.t=5):v.T=v.st.T:=by rw[Vl.T_ok h,if_neg a_,if_neg a_,if_pos k]
theorem T_6 {v:Vl}(h:v.E= .none)(k:v.t=6):v.T=ko v.n:=by rw[Vl.T_ok h,if_neg a_,if_neg a_,if_neg a_,if_pos k]
theorem T_s {v:Vl}(h:v.E= .none)(a:v.t≠1)(b:v.t≠2)(c:v.t≠3)(d:v.t≠5)(e:v.t≠6):v.T=v.s:=by rw[Vl.T_ok h,if_neg a,if_neg a_,if_neg d,if_neg e]
attribute [local irreducible] Vl.E Vl.T iq jf ko mo Stm.T Stm.E Stm.e escS escF
theorem Dh {G:Glo}(v:Vl)(hR:ak prog G 113 [v.A] v.E.A)(hE:ak prog G 207 [.str v.s] (.str (escS v.s)))
  (hJ:ak prog G 208 [.list 1 v.L.length (gM v.L)] (.tuple [.str (iq v.L),(jf v.L).A])) (hP:ak prog G 209 [v.st.A] (.tuple [.str v.st.T,v.st.E.A])):
  ak prog G 167 [v.A] (.tuple [.str v.T,v.E.A]):=by
 have hZ:=vL (G:=G) v.n;rcases hq:v.E with _|e|⟨e,p⟩
 ·obtain⟨r1,r2,r3⟩:=Vl.right hq
  have t1:=T_1 hq
  have t2:=T_2 hq
  have t5:=T_5 hq
  have t6:=T_6 hq
  have ts:=T_s hq
  rw[hq] at hR
  refine ax func167 call167 λC hC hGL=> ?_
  refine xw ?_
  repeat' first|exact .n|apply Lc.mk
  all_goals intros
  all_goals first
   |(apply aj;rw[t1 (by assumption)]<;>rfl)
   |(apply aj;rw[t2 a_,r1 a_]<;>rfl)
   |(apply aj;rw[t5 (by assumption),r2 (by assumption)]<;>rfl)
   |(apply aj;rw[t6 (by assumption),r3 (by assumption)]<;>rfl)
   |(apply aj;rw[ts (by assumption) (by assumption) (by assumption) (by assumption) (by assumption)]<;>rfl)
 ·rw[Vl.T_no (by rw[hq];exact λk=>by cases k)]
  rw[hq] at hR
  refine ax func167 call167 λC hC hGL=> ?_
  exact bB
 ·rw[Vl.T_no (by rw[hq];exact λk=>by cases k)]
  rw[hq] at hR
  refine ax func167 call167 λC hC hGL=> ?_
  exact bB
theorem wM {G:Glo}(v:Vl)(hR:ak prog G 84 [v.A] (.int .i64 v.E.e))(hE:ak prog G 190 [.str v.s] (.str (escS v.s)))
  (hJ:ak prog G 191 [.list 1 v.L.length (gM v.L)] (.tuple [.str (iq v.L),.agg [.int .i64 (jf v.L).e,.int .i64 (jf v.L).p]])) (hP:ak prog G 192 [v.st.A] (.tuple [.str v.st.T,.int .i64 v.st.e]))
  (h0:v.E.e=0->v.E= .none):ak prog G 148 [v.A] (.tuple [.str v.T,.int .i64 v.E.e]):=by
 have hZ:=qt (G:=G) v.n;by_cases hq:v.E= .none
 ·obtain⟨r1,r2,r3⟩:=Vl.right hq;have t1:=T_1 hq;have t2:=T_2 hq;have t5:=T_5 hq;have t6:=T_6 hq;have ts:=T_s hq;have r4:v.t=5->v.st.e=0:=λk=>by rw[<-Stm.E_e,r2 k];rfl
  rw[hq] at hR ⊢;have hR:ak prog G 84 [v.A] (.int .i64 0):=hR;have e0:(Err.none).e=0:=rfl;rw[e0];refine ax func148 call148 λC hC hGL=> ?_;refine xw ?_;repeat' first|exact .n|apply Lc.mk
  all_goals intros
  all_goals first
   |(apply aj;rw[t1 (by assumption)]<;>rfl)
   |(apply aj;rw[t2 a_]<;>rfl)
   |(apply aj;rw[t5 (by assumption),r4 (by assumption)]<;>rfl)
   |(apply aj;rw[t6 (by assumption),r3 (by assumption)]<;>rfl)
   |(apply aj;rw[ts (by assumption) (by assumption) (by assumption) (by assumption) (by assumption)]<;>rfl)
 ·have hne:v.E.e≠0:=λk=>hq (h0 k);rw[Vl.T_no hq];refine ax func148 call148 λC hC hGL=> ?_;exact bB
end
section
attribute [local irreducible] bG au aa az aR ab ad
theorem Vn (t:Int)(L:List (List (List UInt8))):(uT t L).p= -1:=by unfold uT;(repeat' split)<;>rfl
theorem Vl.E_at (v:Vl):v.E.p= -1:=by
 unfold Vl.E
 (repeat' split)
 ·rfl
 ·exact Vn _ _
 ·exact Err.b_p _
 ·exact Stm.E_p _
 ·unfold mo;split<;>rfl
 ·exact Err.b_p _
 ·rfl
 ·rfl
theorem UJ (s:List UInt8)(h:(gx s).e=0):gx s= .none:=by
 unfold gx at h ⊢
 (repeat' split at h)<;>first|(exfalso;revert h;simp[Err.e];done)|(rename_i h1 h2 h3;rw[if_neg h1,if_neg h2,if_neg h3])
theorem JZ:∀(l:List (List UInt8)) (b:Bool) (a:Nat),(fa b a l).e=0->fa b a l= .none
 |[],_,_,_=>rfl
 |x::xs,b,a,h=>by
  rw[qW] at h ⊢;split at h
  ·rename_i k;rw[if_pos k];exact JZ xs _ _ h
  ·rename_i k;exfalso;revert h k
   unfold eC
   (repeat' split)<;>simp[Err.e,Err.isNone]
theorem Err.b_none {x:Err}(h:x.e=0->x= .none)(k:x.b.e=0):x.b= .none:=by
 rw[Err.b_e] at k;rw[h k];rfl
theorem Vl.E_zero (v:Vl)(h:v.E.e=0):v.E= .none:=by
 revert h
 unfold Vl.E
 (repeat' split)
 ·intro h;cases h
 ·unfold uT;(repeat' split)<;>intro h<;>first|rfl|cases h
 ·exact Err.b_none (UJ _)
 ·unfold Stm.E;(repeat' split)<;>intro h<;>first|rfl|cases h
 ·unfold mo;(repeat' split)<;>intro h<;>first|rfl|cases h
 ·exact Err.b_none (JZ _ _ _)
 ·intro _;rfl
 ·intro h;cases h
attribute [local irreducible] Vl.E Vl.T fd
end
section
def Cr (f:Nat->Int):Nat->Int
 |0=>0
 |n+1=>if Cr f n=0 then f n else Cr f n
theorem mW {f:Nat->Int}:∀{n:Nat},(∀j,j<n->f j=0)->Cr f n=0
 |0,_=>rfl
 |n+1,h=>by rw[Cr,if_pos (mW λj hj=>h j a_),h n a_]
theorem vu {f:Nat->Int}{k:Nat}:∀{n:Nat},k<n->(∀j,j<k->f j=0)->f k≠0->Cr f n=f k
 |0,h,_,_=>absurd h (Uf _)
 |n+1,h,h1,h2=>by
  rw[Cr]
  rcases YY k n with g|g
  ·rw[vu g h1 h2,if_neg h2]
  ·obtain rfl:k=n:=by omega
   rw[if_pos (mW h1)]
def yg (f:Nat->Int):Nat->Err
 |0=>.none
 |n+1=>match yg f n with
  |.none=>if f n=0 then .none else .at (f n) n
  |e=>e
theorem mX {f:Nat->Int}:∀{n:Nat},(∀j,j<n->f j=0)->yg f n= .none
 |0,_=>rfl
 |n+1,h=>by rw[yg,mX λj hj=>h j a_];simp only[h n a_,Zc]
theorem Cu {f:Nat->Int}{k:Nat}:∀{n:Nat},k<n->(∀j,j<k->f j=0)->f k≠0->yg f n= .at (f k) k
 |0,h,_,_=>absurd h (Uf _)
 |n+1,h,h1,h2=>by
  rw[yg];rcases YY k n with g|g
  ·rw[Cu g h1 h2]
  ·obtain rfl:k=n:=by omega
   rw[mX h1];simp only[h2,Zd]
def L5 (n:List UInt8):Bool:=aY (am 97 122 (-32) n) [66,69,71,73,78]||(aY (am 97 122 (-32) n) [69,78,68]||aY (am 97 122 (-32) n) [86,69,82,83,73,79,78])
def pE (ps:List Pr)(i:Nat):Int:=if(ps.getD i Pr.z).fit=false then 3 else if am 97 122 (-32) (ps.getD i Pr.z).n≠nTYP/\dX (ps.getD i Pr.z).n ps 0<(i:Int) then 9 else 0
def qN (ps:List Pr):Int:=Cr (pE ps) ps.length
theorem PS {s:List UInt8}{l:List Pr}:∀{j:Nat},j<l.length->am 97 122 (-32) (l.getD j Pr.z).n=am 97 122 (-32) s->dX s l 0<=(j:Int):=by
 intro j
 induction j using Nat.strongRecOn with
 |_ j ih=>
  intro hj he;by_cases h:∃i,i<j/\am 97 122 (-32) (l.getD i Pr.z).n=am 97 122 (-32) s
  ·obtain⟨i,hi,h⟩:=h;have:=ih i hi a_ h;omega
  ·rw[o0 0 hj (λi hi e=>h ⟨i,hi,e⟩) he]
   omega
theorem AV {l:List Pr}{i:Nat}(hi:i<l.length):dX (l.getD i Pr.z).n l 0<(i:Int)↔∃j,j<i/\am 97 122 (-32) (l.getD j Pr.z).n=am 97 122 (-32) (l.getD i Pr.z).n:=by
 constructor
 ·intro h;apply Classical.byContradiction;intro hn;rw[o0 0 hi (λj hj e=>hn ⟨j,hj,e⟩) rfl] at h;omega
 ·rintro⟨j,hj,h⟩;have:=PS (s:=(l.getD i Pr.z).n) (l:=l) (j:=j) a_ h;omega
theorem Xt {ps:List Pr}{i:Nat}(h:(ps.getD i Pr.z).fit=false):pE ps i=3:=by unfold pE;rw[if_pos h]
theorem Xs {ps:List Pr}{i:Nat}(h:(ps.getD i Pr.z).fit=true)(h1:am 97 122 (-32) (ps.getD i Pr.z).n≠nTYP)(h2:dX (ps.getD i Pr.z).n ps 0<(i:Int)):pE ps i=9:=by unfold pE;rw[if_neg (by rw[h];decide),if_pos ⟨h1,h2⟩]
theorem Vt {ps:List Pr}{i:Nat}(h:(ps.getD i Pr.z).fit=true)(h1:¬(am 97 122 (-32) (ps.getD i Pr.z).n≠nTYP/\dX (ps.getD i Pr.z).n ps 0<(i:Int))):pE ps i=0:=by unfold pE;rw[if_neg (by rw[h];decide),if_neg h1]
theorem lZ {ps:List Pr}{k:Nat}(hk:k<ps.length)(h:∀j,j<k->pE ps j=0)(h1:pE ps k≠0):qN ps=pE ps k:=vu hk h h1
theorem Oz {ps:List Pr}{k:Nat}(hk:ps.length<=k)(h:∀j,j<k->pE ps j=0):qN ps=0:=mW λj hj=>h j a_
def Itm.k (v:Int)(x:Itm):Int:=jv v x.1.n x.1.ps
def Itm.ln (x:Itm):Ln:=⟨x.1.g,x.1.n,x.1.ps,x.2.T⟩
def Itm.L (v:Int)(x:Itm):List UInt8:=x.ln.T (bU v 4)
def Itm.r (v:Int)(x:Itm):Int:=if x.2.t=3/\0<(cz v x.1.n).p/\(cz v x.1.n).p≠(x.2.L.length:Int) then 2 else if 1500<(x.L v).length then 4 else 0
def Itm.w (v:Int)(x:Itm):Int:=match x.p.E (bU v 4) with
 |.none=>if L5 x.1.n=true then 5 else if qN x.1.ps≠0 then qN x.1.ps else if x.k v≠x.2.t then 1 else match x.2.E with
  |.none=>x.r v
  |e=>e.e
 |e=>e.e
theorem UF {v:Int}{x:Itm}(h:x.p.E (bU v 4)≠ .none):x.w v=(x.p.E (bU v 4)).e:=by
 unfold Itm.w;split
 ·rename_i k;exact absurd k h
 ·rfl
theorem Xd {v:Int}{x:Itm}(h:x.p.E (bU v 4)= .none)(h1:L5 x.1.n=true):x.w v=5:=by
 unfold Itm.w;rw[h];simp only[h1,Zc]
theorem TT {v:Int}{x:Itm}(h:x.p.E (bU v 4)= .none)(h1:L5 x.1.n=false)(h2:qN x.1.ps≠0):x.w v=qN x.1.ps:=by
 unfold Itm.w;rw[h];simp only[h1,Bu,Zd,if_pos h2]
theorem TU {v:Int}{x:Itm}(h:x.p.E (bU v 4)= .none)(h1:L5 x.1.n=false)(h2:qN x.1.ps=0)(h3:x.k v≠x.2.t):x.w v=1:=by
 unfold Itm.w;rw[h];simp only[h1,Bu,Zd,h2,Za,Zb,if_pos h3]
theorem TS {v:Int}{x:Itm}(h:x.p.E (bU v 4)= .none)(h1:L5 x.1.n=false)(h2:qN x.1.ps=0)(h3:x.k v=x.2.t)(h4:x.2.E≠ .none):x.w v=x.2.E.e:=by
 unfold Itm.w;rw[h];simp only[h1,Bu,Zd,h2,h3,Za,Zb]
theorem w_r {v:Int}{x:Itm}(h:x.p.E (bU v 4)= .none)(h1:L5 x.1.n=false)(h2:qN x.1.ps=0)(h3:x.k v=x.2.t)(h4:x.2.E= .none):x.w v=x.r v:=by
 unfold Itm.w;rw[h];simp only[h1,Bu,Zd,h2,h3,h4,Za,Zb]
theorem Ln.E_v {c:Bool}{p:Ln}{v:List UInt8}(h:Ln.E c ⟨p.g,p.n,p.ps,[]⟩= .none)(hv:fd false v=true):Ln.E c ⟨p.g,p.n,p.ps,v⟩= .none:=by
 unfold Ln.E at h ⊢;dsimp only at h ⊢;split at h
 ·cases h
 ·rename_i h1;rw[if_neg h1];split at h
  ·cases h
  ·rename_i h2;rw[if_neg h2];split at h
   ·rename_i h3;simp only[hv,Zc]
   ·rename_i h3;exact absurd h h3
theorem PQ {c:Bool}:∀{l:List Pr} {i:Nat},(lF c l i).e=0->lF c l i= .none
 |[],_,_=>rfl
 |q::l,i,h=>by
  simp only[lF] at h ⊢;split at h
  ·rename_i g;rw[if_pos g];exact PQ h
  ·rename_i g;exact absurd h g
theorem XH {c:Bool}{p:Ln}(h:(p.E c).e=0):p.E c= .none:=by
 unfold Ln.E at h ⊢;split
 ·rename_i g;rw[if_pos g] at h;cases h
 ·rename_i g;rw[if_neg g] at h;split
  ·rename_i g2;rw[if_pos g2] at h;cases h
  ·rename_i g2;rw[if_neg g2] at h;have h0:=PQ (c:=c) (l:=p.ps) (i:=0);cases hf:lF c p.ps 0 with
   |none=>
    rw[hf] at h;dsimp only at h ⊢;split
    ·rfl
    ·rename_i g3;rw[if_neg g3] at h;cases h
   |errno e=>rw[hf] at h h0;exact absurd (h0 h) (λk=>by cases k)
   | «at» e q=>rw[hf] at h h0;exact absurd (h0 h) (λk=>by cases k)
theorem Yo {v:Int}{x:Itm}(h:x.w v=0):x.p.E (bU v 4)= .none:=by
 unfold Itm.w at h;split at h
 ·rename_i k;exact k
 ·exact XH h
def jM (l:List Itm)(s:List UInt8)(k:Nat):Nat:=((l.take k).filter λx=>aY (am 97 122 (-32) x.1.n) s).length
theorem A2 (l:List Itm)(s:List UInt8):jM l s 0=0:=rfl
theorem tR {l:List Itm}{s:List UInt8}{k:Nat}(hk:k<l.length):jM l s (k+1)=jM l s k+if aY (am 97 122 (-32) (l.getD k Itm.z).1.n) s then 1 else 0:=by
 unfold jM;rw[x_ hk,List.filter_append,d_,f_,y_ hk,Z_];congr 1
 simp only[List.filter_cons,List.filter_nil];split<;>rfl
theorem sv (l:List Itm)(s:List UInt8)(k:Nat):jM l s k<=k:=by
 unfold jM;refine YX (List.length_filter_le _ _) ?_;rw[i_];omega
def ly (v:Int)(l:List Itm)(i:Nat):Int:=if 0<(cz v (l.getD i Itm.z).1.n).b/\(cz v (l.getD i Itm.z).1.n).b<=(jM l (am 97 122 (-32) (l.getD i Itm.z).1.n) i:Int) then 9 else 0
def JY (v:Int)(l:List Itm)(i:Nat):Int:=if(jM l ((aE v).getD i []) l.length:Int)<(cz v ((aE v).getD i [])).a then 7 else 0
def Crd.E (c:Crd):Err:=if c.v=3\/c.v=4 then
  if 60<c.l.length then .errno 4
  else match yg (λi=>(c.l.getD i Itm.z).w c.v) c.l.length with
   |.none=>match yg (ly c.v c.l) c.l.length with
    |.none=>if Cr (JY c.v c.l) (aE c.v).length=0 then .none else .errno 7
    |e=>e
   |e=>e
 else .errno 1
theorem zO:∀s:List UInt8,am 97 122 (-32) (am 97 122 (-32) s)=am 97 122 (-32) s
 |[]=>rfl
 |c::s=>by
  have ih:=zO s;have hc:UInt8.ofNat (eb 97 122 (-32) (UInt8.ofNat (eb 97 122 (-32) c.toNat).toNat).toNat).toNat=UInt8.ofNat (eb 97 122 (-32) c.toNat).toNat:=by
   have h1:=c.toNat_lt
   rw[<-UInt8.toNat_inj]
   simp only[UInt8.toNat_ofNat']
   unfold eb
   (repeat' split)<;>omega
  unfold am at ih ⊢
  simp only[S_,o_]
  exact⟨hc,ih⟩
theorem R7 (v:Int)(s:List UInt8):cz v (am 97 122 (-32) s)=cz v s:=by unfold cz;rw[zO]
theorem Fz {s:List UInt8}:∀l:List (List UInt8×Rl),(∀x∈l,0<=x.2.p)->0<=(gr s l).p
 |[],_=>by show(0:Int)<=0;decide
 |x::t,h=>by
  unfold gr;split
  ·exact h x (z_ ..)
  ·exact Fz t λy hy=>h y (List.mem_cons_of_mem _ hy)
theorem Vf (v:Int)(s:List UInt8):0<=(cz v s).p:=by
 unfold cz;split
 ·rename_i h;refine Fz _ λx hx=> ?_;have:∀w:Int,(w=3\/w=4)->(da w).all (λx=>decide (0<=x.2.p))=true:=by
   rintro w (rfl|rfl)<;>decide
  exact of_decide_eq_true (List.all_eq_true.1 (this v h) x hx)
 ·decide
theorem OS {v:Int}{n:List UInt8}(h:n∈aE v):am 97 122 (-32) n=n/\n.length<=20:=by
 unfold aE at h;split at h
 ·rename_i hv;have:∀w:Int,(w=3\/w=4)->((da w).map (·.1)).all (λn=>decide (am 97 122 (-32) n=n/\n.length<=20))=true:=by
   rintro w (rfl|rfl)<;>decide
  exact of_decide_eq_true (List.all_eq_true.1 (this v hv) n h)
 ·cases h
theorem Ao (v:Int):(aE v).length<=100:=by
 unfold aE;split
 ·rename_i hv;have:∀w:Int,(w=3\/w=4)->((da w).map (·.1)).length<=100:=by
   rintro w (rfl|rfl)<;>decide
  exact this v hv
 ·exact Nat.zero_le _
theorem EJ {v:Int}{i:Nat}(h:i<(aE v).length):am 97 122 (-32) ((aE v).getD i [])=(aE v).getD i []/\((aE v).getD i []).length<=20:=by
 rw[f_,y_ h];exact OS (K_ h)
def Crd.ok (c:Crd):Prop:=c.l.length<=1000000/\∀x∈c.l,Itm.OK 10000 x
theorem Crd.fine.ok {c:Crd}(h:c.fine):c.ok:=⟨by have:=h.1;omega,λx hx=>(h.2 x hx).mono b_⟩
theorem Itm.fit {x:Itm}(h:x.OK 10000):x.ln.Fit:=⟨h.p.g,h.p.n,Vl.T_len (by have:=h.s;omega) h.L,h.p.ps,h.p.q⟩
theorem Itm.OK.v {x:Itm}(h:x.OK 10000):x.2.OK:=⟨by have:=h.s;omega,h.L.n,λk=>(h.L.k k).1,λk j=>by have:=(h.L.k k).2;have:=ii (l:=x.2.L.getD k []) (k:=j);omega⟩
end
section
abbrev rn (s:List UInt8):List UInt8:=am 97 122 (-32) s
abbrev ml:List UInt8:=[66,69,71,73,78,58,86,67,65,82,68]
abbrev cpV3:List UInt8:=[86,69,82,83,73,79,78,58,51,46,48]
abbrev cpV4:List UInt8:=[86,69,82,83,73,79,78,58,52,46,48]
abbrev pb:List UInt8:=[69,78,68,58,86,67,65,82,68]
def LineS.z:LineS:=⟨[],0,[]⟩
abbrev cO (L:List LineS)(i:Nat):LineS:=L.getD i ⟨[],0,[]⟩
def n9 (t:List UInt8):Int:=if aY (rn t) cpV3 then 3 else if aY (rn t) cpV4 then 4 else 0
def WZ (v:Int)(L:List LineS):Nat->Err
 |0=>.none
 |n+1=>match WZ v L n with
  |.none=>iR v (cO L (n+2))
  |e=>e
def kZ (v:Int)(L:List LineS)(n:Nat):List Itm:=(List.range n).map λi=>pg v (cO L (i+2))
theorem sc {v:Int}{L:List LineS}:∀{n:Nat},(∀j,j<n->iR v (cO L (j+2))= .none)->WZ v L n= .none
 |0,_=>rfl
 |n+1,h=>by rw[WZ,sc λj hj=>h j a_];exact h n a_
theorem Pp {v:Int}{L:List LineS}{k:Nat}:∀{n:Nat},k<n->(∀j,j<k->iR v (cO L (j+2))= .none)->iR v (cO L (k+2))≠ .none->WZ v L n=iR v (cO L (k+2))
 |0,h,_,_=>absurd h (Uf _)
 |n+1,h,h1,h2=>by
  rw[WZ]
  rcases YY k n with g|g
  ·rw[Pp g h1 h2]
   split
   ·rename_i h3;exact absurd h3 h2
   ·rfl
  ·obtain rfl:k=n:=by omega
   rw[sc h1]
theorem Fa (v:Int)(L:List LineS)(n:Nat):kZ v L (n+1)=kZ v L n++[pg v (cO L (n+2))]:=by
 unfold kZ;rw[List.range_succ,Nm];rfl
theorem jg (v:Int)(L:List LineS)(n:Nat):(kZ v L n).length=n:=by unfold kZ;rw[C_,List.length_range]
def Mv (L:List LineS):Err->Err
 |.none=>.none
 |.errno e=>.errno e
 |.at e p=>.at e (cO L (p.toNat+2)).a
def FU (L:List LineS):Crd:=⟨n9 (cO L 1).t,kZ (n9 (cO L 1).t) L (L.length-3)⟩
def jl (L:List LineS)(e:Nat):Err:=
 if L.length<3 then .at 7 e
 else if aY (rn (cO L 0).t) ml=false then .at 3 (cO L 0).a
 else if n9 (cO L 1).t=0 then .at 3 (cO L 1).a
 else match WZ (n9 (cO L 1).t) L (L.length-3) with
  |.none=>if aY (rn (cO L (L.length-1)).t) pb=false then .at 3 (cO L (L.length-1)).a else Mv L (FU L).E
  |x=>x
def pf (L:List LineS)(e:Nat):Crd:=match jl L e with
 |.none=>FU L
 |_=>⟨0,[]⟩
theorem KB {L:List LineS}{e:Nat}(h:L.length<3):jl L e= .at 7 e:=if_pos h
theorem Uv {L:List LineS}{e:Nat}(h:¬L.length<3)(h1:aY (rn (cO L 0).t) ml=false):jl L e= .at 3 (cO L 0).a:=by unfold jl;rw[if_neg h,if_pos h1]
theorem Ur {L:List LineS}{e:Nat}(h:¬L.length<3)(h1:aY (rn (cO L 0).t) ml=true)(h2:n9 (cO L 1).t=0):jl L e= .at 3 (cO L 1).a:=by unfold jl;rw[if_neg h,if_neg (by rw[h1];decide),if_pos h2]
theorem Ut {L:List LineS}{e k:Nat}(h:¬L.length<3)(h1:aY (rn (cO L 0).t) ml=true)(h2:n9 (cO L 1).t≠0)(hk:k<L.length-3)(h3:∀j,j<k->iR (n9 (cO L 1).t) (cO L (j+2))= .none)(h4:iR (n9 (cO L 1).t) (cO L (k+2))≠ .none):jl L e=iR (n9 (cO L 1).t) (cO L (k+2)):=by
 unfold jl;rw[if_neg h,if_neg (by rw[h1];decide),if_neg h2,Pp hk h3 h4];split
 ·rename_i h5;exact absurd h5 h4
 ·rfl
theorem Uu {L:List LineS}{e:Nat}(h:¬L.length<3)(h1:aY (rn (cO L 0).t) ml=true)(h2:n9 (cO L 1).t≠0)(h3:∀j,j<L.length-3->iR (n9 (cO L 1).t) (cO L (j+2))= .none)(h4:aY (rn (cO L (L.length-1)).t) pb=false):jl L e= .at 3 (cO L (L.length-1)).a:=by
 unfold jl;rw[if_neg h,if_neg (by rw[h1];decide),if_neg h2,sc h3];dsimp only
 rw[if_pos h4]
theorem Us {L:List LineS}{e:Nat}(h:¬L.length<3)(h1:aY (rn (cO L 0).t) ml=true)(h2:n9 (cO L 1).t≠0)(h3:∀j,j<L.length-3->iR (n9 (cO L 1).t) (cO L (j+2))= .none)(h4:aY (rn (cO L (L.length-1)).t) pb=true):jl L e=Mv L (FU L).E:=by
 unfold jl;rw[if_neg h,if_neg (by rw[h1];decide),if_neg h2,sc h3];dsimp only
 rw[if_neg (by rw[h4];decide)]
theorem vB {L:List LineS}{e:Nat}(h:jl L e≠ .none):pf L e=⟨0,[]⟩:=by
 unfold pf;split
 ·rename_i k;exact absurd k h
 ·rfl
theorem KC {L:List LineS}{e:Nat}(h:jl L e= .none):pf L e=FU L:=by unfold pf;rw[h]
theorem Nl {t:List UInt8}(h:n9 t≠0):n9 t=3\/n9 t=4:=by
 unfold n9 at h ⊢;split
 ·exact .inl rfl
 ·rename_i h1
  rw[if_neg h1] at h
  split
  ·exact .inr rfl
  ·rename_i h2
   rw[if_neg h2] at h
   exact absurd rfl h
end
section
attribute [local irreducible] bG au aa az aR ab ad
theorem zC {G:Glo}{b:Nat}{p v:Value}:ad prog G 199 [.raw (db b)] [cj b p 1 v,fx oc []] (λr H=>r= .ret (.tuple [])/\H=[cj b (.pointer none) 1 oc,fx oc []]):=by
 have key:ad prog G 199 [.raw (db b)] [cj b p 1 v,fx oc []] (λr H=>r= .ret (.tuple [])/\H=[.cells b (some 129) [.raw (.pointer none),.raw oc],fx oc []]):=by
  have hGL:ab G []:=al;refine si 0 func199 call199 rfl rfl rfl rfl hGL rfl ?_;intro C hC;repeat' (first|(conv=>whnf);first|refine .w ?_|refine .v ?_|refine eh ?_ ?_<;>(intro hb;try exact dd hb)|apply aT|apply bM|(apply cR<;>intro hb)|(apply cX;intro hbd)|(apply cY;intro bl)|(apply dv;intro va vk vc hva)|(apply du;intro v)|(apply dw;intro bl cap hcap)|apply dI|(apply dq<;>intro hnx)|apply d8 mixed hC hGL be|(show Rt _ _ _;exact cP)|fail)
  all_goals try conv=>whnf
 refine vw (λ_=>Iff.rfl) (λ_ _ _ h=>h) key ?_;rintro r H' ⟨rfl,rfl⟩;refine⟨_,⟨rfl,rfl⟩,λC R w h=> ?_⟩;have h0:=h.heap.holds _ z_;refine h.swap (i:=0) rfl rfl ?_;obtain⟨Cs,el,fz,hW,hr,hl⟩:=h0;obtain⟨u1,t1,e1,k1,u2,t2,e2,k2,e3⟩:=hr;exact⟨Cs,el,fz,hW,⟨u1,t1,e1,k1,u2,t2,e2,jU k2,e3⟩,hl⟩
end
section
theorem Jk (a:List UInt8):∀T:List Tk,(jP a T).1.length<=T.length/\(jP a T).2.1.length<=T.length/\(jP a T).2.2.length<=T.length:=by
 refine gR ⟨Nat.le_refl _,Nat.le_refl _,Nat.le_refl _⟩ λT t ih=> ?_;rw[lr];cases t with
 |one b=>
  unfold lV;by_cases hb:b∈a
  ·simp only[hb,Zc,d_,Rf,E_];omega
  ·simp only[hb,Zd,d_,Rf];omega
 |two d=>
  unfold lV;simp only[d_,Rf];omega
theorem xX (c:UInt8):∀(l:List UInt8) (k:Nat),(0<=kh (c.toNat:Int) l k/\c∈l)\/(kh (c.toNat:Int) l k<0/\c∉l)
 |[],k=>.inr ⟨by simp[kh],by simp⟩
 |x::t,k=>by
  unfold kh;by_cases h:(x.toNat:Int)=c.toNat
  ·have:x=c:=UInt8.toNat_inj.1 a_;rw[if_pos h];exact .inl ⟨a_,by simp[this]⟩
  ·have hne:c≠x:=λe=>h (by rw[e]);rw[if_neg h];rcases xX c t (k+1) with⟨h1,h2⟩|⟨h1,h2⟩
   ·exact .inl ⟨h1,List.mem_cons_of_mem _ h2⟩
   ·exact .inr ⟨h1,λh3=>(List.mem_cons.1 h3).elim hne h2⟩
theorem SO {a:List UInt8}{c:UInt8}(h:0<=aS a (c.toNat:Int)):c∈a:=by
 rcases xX c a 0 with⟨_,h2⟩|⟨h1,_⟩
 ·exact h2
 ·unfold aS at h;omega
theorem Py {a:List UInt8}{c:UInt8}(h:aS a (c.toNat:Int)<0):c∉a:=by
 rcases xX c a 0 with⟨h1,_⟩|⟨_,h2⟩
 ·unfold aS at h;omega
 ·exact h2
theorem NZ (a:List UInt8):jP a []=([],[],[]):=rfl
theorem UX {a:List UInt8}{T:List Tk}{c:UInt8}(h:c∈a):jP a (T++[.one c])=((jP a T).1++[(jP a T).2.1],[],(jP a T).2.2++[c]):=by rw[lr];simp[lV,h]
theorem RV {a:List UInt8}{T:List Tk}{c:UInt8}(h:c∉a):jP a (T++[.one c])=((jP a T).1,(jP a T).2.1++[c],(jP a T).2.2):=by rw[lr];simp[lV,h]
theorem rE {a:List UInt8}{T:List Tk}{d:UInt8}:jP a (T++[.two d])=((jP a T).1,(jP a T).2.1++[yj d],(jP a T).2.2):=by rw[lr];rfl
def Gq (a s:List UInt8):List (List UInt8):=match a7 s 0 with
 |.none=>(jP a (bV s)).1++[(jP a (bV s)).2.1]
 |_=>[]
def Gr (a s:List UInt8):List UInt8:=match a7 s 0 with
 |.none=>(jP a (bV s)).2.2
 |_=>[]
theorem xg {a s:List UInt8}(h:a7 s 0= .none):Gq a s=(jP a (bV s)).1++[(jP a (bV s)).2.1]:=by unfold Gq;rw[h]
theorem Ht {a s:List UInt8}(h:a7 s 0= .none):Gr a s=(jP a (bV s)).2.2:=by unfold Gr;rw[h]
theorem Ox {a s:List UInt8}{e p:Int}(h:a7 s 0= .at e p):Gq a s=[]:=by unfold Gq;rw[h]
theorem Vs {a s:List UInt8}{e p:Int}(h:a7 s 0= .at e p):Gr a s=[]:=by unfold Gr;rw[h]
def yC (l:List UInt8)(i:Nat):AVal:=.int .u8 ((l.getD i 0).toNat:Int)
theorem Tn (l:List UInt8):∀i,i<l.length->(yC l i).cells=((fY l).drop (i*1)).take 1/\(yC l i).plain=true:=by
 intro i hi
 refine⟨?_,rfl⟩;rw[Nat.mul_one,A_ (by simpa using hi)];simp[yC,AVal.cells,List.getD,hi]
theorem PJ {s:List UInt8}{i:Nat}(h:i<s.length):(aa s i:Int)=(s[i].toNat:Int):=(kP h).1 rfl
theorem rX {s:List UInt8}{i:Nat}(h:i<s.length):UInt8.ofNat ((aa s i:Nat):Int).toNat=s[i]:=by
 have:aa s i=s[i].toNat:=by simp[aa,List.getD,y_ h]
 rw[B_,this,UInt8.ofNat_toNat]
set_option maxHeartbeats 8000000
attribute [local irreducible] bG au az aR ab ad aa a7 bV jP yj aS
theorem uH {G:Glo}(s a:List UInt8)(hl:s.length<=2000000):ad prog G 153 [.str s,.str a] [] (λr H=>
  (∃e p,a7 s 0= .at e p/\r= .ret (.tuple [.raw (.slice none 0 0),.raw (.slice none 0 0),sP e p])/\H=[])\/
  (a7 s 0= .none/\∃vt vc,r= .ret (.tuple [.own 2 vt,.own 3 vc,.raw .nilIface])/\H=[.row vt none 1 (Gq a s).length (bj (Gq a s)),.row vc none 1 (Gr a s).length (fY (Gr a s))])):=by
 have hI:=λ(b:Int) h0 h1=>aL (G:=G) a b h0 h1;refine ax func153 call153 λC hC hGL=> ?_;refine iS ?_;intro bl;intros;refine SC 0 rfl ?_;refine nB 4 1 rfl ?_;refine nB 5 1 rfl ?_;refine lp hC hGL (λ(x:(Nat×List Tk)×(List (List UInt8)×List UInt8×List UInt8)×Value×Value×Value×Value)=>[(0,.str s),(1,.str a),(4,.own 2 x.2.2.2.2.1),(5,.own 3 x.2.2.2.2.2),(7,.own 0 (db bl)),(8,.int .i64 (x.1.1:Nat))]) (λx=>[cj bl x.2.2.1 1 x.2.2.2.1,fx x.2.2.2.1 x.2.1.2.1,.row x.2.2.2.2.1 none 1 x.2.1.1.length (bj x.2.1.1),.row x.2.2.2.2.2 none 1 x.2.1.2.2.length (fY x.2.1.2.2)]) (λx=>yN s x.1.1 x.1.2/\x.1.2.length<=x.1.1/\yO bl x.2.2.1/\jP a x.1.2=x.2.1) (λx=>s.length-x.1.1) ((0,[]),([],[],[]),.pointer none,oc,oc,oc) ?_ ah rfl ?_
 ·exact⟨zQ s,Nat.le_refl _,.inl rfl,NZ a⟩
 rintro⟨⟨i,T⟩,⟨tx,cur,cu⟩,p,v,vt,vd⟩ ⟨hT,hlT,hp,hS⟩;dsimp only at hT hlT hp hS;dsimp only
 have hi:=hT.1;have hv:=Jk a T;rw[hS] at hv;dsimp only at hv;by_cases hA:i+1<s.length/\(aa s i:Int)=92
 ·obtain⟨hA1,hA2⟩:=hA;have hok:=OL hA1;refine xw ?_;repeat' first|exact .n|apply Lc.mk
  all_goals intros
  ·have hq:(aa s (i+1):Int)=92:=by assumption
   apply iA (i:=0) (j:=1) rfl rfl b_ (iE hp v cur (aa s (i+1):Int) a_ a_ a_);intro wa wk wc;refine iS ?_;intros;refine cQ ((i+2,T++[.two s[i+1]]),(tx,cur++[UInt8.ofNat ((aa s (i+1):Int):Int).toNat],cu),db bl,.slice wa wk wc,vt,vd) ?_ ?_ ⟨rfl,rfl,rfl,rfl,rfl,rfl,trivial⟩ rfl
   ·exact⟨mH hT hA1 hA2 (by rw[hok];exact decide_eq_true a_),by simp;omega,.inr rfl,by rw[rE,hS,tO hA1 a_,rX hA1]⟩
   ·show s.length-(i+2)<s.length-i;omega
  ·have hq:(aa s (i+1):Int)=44:=by assumption
   apply iA (i:=0) (j:=1) rfl rfl b_ (iE hp v cur (aa s (i+1):Int) a_ a_ a_);intro wa wk wc;refine iS ?_;intros;refine cQ ((i+2,T++[.two s[i+1]]),(tx,cur++[UInt8.ofNat ((aa s (i+1):Int):Int).toNat],cu),db bl,.slice wa wk wc,vt,vd) ?_ ?_ ⟨rfl,rfl,rfl,rfl,rfl,rfl,trivial⟩ rfl
   ·exact⟨mH hT hA1 hA2 (by rw[hok];exact decide_eq_true a_),by simp;omega,.inr rfl,by rw[rE,hS,tO hA1 a_,rX hA1]⟩
   ·show s.length-(i+2)<s.length-i;omega
  ·have hq:(aa s (i+1):Int)=59:=by assumption
   apply iA (i:=0) (j:=1) rfl rfl b_ (iE hp v cur (aa s (i+1):Int) a_ a_ a_);intro wa wk wc;refine iS ?_;intros;refine cQ ((i+2,T++[.two s[i+1]]),(tx,cur++[UInt8.ofNat ((aa s (i+1):Int):Int).toNat],cu),db bl,.slice wa wk wc,vt,vd) ?_ ?_ ⟨rfl,rfl,rfl,rfl,rfl,rfl,trivial⟩ rfl
   ·exact⟨mH hT hA1 hA2 (by rw[hok];exact decide_eq_true a_),by simp;omega,.inr rfl,by rw[rE,hS,tO hA1 a_,rX hA1]⟩
   ·show s.length-(i+2)<s.length-i;omega
  ·have hq:(aa s (i+1):Int)=110:=by assumption
   apply iA (i:=0) (j:=1) rfl rfl b_ (iE hp v cur 10 a_ a_ a_);intro wa wk wc;refine iS ?_;intros;refine cQ ((i+2,T++[.two s[i+1]]),(tx,cur++[UInt8.ofNat (10:Int).toNat],cu),db bl,.slice wa wk wc,vt,vd) ?_ ?_ ⟨rfl,rfl,rfl,rfl,rfl,rfl,trivial⟩ rfl
   ·exact⟨mH hT hA1 hA2 (by rw[hok];exact decide_eq_true a_),by simp;omega,.inr rfl,by rw[rE,hS,Il hA1 a_];rfl⟩
   ·show s.length-(i+2)<s.length-i;omega
  ·have hq:(aa s (i+1):Int)=78:=by assumption
   apply iA (i:=0) (j:=1) rfl rfl b_ (iE hp v cur 10 a_ a_ a_);intro wa wk wc;refine iS ?_;intros;refine cQ ((i+2,T++[.two s[i+1]]),(tx,cur++[UInt8.ofNat (10:Int).toNat],cu),db bl,.slice wa wk wc,vt,vd) ?_ ?_ ⟨rfl,rfl,rfl,rfl,rfl,rfl,trivial⟩ rfl
   ·exact⟨mH hT hA1 hA2 (by rw[hok];exact decide_eq_true a_),by simp;omega,.inr rfl,by rw[rE,hS,Il hA1 a_];rfl⟩
   ·show s.length-(i+2)<s.length-i;omega
  ·have q1:(aa s (i+1):Int)≠92:=by assumption
   have q2:(aa s (i+1):Int)≠44:=by assumption
   have q3:(aa s (i+1):Int)≠59:=by assumption
   have q4:(aa s (i+1):Int)≠110:=by assumption
   have q5:(aa s (i+1):Int)≠78:=by assumption
   have he:=Du hT hA1 hA2 (by rw[hok];exact decide_eq_false a_);exact⟨_,Ug _,.inl ⟨_,_,he,rfl,rfl⟩⟩
 ·have k1:=hI (aa s i:Int) a_ (by have:=bu s i;omega);refine xw ?_;repeat' first|exact .n|apply Lc.mk
  all_goals intros
  ·have he:=zP hT a_ (by assumption);exact⟨_,Ug _,.inl ⟨_,_,he,rfl,rfl⟩⟩
  ·have hlt:i<s.length:=by omega
   have hne:(aa s i:Int)≠92:=by assumption
   have hin:0<=aS a (aa s i:Int):=by assumption
   rw[PJ hlt] at hin;refine Iw (i:=0) (j:=1) rfl rfl b_ (sA cur a_) ?_;refine aK ?_;intros;refine Iw (i:=0) (j:=1) rfl rfl b_ zC ?_;refine iS ?_;intros;refine cQ ((i+1,T++[.one s[i]]),(tx++[cur],[],cu++[s[i]]),.pointer none,oc,_,_) ?_ ?_ ⟨rfl,rfl,rfl,rfl,rfl,rfl,trivial⟩ ?_
   ·exact⟨v7 hT hlt hne,by simp;omega,.inl rfl,by rw[UX (SO hin),hS]⟩
   ·show s.length-(i+1)<s.length-i;omega
   ·dsimp only
    rw[<-ce,d_,d_,show fY (cu++[s[i]])=fY cu++[.int .u8 (aa s i:Int)] by rw[PJ hlt];simp];rfl
  ·have hlt:i<s.length:=by omega
   have hne:(aa s i:Int)≠92:=by assumption
   have hin:aS a (aa s i:Int)<0:=by assumption
   rw[PJ hlt] at hin;apply iA (i:=0) (j:=1) rfl rfl b_ (iE hp v cur (aa s i:Int) a_ a_ a_);intro wa wk wc;refine iS ?_;intros;refine cQ ((i+1,T++[.one s[i]]),(tx,cur++[UInt8.ofNat ((aa s i:Int):Int).toNat],cu),db bl,.slice wa wk wc,vt,vd) ?_ ?_ ⟨rfl,rfl,rfl,rfl,rfl,rfl,trivial⟩ rfl
   ·exact⟨v7 hT hlt hne,by simp;omega,.inr rfl,by rw[RV (Py hin),hS,rX hlt]⟩
   ·show s.length-(i+1)<s.length-i;omega
  ·have hlt:s.length<=i:=by omega
   refine Iw (i:=0) (j:=1) rfl rfl b_ (sA cur a_) ?_;refine aK ?_;intros;obtain⟨he,ht⟩:=Dt hT hlt;refine⟨_,.cons _ (.cons _ (.refl _)),.inr ⟨he,_,_,rfl,?_⟩⟩;rw[xg he,Ht he,ht,hS];dsimp only
   rw[<-ce,d_];rfl
end
section
theorem NA {R R':Seal}{a a' b b' c:AVal}{x:Value}(hle:R.le R')(h:bx R (.tuple [a,b,c]) x)(ha:∀v,bx R a v->bx R' a' v)(hb:∀v,bx R b v->bx R' b' v):bx R' (.tuple [a',b',c]) x:=by
 obtain⟨⟨ws,e,u,t,e1,hu,u2,t2,e2,hu2,u3,t3,e3,hu3,rfl⟩,h2⟩:=h;have k:=ha u ⟨hu.1,hu.2⟩;have k2:=hb u2 ⟨hu2.1,hu2.2⟩;have k3:=fm hle (show bx R c u3 from⟨hu3.1,hu3.2⟩);exact⟨⟨ws,e,_,_,e1,⟨k.1,k.2⟩,_,_,e2,⟨k2.1,k2.2⟩,_,_,e3,⟨k3.1,k3.2⟩,rfl⟩,h2⟩
theorem JL {R:Seal}{sz:Nat}{f:Nat->AVal}{v:Value}(h:bx R (.raw (.slice none 0 0)) v):bx R (.list sz 0 f) v:=by
 rw[ar] at h;subst h;exact⟨⟨none,0,rfl,Nat.le_refl _,.inl rfl⟩,rfl⟩
theorem lU {G:Glo}(s a:List UInt8)(hl:s.length<=2000000):ak prog G 153 [.str s,.str a] (.tuple [.list 1 (Gq a s).length (aB (Gq a s)),.list 1 (Gr a s).length (yC (Gr a s)),(a7 s 0).A]):=by
 refine dA (uH s a hl) ?_;rintro r H (⟨e,p,he,rfl,rfl⟩|⟨he,vt,vc,rfl,rfl⟩)
 ·rintro C R w en hm ⟨x,rfl,hx⟩;rw[Ox he,Vs he,he];exact⟨R,hm,x,rfl,NA (Seal.le_refl R) hx (λv=>JL) (λv=>JL)⟩
 ·rintro C R w en hm ⟨x,rfl,hx⟩;obtain⟨R1,l1,m1,r1⟩:=hm.seal_row (f:=aB (Gq a s)) (gi _);obtain⟨R2,l2,m2,r2⟩:=m1.seal_row (f:=yC (Gr a s)) (Tn _);rw[he];exact⟨R2,m2,x,rfl,NA (Seal.le_trans l1 l2) hx (λv h=>by rw[(aG.1 h).1];exact fm l2 r1) (λv h=>by rw[(aG.1 h).1];exact r2)⟩
theorem tP (s:List UInt8):a7 s 0= .none\/∃e p,a7 s 0= .at e p:=by
 rcases p9 s.length s 0 (Nat.le_refl _) with k|⟨p,k⟩|⟨p,k⟩
 ·exact .inl k
 ·exact .inr ⟨_,_,k⟩
 ·exact .inr ⟨_,_,k⟩
theorem Ow {s:List UInt8}(h:a7 s 0= .none):Gq [] s=[yU s]:=by
 rw[xg h,RW,GG h];rfl
theorem LL (s:List UInt8):Gq [44] s=jr s:=by
 rcases tP s with h|⟨e,p,h⟩
 ·rw[xg h,Ce h,vn,(Jj 44 _).1,(Jj 44 _).2]
 ·rw[Ox h,JR (by rw[h];exact λk=>by cases k)]
set_option maxHeartbeats 8000000
attribute [local irreducible] bG au az aR ab ad aa a7 bV Gq Gr yU jr
theorem yV {G:Glo}(s:List UInt8)(hl:s.length<=2000000):ak prog G 100 [.str s] (.tuple [.str (yU s),(a7 s 0).A]):=by
 have hP:=lU (G:=G) s [] hl;rcases tP s with h|⟨e,p,h⟩
 ·rw[h,Ow h] at hP;rw[h];refine ax func100 call100 λC hC hGL=> ?_;exact bB
 ·rw[h] at hP;rw[h,GH h];refine ax func100 call100 λC hC hGL=> ?_;exact bB
theorem K4 {G:Glo}(s:List UInt8)(hl:s.length<=2000000):ak prog G 101 [.str s] (.tuple [.list 1 (jr s).length (aB (jr s)),(a7 s 0).A]):=by
 have hP:=lU (G:=G) s [44] hl;rw[LL] at hP;refine ax func101 call101 λC hC hGL=> ?_;exact bB
end
section
def Fl (l:List (List UInt8))(cuts:List UInt8)(k:Nat):List (List (List UInt8)):=((cuts.zip l.tail).take k).foldl qm [[l.headD []]]
theorem L3 (l:List (List UInt8))(cuts:List UInt8):Fl l cuts 0=[]++[[l.headD []]]:=rfl
theorem L4 {l:List (List UInt8)}{cuts:List UInt8}(hl:l.length=cuts.length+1){k:Nat}(hk:k<cuts.length):Fl l cuts (k+1)=qm (Fl l cuts k) (cuts.getD k 0,l.getD (k+1) []):=by
 unfold Fl;have h1:k<(cuts.zip l.tail).length:=by rw[List.length_zip,List.length_tail];omega
 rw[x_ h1,List.foldl_append];have e:(cuts.zip l.tail)[k]=(cuts.getD k 0,l.getD (k+1) []):=by
  have h2:k+1<l.length:=by omega
  rw[List.getElem_zip];simp[List.getD,hk,h2]
 rw[e];rfl
theorem PF {l:List (List UInt8)}{cuts:List UInt8}(hl:l.length=cuts.length+1):Fl l cuts cuts.length=Fk l cuts:=by
 unfold Fl Fk;rw[u_ (by rw[List.length_zip];omega)]
theorem Vo {s:List UInt8}(h:a7 s 0= .none):(Gq [44,59] s).length=(Gr [44,59] s).length+1:=by
 rw[xg h,Ht h];have:=(Ji (bV s)).1;simp[this]
theorem Vp {s:List UInt8}(h:a7 s 0= .none):Fk (Gq [44,59] s) (Gr [44,59] s)=j8 s:=by
 rw[xg h,Ht h,Jz h,SR];rfl
theorem Ju:∀T:List Tk,T.length<=(rawT T).length
 |[]=>Nat.le_refl _
 |t::T=>by
  have ih:=Ju T;rw[show rawT (t::T)=t.raw++rawT T from rfl,d_,j_];cases t with
  |one c=>show _<=1+_;omega
  |two d=>show _<=2+_;omega
theorem Vq (a:List UInt8)(s:List UInt8):(Gr a s).length<=s.length:=by
 unfold Gr;split
 ·have h1:=(Jk a (bV s)).2.2;have h2:=Ju (bV s);rename_i he;rw[vh s.length s 0 (Nat.le_refl _) he] at h2;omega
 ·exact Nat.zero_le _
theorem PU {A:List AVal}{x w:AVal}{N:Nat}(hA:A.length=N):(A++[x]).take N++[w]++(A++[x]).drop (N+1)=A++[w]:=by
 subst hA;simp
theorem Rw {C:Ctx}{n:Nat}{e:Env}{I:List (List (List UInt8))}{l:List (List UInt8)}{u:Value}{b cap m:Nat}(hm:m=(I++[l]).length+1):To C n e [.row u none 1 l.length (bj l),.row (.slice (some ⟨b,0,none⟩) m cap) none 1 m (fW I++[.own 0 u]++[.raw (.slice none 0 0)])] e
  [.row oc none 1 0 [],.row (.slice (some ⟨b,0,none⟩) ((I++[l]).length+1) cap) none 1 ((I++[l]).length+1) (fW (I++[l])++[.own 0 oc])]:=by
 subst hm;have hI:(fW I).length=I.length:=by simp[fW]
 have hI2:(fW (I++[l])).length=(I++[l]).length:=by simp[fW]
 refine an (kS (i:=0) (k:=0) (p:=I.length) (aB l) rfl rfl (gi _) (λR hr=>.row (a:=.own 0 u) ?_ λ_=>cE hr)) ?_
 ·rw[An,G_ a_,hI,Nat.sub_self];rfl
 have e1:(fW I++[AVal.own 0 u]++[AVal.raw (.slice none 0 0)]).set I.length (.list 1 l.length (aB l))=fW (I++[l])++[.raw (.slice none 0 0)]:=by
  rw[An,List.set_append_right _ _ a_,hI,Nat.sub_self,<-tj,An];rfl
 rw[e1];refine an (fg 1) (an (Ry (List.Perm.swap _ _ _)) ?_);have e2:(fW (I++[l])++[AVal.raw (.slice none 0 0)]).set (I++[l]).length (.own 0 (.slice none 0 0))=fW (I++[l])++[.own 0 oc]:=by
  rw[List.set_append_right _ _ a_,hI2,Nat.sub_self];rfl
 rw[<-e2];refine jO (i:=1) (p:=(I++[l]).length) (x:=.row (.slice (some ⟨b,0,none⟩) ((I++[l]).length+1) cap) none 1 ((I++[l]).length+1) (fW (I++[l])++[.raw (.slice none 0 0)])) (a':=.own 0 (.slice none 0 0)) rfl (λR=>.row (a:=.raw (.slice none 0 0)) ?_ λ_=>jU);rw[G_ a_,hI2,Nat.sub_self];rfl
set_option maxHeartbeats 8000000
attribute [local irreducible] bG au az aR ab ad aa a7 bV Gq Gr yU jr j8 Fl
theorem wd {G:Glo}(s:List UInt8)(hl:s.length<=2000000)(he:a7 s 0= .none):ad prog G 102 [.str s] [] (λr H=>∃I l u v,I++[l]=j8 s/\r= .ret (.tuple [.own 1 v,.raw .nilIface])/\H=[.row u none 1 l.length (bj l),.row v none 1 (I.length+1) (fW I++[.own 0 u])]):=by
 have hP:=lU (G:=G) s [44,59] hl;rw[he] at hP;have hn:=Vo he;have hg:=Vp he;have hc:=Vq [44,59] s;generalize Gq [44,59] s=L at*
 generalize Gr [44,59] s=cu at*
 refine ax func102 call102 λC hC hGL=> ?_;refine Ra ?_;intro va1 va vk1 vk vc1 vc hva1 hva;intros;obtain⟨bv,rfl,rfl⟩:=hva b_;refine VF hC hGL (λ(x:Nat×List (List (List UInt8))×List (List UInt8)×Nat×Nat×Value)=>[(4,.list 1 L.length (aB L)),(7,.own 1 (.slice (some ⟨x.2.2.2.1,0,none⟩) (x.2.1.length+1) x.2.2.2.2.1)),(25,.list 1 cu.length (yC cu)),(26,.int .i64 (cu.length:Nat)),(27,.int .i64 (x.1:Nat))])
  (λx=>[.row x.2.2.2.2.2 none 1 x.2.2.1.length (bj x.2.2.1),.row (.slice (some ⟨x.2.2.2.1,0,none⟩) (x.2.1.length+1) x.2.2.2.2.1) none 1 (x.2.1.length+1) (fW x.2.1++[.own 0 x.2.2.2.2.2])])
  (λx=>x.1<=cu.length/\x.2.1++[x.2.2.1]=Fl L cu x.1/\x.2.1.length<=x.1/\x.2.2.1.length<=x.1+1) (λx=>cu.length-x.1) (0,[],[L.getD 0 []],bv,vc,.slice va1 vk1 vc1) ?_ ?_ ?_
 ·refine⟨Nat.zero_le _,?_,Nat.le_refl _,Nat.le_refl _⟩;rw[L3];cases L<;>rfl
 ·exact bL ⟨rfl,rfl,rfl,rfl,rfl,trivial⟩ (At _)
 rintro⟨k,I,l,b,cap,u⟩ ⟨g1,g2,g3,g4⟩;dsimp only at g1 g2 g3 g4 ⊢;have hIl:(fW I).length=I.length:=by simp[fW]
 by_cases hk:k<cu.length
 ·have gs:=L4 hn hk;rw[<-g2] at gs;by_cases hc59:cu.getD k 0=59
  ·have hcb:((cu.getD k 0).toNat:Int)=59:=by rw[hc59];rfl
   refine ao ?_;intro va vk vc hva;intros;obtain⟨b2,rfl,rfl⟩:=hva a_;refine eq (e':=[(8,.int .i64 (k:Nat)),(10,.int .i64 ((I++[l]).length:Nat)),(4,.list 1 L.length (aB L)),(7,.own 1 (.slice (some ⟨b2,0,none⟩) ((I++[l]).length+1) vc)),(25,.list 1 cu.length (yC cu)),(26,.int .i64 (cu.length:Nat)),(27,.int .i64 (k:Nat))]) (an (bL (e':=[(8,.int .i64 (k:Nat)),(10,.int .i64 ((I++[l]).length:Nat)),(4,.list 1 L.length (aB L)),(7,.own 1 (.slice (some ⟨b2,0,none⟩) ((I++[l]).length+1) vc)),(25,.list 1 cu.length (yC cu)),(26,.int .i64 (cu.length:Nat)),(27,.int .i64 (k:Nat))]) ⟨rfl,congrArg (λz=>some (AVal.int .i64 z)) (by rw[d_,Rf];omega),rfl,congrArg (λz=>some (AVal.own 1 (.slice (some ⟨b2,0,none⟩) z vc))) (by rw[d_];rfl),rfl,rfl,rfl,trivial⟩ (At _)) (Rw (by rw[d_];rfl))) ?_;have hI2:(fW (I++[l])).length=(I++[l]).length:=by simp[fW]
   have hn2:(I++[l]).length=I.length+1:=by simp
   generalize hI3:I++[l]=I2 at*
   have q2:(fW I2++[AVal.own 0 oc])[I2.length]? =some (.own 0 oc):=by rw[G_ a_,hI2,Nat.sub_self];rfl
   have ra:cd (.slice (some ⟨b2,0,none⟩) (I2.length+1) vc) b2 (I2.length+1):=⟨vc,rfl⟩;have ra2:cd (.slice (some ⟨b2,0,none⟩) (I2.length+1) vc) b2 (I2.length+1)/\I2.length<(I2.length+1)*1:=⟨ra,a_⟩;refine bh mixed hC hGL false (λ(_:Option Addr×Nat×Nat)=>[(4,.list 1 L.length (aB L)),(7,.own 1 (.slice (some ⟨b2,0,none⟩) (I2.length+1) vc)),(25,.list 1 cu.length (yC cu)),(26,.int .i64 (cu.length:Nat)),(27,.int .i64 (k:Nat))]) (λy=>[.row (.slice y.1 y.2.1 y.2.2) none 1 (0+1) ([]++[.str (L.getD (k+1) [])]),.row (.slice (some ⟨b2,0,none⟩) (I2.length+1) vc) none 1 (I2.length+1) ((fW I2++[AVal.own 0 oc]).take I2.length++[.own 0 (.slice y.1 y.2.1 y.2.2)]++(fW I2++[AVal.own 0 oc]).drop (I2.length+1))]) .p19 be xu ?_;rintro⟨ya,yk,yc⟩;dsimp only
   rw[PU hI2];refine ao ?_;intros;refine C9 (k+1,I2,[L.getD (k+1) []],b2,vc,.slice ya yk yc) ⟨hk,?_,by dsimp only;omega,by simp⟩ (show cu.length-(k+1)<cu.length-k by omega) ?_
   ·dsimp only
    rw[gs,show qm I2 (cu.getD k 0,L.getD (k+1) [])=xG (I2++[[]]) (L.getD (k+1) []) by unfold qm;rw[if_pos hc59],nH];rfl
   ·dsimp only
    exact bL ⟨rfl,rfl,rfl,rfl,rfl,trivial⟩ (At _)
  ·have hcb:((cu.getD k 0).toNat:Int)≠59:=λh=>hc59 (UInt8.toNat_inj.1 (by have:(59:UInt8).toNat=59:=rfl;omega));have q2:(fW I++[AVal.own 0 u])[I.length]? =some (.own 0 u):=by rw[G_ a_,hIl,Nat.sub_self];rfl
   have ra:cd (.slice (some ⟨b,0,none⟩) (I.length+1) cap) b (I.length+1):=⟨cap,rfl⟩;have ra2:cd (.slice (some ⟨b,0,none⟩) (I.length+1) cap) b (I.length+1)/\I.length<(I.length+1)*1:=⟨ra,a_⟩;refine ao ?_;intros;refine eq (e':=[(8,.int .i64 (k:Nat)),(10,.int .i64 (I.length:Nat)),(4,.list 1 L.length (aB L)),(7,.own 1 (.slice (some ⟨b,0,none⟩) (I.length+1) cap)),(25,.list 1 cu.length (yC cu)),(26,.int .i64 (cu.length:Nat)),(27,.int .i64 (k:Nat))]) (bL ⟨rfl,congrArg (λz=>some (AVal.int .i64 z)) a_,rfl,rfl,rfl,rfl,rfl,trivial⟩ (At _)) ?_;refine bh mixed hC hGL false (λ(_:Option Addr×Nat×Nat)=>[(4,.list 1 L.length (aB L)),(7,.own 1 (.slice (some ⟨b,0,none⟩) (I.length+1) cap)),(25,.list 1 cu.length (yC cu)),(26,.int .i64 (cu.length:Nat)),(27,.int .i64 (k:Nat))]) (λy=>[.row (.slice y.1 y.2.1 y.2.2) none 1 (l.length+1) (bj l++[.str (L.getD (k+1) [])]),.row (.slice (some ⟨b,0,none⟩) (I.length+1) cap) none 1 (I.length+1) ((fW I++[AVal.own 0 u]).take I.length++[.own 0 (.slice y.1 y.2.1 y.2.2)]++(fW I++[AVal.own 0 u]).drop (I.length+1))]) .p19 be xu ?_;rintro⟨va,vk,vc⟩;dsimp only
   rw[PU hIl];refine ao ?_;intros;refine C9 (k+1,I,l++[L.getD (k+1) []],b,cap,.slice va vk vc) ⟨hk,?_,Nat.le_succ_of_le g3,by simp;omega⟩ (show cu.length-(k+1)<cu.length-k by omega) ?_
   ·dsimp only
    rw[gs,show qm (I++[l]) (cu.getD k 0,L.getD (k+1) [])=xG (I++[l]) (L.getD (k+1) []) by unfold qm;rw[if_neg hc59],nH]
   ·dsimp only
    rw[<-ce,d_];exact bL ⟨rfl,rfl,rfl,rfl,rfl,trivial⟩ (At _)
 ·refine ao ?_;intros;refine⟨_,At _,I,l,u,_,?_,rfl,rfl⟩;rw[g2,show k=cu.length by omega,PF hn,hg]
theorem OX {C:Ctx}{R:Seal}{w:World}{I:List (List (List UInt8))}{l:List (List UInt8)}{v u:Value}(hm:MS C R [.row u none 1 l.length (bj l),.row v none 1 (I.length+1) (fW I++[.own 0 u])] w):∃R',R.le R'/\MS C R' [] w/\bx R' (.list 1 (I++[l]).length (j9 (I++[l]))) v:=by
 have hI:(fW I).length=I.length:=by simp[fW]
 obtain⟨R1,l1,m1,r1⟩:=MS.seal_row (f:=aB l) hm (gi _);have hc:lP R1 I.length (.list 1 l.length (aB l)) (.row v none 1 (I.length+1) (fW I++[.own 0 u])) _:=.row (a:=.own 0 u) (by rw[G_ a_,hI,Nat.sub_self];rfl) λ_=>cE r1;obtain⟨h1,h2⟩:=hc.holds (m1.heap.holds _ (z_ ..));have m2:=m1.setEnt (i:=0) rfl h2 h1;have e1:(fW I++[AVal.own 0 u]).set I.length (.list 1 l.length (aB l))=fW (I++[l]):=by
  rw[List.set_append_right _ _ a_,hI,Nat.sub_self,<-tj];rfl
 rw[e1] at m2;have e2:I.length+1=(I++[l]).length:=by simp
 rw[e2] at m2;obtain⟨R2,l2,m3,r2⟩:=MS.seal_row (f:=j9 (I++[l])) m2 (JB _);exact⟨R2,Seal.le_trans l1 l2,m3,r2⟩
theorem UN {R R':Seal}{a a' b:AVal}{x:Value}(hle:R.le R')(h:bx R (.tuple [a,b]) x)(ht:∀v,bx R a v->bx R' a' v):bx R' (.tuple [a',b]) x:=by
 obtain⟨⟨ws,e,u,t,e1,hu,u2,t2,e2,hu2,rfl⟩,h2⟩:=h;have k:=ht u ⟨hu.1,hu.2⟩;have k2:=fm hle (show bx R b u2 from⟨hu2.1,hu2.2⟩);exact⟨⟨ws,e,_,_,e1,⟨k.1,k.2⟩,_,_,e2,⟨k2.1,k2.2⟩,rfl⟩,h2⟩
theorem GQ {G:Glo}(s:List UInt8)(hl:s.length<=2000000):ak prog G 102 [.str s] (.tuple [.list 1 (j8 s).length (j9 (j8 s)),(a7 s 0).A]):=by
 rcases tP s with h|⟨e,p,h⟩
 ·rw[h];refine dA (wd s hl h) ?_;rintro r H ⟨I,l,u,v,hg,rfl,rfl⟩;rintro C R w en hm ⟨x,rfl,hx⟩;obtain⟨R',hle,m2,hr⟩:=OX hm;rw[hg] at hr;exact⟨R',m2,x,rfl,UN hle hx λv2 h=>by rw[(aG.1 h).1];exact hr⟩
 ·have hP:=lU (G:=G) s [44,59] hl;rw[h] at hP;rw[h,JA (by rw[h];exact λk=>by cases k)];refine dA (H:=[]) (Qf:=λr H=>r= .ret (.tuple [.raw (.slice none 0 0),(Err.at e p).A])/\H=[]) ?_ (λr H h=>by obtain⟨rfl,rfl⟩:=h;exact BO);refine ax func102 call102 λC hC hGL=> ?_;exact bB
end
section
attribute [local irreducible] bG au aa az aR ab ad
attribute [local irreducible] escF escS
theorem wQ {G:Glo}(s:List UInt8)(hl:s.length<=2000000):ak prog G 190 [.str s] (.str (escS s)):=by
 refine ax func190 call190 λC hC hGL=> ?_;refine aK ?_;intros;refine lp hC hGL (λi:Nat=>[(0,.str s),(3,.str (escS (s.take i))),(6,.int .i64 (s.length:Nat)),(7,.int .i64 (i:Nat))]) (λ_=>[]) (λi=>i<=s.length) (λi=>s.length-i) 0 (Nat.zero_le _) ⟨rfl,?_,rfl,rfl,trivial⟩ rfl ?_
 ·show some (AVal.str [])=some (AVal.str (escS (s.take 0)));rw[YP,PV]
 ·intro i hi;have e1:=(sl (s.take i)).2;rw[i_,Nat.min_eq_left hi] at e1;by_cases hlt:i<s.length
  ·have et:=Mf hlt;have hb0:=MA hlt;have hby:=bu s i;have hone:(s.take (i+1)).drop i=[s[i]]:=by rw[List.drop_take,show i+1-i=1 by omega,A_ hlt];rfl
   have hlo:((s.take (i+1)).drop i).length=1:=by rw[hone];rfl
   rcases(show(aa s i=92\/aa s i=44\/aa s i=59)\/aa s i=10\/(aa s i≠92/\aa s i≠44/\aa s i≠59/\aa s i≠10) by omega) with hk|hk|⟨k1,k2,k3,k4⟩
   ·have he:escF s[i]=[92]++(s.take (i+1)).drop i:=by
     rw[hone];rcases hk with hk|hk|hk
     all_goals rw[(Xi b_).2 (hb0.symm.trans hk)]
     ·exact VZ
     ·exact V1
     ·exact V0
    refine xw ?_;repeat' first|exact .n|apply Lc.mk
    all_goals intros
    all_goals first
     |(refine cQ (i+1) ?_ ?_ ⟨rfl,?_,rfl,rfl,trivial⟩ rfl;exact hlt;(show s.length-(i+1)<s.length-i;omega);(rw[et,he];rfl))
     |skip
   ·have he:escF s[i]=[92,110]:=by rw[(Xi b_).2 (hb0.symm.trans hk)];exact V2
    refine xw ?_;repeat' first|exact .n|apply Lc.mk
    all_goals intros
    all_goals first
     |(refine cQ (i+1) ?_ ?_ ⟨rfl,?_,rfl,rfl,trivial⟩ rfl;exact hlt;(show s.length-(i+1)<s.length-i;omega);(rw[et,he];rfl))
     |skip
   ·have he:escF s[i]=(s.take (i+1)).drop i:=by
     rw[hone];exact FD (by rw[<-hb0];exact k1) (by rw[<-hb0];exact k2) (by rw[<-hb0];exact k3) (by rw[<-hb0];exact k4)
    refine xw ?_;repeat' first|exact .n|apply Lc.mk
    all_goals intros
    all_goals first
     |(refine cQ (i+1) ?_ ?_ ⟨rfl,?_,rfl,rfl,trivial⟩ rfl;exact hlt;(show s.length-(i+1)<s.length-i;omega);(rw[et,he];rfl))
     |skip
  ·have h9:escS (s.take i)=escS s:=by rw[u_ a_]
   refine aK ?_;intros;apply aj;rw[h9]
end
section
theorem lm:∀(n:Nat) (s:List UInt8),s.length<=n->(bV s).length<=s.length
 |_,[],_=>Nat.le_refl _
 |0,c::r,hn=>by simp at hn
 |n+1,c::r,hn=>by
  have hn:r.length<=n:=by simpa using hn
  by_cases hc:c=92
  ·subst hc;cases r with
   |nil=>simp[bV]
   |cons d r=>
    by_cases hd:okE d=true
    ·rw[om hd];have:=lm n r (by simp at hn;omega);simp only[j_];omega
    ·simp[bV,hd]
  ·rw[on hc];have:=lm n r hn;simp only[j_];omega
theorem RN (c:UInt8):∀T:List Tk,(∀T'∈(i6 c T).1,T'.length<=T.length)/\(i6 c T).2.length<=T.length/\(i6 c T).1.length<=T.length:=by
 refine gR ⟨λ_ h=>by simp[i6] at h,Nat.le_refl _,Nat.le_refl _⟩ λT t ih=> ?_;obtain⟨h1,h2,h3⟩:=ih;rw[iZ,d_,Rf];have h1':∀T'∈(i6 c T).1,T'.length<=T.length+1:=λT' h=>Nat.le_succ_of_le (h1 T' h);cases t with
 |one b=>
  unfold jx;by_cases hb:b=c
  ·simp only[hb,Zc,d_,Rf,E_];refine⟨λT' h=> ?_,a_,a_⟩;rcases List.mem_append.1 h with h|h
   ·exact h1' T' h
   ·rw[List.mem_singleton.1 h];omega
  ·simp only[hb,Zd,d_,Rf];exact⟨h1',a_,a_⟩
 |two d=>
  unfold jx;simp only[d_,Rf];exact⟨h1',a_,a_⟩
theorem wj (c:UInt8)(T:List Tk):(ox c T).length<=T.length+1/\∀T'∈ox c T,T'.length<=T.length:=by
 obtain⟨h1,h2,h3⟩:=RN c T;refine⟨by simp[ox];exact h3,λT' h=> ?_⟩;rcases List.mem_append.1 h with h|h
 ·exact h1 T' h
 ·rw[List.mem_singleton.1 h];exact h2
theorem ES (T:List Tk):(lstT T).length<=T.length+1:=by
 unfold lstT;rw[C_];exact(wj 44 T).1
theorem Pc (s:List UInt8):(jr s).length<=s.length+1:=by
 unfold jr;split
 ·have h1:=ES (bV s);have h2:=lm s.length s (Nat.le_refl _);omega
 ·exact Nat.zero_le _
theorem Ou (s:List UInt8):(j8 s).length<=s.length+1/\∀l∈j8 s,l.length<=s.length+1:=by
 have h2:=lm s.length s (Nat.le_refl _);obtain⟨h3,h4⟩:=wj 59 (bV s);unfold j8;split
 ·unfold qf;rw[C_];refine⟨a_,λl hl=> ?_⟩;obtain⟨T',hT,rfl⟩:=List.mem_map.1 hl;have h5:=ES T';have h6:=h4 T' hT;omega
 ·exact⟨Nat.zero_le _,λl h=>by cases h⟩
set_option maxHeartbeats 8000000
attribute [local irreducible] bG au az aR ab ad aa a7 bV yU jr j8 escF escS
end
section
theorem RM (c:UInt8):∀T:List Tk,((i6 c T).1.map List.length).sum+(i6 c T).2.length<=T.length:=by
 refine gR (Nat.le_refl _) λT t ih=> ?_;rw[iZ,d_,Rf];cases t with
 |one b=>
  unfold jx;by_cases hb:b=c
  ·simp only[hb,Zc,Nm,List.sum_append,S_,YN,List.sum_cons,List.sum_nil,E_];omega
  ·simp only[hb,Zd,d_,Rf];omega
 |two d=>
  unfold jx;simp only[d_,Rf];omega
theorem Ph (l:List (List UInt8)):Lib.lens l=(l.map List.length).sum:=by
 induction l with
 |nil=>rfl
 |cons x l ih=>
  have e1:Lib.lens (x::l)=x.length+Lib.lens l:=by simp[Lib.lens]
  rw[e1,ih,S_,List.sum_cons]
theorem Ax (T:List Tk):Lib.lens (lstT T)<=T.length:=by
 have h:=RM 44 T;have e:(iT:List Tk->List UInt8)=λT=>T.map Tk.val:=rfl;rw[Ph,vn,Nm,List.sum_append,List.map_map];have e2:(List.length∘iT:List Tk->Nat)=List.length:=by funext T;simp[iT]
 rw[e2];simp only[S_,YN,List.sum_cons,List.sum_nil,iT,C_];omega
theorem Rs (s:List UInt8):(yU s).length<=s.length:=by
 unfold yU;split
 ·have:=lm s.length s (Nat.le_refl _);rw[C_];exact this
 ·exact Nat.zero_le _
theorem Lb {s:List UInt8}(hs:s.length<=1900000):Small [jr s]:=by
 refine⟨by simp,λk=> ?_⟩;cases k with
 |zero=>
  refine⟨by have:=Pc s;show(jr s).length<=_;omega,?_⟩;show Lib.lens (jr s)<=_;unfold jr;split
  ·have h1:=Ax (bV s);have h2:=lm s.length s (Nat.le_refl _);omega
  ·exact Nat.zero_le _
 |succ k=>
  simp[Lib.lens]
theorem La {s:List UInt8}(hs:s.length<=1900000):Small (j8 s):=by
 obtain⟨h1,h2⟩:=Ou s;refine⟨a_,λk=> ?_⟩;by_cases hk:k<(j8 s).length
 ·rw[f_,y_ hk,Z_];have hm:=K_ hk;refine⟨by have:=h2 _ hm;omega,?_⟩;generalize (j8 s)[k]=l at*
  unfold j8 at hm;split at hm
  ·unfold qf at hm;obtain⟨T,hT,rfl⟩:=List.mem_map.1 hm;have h3:=Ax T;have h4:=(wj 59 (bV s)).2 T hT;have h5:=lm s.length s (Nat.le_refl _);omega
  ·cases hm
 ·rw[f_,P_ a_,Option.getD_none];exact⟨Nat.zero_le _,Nat.zero_le _⟩
theorem jC:Small []:=⟨Nat.zero_le _,λk=>by rw[List.getD_nil];exact⟨Nat.zero_le _,Nat.zero_le _⟩⟩
theorem Nc {s:List UInt8}(hs:s.length<=10000)(k:Int):(nc s k).1.s.length<=s.length/\Small (nc s k).1.L:=by
 have hG:(nV s k).1.s.length<=s.length/\Small (nV s k).1.L:=by
  have hu:=Rs s;unfold nV
  (repeat' split)<;>first
   |exact⟨by show(yU s).length<=_;omega,jC⟩
   |exact⟨Nat.zero_le _,Lb a_⟩
   |exact⟨Nat.zero_le _,La a_⟩
   |exact⟨by show s.length<=_;omega,jC⟩
   |exact⟨Nat.zero_le _,jC⟩
 unfold nc;split
 ·exact⟨Nat.zero_le _,jC⟩
 split
 ·exact⟨Nat.zero_le _,jC⟩
 split
 ·exact hG
 ·exact⟨Nat.zero_le _,jC⟩
end
section
abbrev mm (b a:Nat):HEnt:=.cells b (some 3) [.int .i64 (a:Nat)]
abbrev kO (b:Nat)(s:List UInt8):HEnt:=.cells b (some 9) [.str s]
abbrev oe (b:Nat)(c:Bool):HEnt:=.cells b (some 4) [.bool c]
def ON (s:List UInt8)(a:Nat):Nat:=if a<s.length then aa s a else 0
theorem OM {s:List UInt8}{a:Nat}{c:Int}(h:c≠0):(ON s a:Int)=c↔ez s a c=true:=by
 unfold ON;rw[cG];split<;>omega
theorem Aj {s:List UInt8}{a:Nat}{c:Int}(h:c≠0)(k:ez s a c=true):(ON s a:Int)=c:=(OM h).2 k
theorem Ak {s:List UInt8}{a:Nat}{c:Int}(h:c≠0)(k:ez s a c=false):(ON s a:Int)≠c:=λe=>by rw[(OM h).1 e] at k;cases k
attribute [local irreducible] bG au aa az aR ab ad
attribute [local irreducible] iw fd dm isS cx aU
theorem Ed {G:Glo}(ba bs:Nat)(s:List UInt8)(a:Nat)(hl:s.length<=1000000)(ha:a<=s.length):ad prog G 64 [.raw (pS ba),.raw (pS bs)] [mm ba a,kO bs s]
  (λr H=>r= .ret (.int .u8 (ON s a:Nat))/\H=[mm ba a,kO bs s]):=by
 have hGL:ab G []:=al;refine lE [(0,0,pS ba),(1,1,pS bs)] func64 call64 rfl rfl rfl rfl (by repeat (first|exact trivial|refine And.intro ⟨rfl,rfl⟩ ?_)) ?_;intro C hC;by_cases h:a<s.length
 ·have e:ON s a=aa s a:=if_pos h;rw[e];exact ay hC hGL bB
 ·have e:ON s a=0:=if_neg h;rw[e];exact ay hC hGL bB
theorem Oj {G:Glo}(ba bs:Nat)(s:List UInt8)(a:Nat)(hl:s.length<=1000000)(ha:a<=s.length):ad prog G 65 [.raw (pS ba),.raw (pS bs)] [mm ba a,kO bs s]
  (λr H=>(∃w j,bC s a= .ok (w,j)/\r= .ret (.str w)/\H=[mm ba j,kO bs s])\/(∃e p j,bC s a= .bad e p/\r= .panic (qK e p)/\H=[mm ba j,kO bs s])):=by
 have hI:=λt h=>th (G:=G) t h;have hc:=call66;have hT:=λe p=>pI (G:=G) e p;have hGL:ab G []:=al;refine lE [(0,0,pS ba),(1,1,pS bs)] func65 call65 rfl rfl rfl rfl (by repeat (first|exact trivial|refine And.intro ⟨rfl,rfl⟩ ?_)) ?_;intro C hC;refine ay hC hGL (aK ?_);refine lp hC hGL (λx:Nat=>[(0,.own 0 (pS ba)),(1,.own 1 (pS bs)),(3,.int .i64 (x:Nat))]) (λx=>[mm ba a,kO bs s]) (λx=>a+x<=s.length/\eO aU s (a+x)=eO aU s a) (λx=>s.length-x) 0 ⟨ha,rfl⟩ ah rfl ?_;rintro x ⟨h2,h3⟩;have hlen:((s.take (a+x)).drop a).length<=9223372036854775807:=by rw[k_,i_];omega
 have k2:=hI ((s.take (a+x)).drop a) hlen;have fin:eO aU s a=a+x->(isS ((s.take (a+x)).drop a)=true->bC s a= .ok ((s.take (a+x)).drop a,a+x))/\(isS ((s.take (a+x)).drop a)=false->bC s a= .bad 5 a):=λhsp=>
  ⟨λhw=>by unfold bC;rw[hsp,if_pos hw],λhw=>by unfold bC;rw[hsp,if_neg (by rw[hw];decide)]⟩
 by_cases hx:a+x<s.length
 ·have k1:ak prog G 66 [.str ((s.take (a+x+1)).drop (a+x))] (.bool (aU (aa s (a+x):Int))):=by
   have:=hI ((s.take (a+x+1)).drop (a+x)) (by rw[k_,i_];omega);rwa [xj hx] at this
  cases hk:aU (aa s (a+x):Int) with
  |true=>
   rw[hk] at k1;refine aK ?_;intros;exact cQ (x+1) ⟨a_,(rA hx hk).symm.trans h3⟩ a_ ah rfl
  |false=>
   rw[hk] at k1;have hf:=fin (h3.symm.trans (nl hk));cases hw:isS ((s.take (a+x)).drop a) with
   |true=>
    have hr:=hf.1 hw;rw[hw] at k2;refine aK ?_;intros;exact⟨_,At _,.inl ⟨_,_,hr,rfl,rfl⟩⟩
   |false=>
    have hr:=hf.2 hw;rw[hw] at k2;refine aK ?_;intros;refine bY (hT 5 a) ?_;exact⟨_,At _,.inr ⟨_,_,_,hr,rfl,rfl⟩⟩
 ·have hf:=fin (h3.symm.trans (oz a_));cases hw:isS ((s.take (a+x)).drop a) with
  |true=>
   have hr:=hf.1 hw;rw[hw] at k2;refine aK ?_;intros;exact⟨_,At _,.inl ⟨_,_,hr,rfl,rfl⟩⟩
  |false=>
   have hr:=hf.2 hw;rw[hw] at k2;refine aK ?_;intros;refine bY (hT 5 a) ?_;exact⟨_,At _,.inr ⟨_,_,_,hr,rfl,rfl⟩⟩
end
section
abbrev nxF (i j ba bs:Nat):AVal:=.func (.func 64) [] [.own i (pS ba),.own j (pS bs)]
abbrev rl (b i j ba bs:Nat):HEnt:=.cells b (some 137) [nxF i j ba bs]
theorem Px {a b c d:UInt8}(r:Int):(0<=aS [a,b,c,d] r↔∃x∈[a,b,c,d],r=x.toNat):=by
 unfold aS;simp only[kh,p_,t_,or_false,exists_eq_or_imp,exists_eq_left];split
 ·omega
 ·split
  ·omega
  ·split
   ·omega
   ·split<;>omega
theorem PZ {q:Bool}{c:Int}:zz q c=decide (0<=(if q then aS [34] c else aS [44,59,58,34] c)):=by
 have e0:((34:UInt8).toNat:Int)=34:=by decide
 have e1:0<=aS [34] c↔c=34:=by
  unfold aS;simp only[kh];split<;>omega
 have e2:0<=aS [44,59,58,34] c↔(c=44\/c=59\/c=58\/c=34):=by
  have:=Px (a:=44) (b:=59) (c:=58) (d:=34) c;rw[this];simp
 rw[w_,Io,n_];cases q with
 |true=>rw[if_pos rfl,e1];simp
 |false=>rw[if_neg b_,e2];simp;omega
theorem CE (is:List Nat){P:Program}[Tab P]{G:Glo}{f:FuncId}{avs:List AVal}{H H1:Heap}{K Kp:AVal->Heap->Prop}{v:AVal}(hs:ad P G f avs H1 (λr H=>r= .ret v/\H=H1))(e1:xd is H=H1)(k:K v H):Cx P G f avs H K Kp:=
 CD is hs e1 (by rintro v H1' ⟨e,rfl⟩;cases e;exact⟨H,e1,rfl,k⟩) (by rintro v H1' ⟨e,_⟩;cases e)
attribute [local irreducible] bG au aa az aR ab ad
attribute [local irreducible] iw fd dm isS cx aU
theorem Se {G:Glo}{m:Int}(hM:ab G (bP m))(bf i0 j0 ba bs bc:Nat)(s:List UInt8)(a:Nat)(cr:Bool)(hl:s.length<=1000000)(ha:a<=s.length):
  ad prog G 67 [.raw (pS bf),.raw (pS ba),.raw (pS bs),.raw (pS bc)] [rl bf i0 j0 ba bs,mm ba a,kO bs s,oe bc cr]
  (λr H=>(∃v j,cp cr s a= .ok (v,j)/\r= .ret (.str v)/\H=[rl bf i0 j0 ba bs,mm ba j,kO bs s,oe bc cr])\/(∃e p j,cp cr s a= .bad e p/\r= .panic (qK e p)/\H=[rl bf i0 j0 ba bs,mm ba j,kO bs s,oe bc cr])):=by
 have hX:=λl c h0 h1=>aL (G:=G) l c h0 h1;have hN:=λc=>lY (G:=G) c;have hT:=λe p=>pI (G:=G) e p;have hD:=λt h=>Hn (G:=G) hM t h;have hNx:=Ed (G:=G) ba bs s a hl ha;have hq:=rm s a;have hGL:ab G []:=al;refine lE [(0,0,pS bf),(1,1,pS ba),(2,2,pS bs),(3,3,pS bc)] func67 call67 rfl rfl rfl rfl (by repeat (first|exact trivial|refine And.intro ⟨rfl,rfl⟩ ?_)) ?_;intro C hC;refine cut hC hGL [(0,.own 0 (pS bf)),(1,.own 1 (pS ba)),(2,.own 2 (pS bs)),(3,.own 3 (pS bc))] [rl bf i0 j0 ba bs,mm ba a,kO bs s,oe bc cr] True eK λ_=> ?_;refine cut hC hGL [(0,.own 0 (pS bf)),(1,.own 1 (pS ba)),(2,.own 2 (pS bs)),(3,.own 3 (pS bc)),(5,.str [44,59,58,34])] [rl bf i0 j0 ba bs,mm ba a,kO bs s,oe bc cr] True eK λ_=> ?_
 refine cut hC hGL [(0,.own 0 (pS bf)),(1,.own 1 (pS ba)),(2,.own 2 (pS bs)),(3,.own 3 (pS bc)),(5,.str [44,59,58,34]),(6,.bool (ez s a 34))] [rl bf i0 j0 ba bs,mm ba a,kO bs s,oe bc cr] True ?_ λ_=> ?_
 ·rcases Bool.eq_false_or_eq_true (ez s a 34) with h|h
  ·have e1:=Aj b_ h
   have e2:=(cG.1 h).1
   rw[e1] at hNx
   rw[show ez s a 34=nY (a:Int) (s.length:Int) from h.trans (nX.2 a_).symm]
   refine ao ?_
   refine CE [1,1] hNx rfl ?_
   exact eK
  ·have e1:=Ak b_ h
   rw[h]
   refine ao ?_
   refine CE [1,1] hNx rfl ?_
   exact eK
 refine cut hC hGL [(0,.own 0 (pS bf)),(1,.own 1 (pS ba)),(2,.own 2 (pS bs)),(3,.own 3 (pS bc)),(5,.str (if ez s a 34 then[34] else[44,59,58,34])),(6,.bool (ez s a 34))] [rl bf i0 j0 ba bs,mm ba (gL s a),kO bs s,oe bc cr] True ?_ λ_=> ?_
 ·cases h:ez s a 34 with
  |true=>
   have e2:=(cG.1 h).1
   have e3:gL s a=a+1:=by unfold gL;rw[h,if_pos rfl]
   rw[e3,if_pos rfl]
   exact eK
  |false=>
   have e3:gL s a=a:=by unfold gL;rw[h,if_neg b_]
   rw[e3,if_neg b_]
   exact eK
 refine ay hC hGL (ao ?_)
 intros
 have hlv:(if ez s a 34 then[34] else[44,59,58,34]:List UInt8).length<=4:=by split<;>decide
 have hE:=λc=>PZ (q:=ez s a 34) (c:=c)
 have hEq:∀c,(if ez s a 34 then aS [34] c else aS [44,59,58,34] c)=aS (if ez s a 34 then[34] else[44,59,58,34]) c:=λc=>by split<;>rfl
 simp only[hEq] at hE
 generalize (if ez s a 34 then[34] else[44,59,58,34]:List UInt8)=ends at*
 refine lp hC hGL (λx:Nat=>[(1,.own 1 (pS ba)),(2,.own 2 (pS bs)),(3,.own 3 (pS bc)),(5,.str ends),(6,.bool (ez s a 34)),(7,.int .i64 (gL s a:Nat))]) (λx=>[rl bf i0 j0 ba bs,mm ba x,kO bs s,oe bc cr]) (λx=>gL s a<=x/\x<=s.length/\eO (MY (ez s a 34)) s x=lR s a) (λx=>s.length-x) (gL s a) ⟨Nat.le_refl _,hq.2.2 ha,rfl⟩ ah rfl ?_
 rintro x ⟨h1,h2,h3⟩
 have hlv:((s.take x).drop (gL s a)).length<=1000000:=by rw[k_,i_];omega
 have hd:=hD ((s.take x).drop (gL s a)) hlv
 have fin:∀{v:List UInt8} {j:Nat} {w:AVal} {H:Heap},cp cr s a= .ok (v,j)->w= .str v->H=[rl bf i0 j0 ba bs,mm ba j,kO bs s,oe bc cr]->Rt (λr H=>(∃v j,cp cr s a= .ok (v,j)/\r= .ret (.str v)/\H=[rl bf i0 j0 ba bs,mm ba j,kO bs s,oe bc cr])\/(∃e p j,cp cr s a= .bad e p/\r= .panic (qK e p)/\H=[rl bf i0 j0 ba bs,mm ba j,kO bs s,oe bc cr])) w H:=by
  rintro v j w H h1 rfl rfl
  exact⟨_,At _,.inl ⟨_,_,h1,rfl,rfl⟩⟩
 have bad:∀{e p:Int} {n j:Nat} {H:Heap},cp cr s a= .bad e n->p=n->H=[rl bf i0 j0 ba bs,mm ba j,kO bs s,oe bc cr]->Pn (λr H=>(∃v j,cp cr s a= .ok (v,j)/\r= .ret (.str v)/\H=[rl bf i0 j0 ba bs,mm ba j,kO bs s,oe bc cr])\/(∃e p j,cp cr s a= .bad e p/\r= .panic (qK e p)/\H=[rl bf i0 j0 ba bs,mm ba j,kO bs s,oe bc cr])) (qK e p) H:=by
  rintro e p n j H h1 rfl rfl
  exact⟨_,At _,.inr ⟨_,_,_,h1,rfl,rfl⟩⟩
 by_cases hx:x<s.length
 ·have hb:=bu s x
  have hx1:=hX ends (aa s x:Int) a_ a_
  have hn1:=hN (aa s x:Int)
  have he:=hE (aa s x:Int)
  generalize aS ends (aa s x:Int)=ix at hx1 he
  cases hk:zz (ez s a 34) (aa s x:Int) with
  |false=>
   have hix:ix<0:=by
    rw[hk] at he
    have:=of_decide_eq_false he.symm
    omega
   cases hc:iw false (aa s x:Int) with
   |false=>
    rw[hc] at hn1
    have hgo:MY (ez s a 34) (aa s x:Int)=true:=by unfold MY;rw[hk,hc];rfl
    refine aK ?_
    intros
    exact cQ (x+1) ⟨a_,a_,(rA hx hgo).symm.trans h3⟩ a_ ah rfl
   |true=>
    rw[hc] at hn1
    have hJ:lR s a=x:=h3.symm.trans (nl (by unfold MY;rw[hk,hc];rfl))
    have hv:cp cr s a= .bad 3 x:=by unfold cp;rw[hJ,if_pos ⟨hx,hk⟩]
    refine aK ?_
    intros
    refine bY (hT 3 x) ?_
    exact bad hv rfl rfl
  |true=>
   have hix:0<=ix:=by
    rw[hk] at he
    exact of_decide_eq_true he.symm
   have hJ:lR s a=x:=h3.symm.trans (nl (by unfold MY;rw[hk];rfl))
   cases hqa:ez s a 34 with
   |true=>
    have hv:cp cr s a= .ok (M0 cr ((s.take x).drop (gL s a)),x+1):=by
     unfold cp
     rw[hJ,if_neg (by rw[hk];simp),hqa,if_neg b_,if_pos hx]
    cases cr with
    |true=>
     refine aK ?_
     intros
     exact fin hv rfl rfl
    |false=>
     refine aK ?_
     intros
     exact fin hv rfl rfl
   |false=>
    have hv:cp cr s a= .ok (M0 cr ((s.take x).drop (gL s a)),x):=by
     unfold cp
     rw[hJ,hk,if_neg (by simp),if_pos hqa]
    cases cr with
    |true=>
     refine aK ?_
     intros
     exact fin hv rfl rfl
    |false=>
     refine aK ?_
     intros
     exact fin hv rfl rfl
 ·have hJ:lR s a=x:=h3.symm.trans (oz a_)
  cases hqa:ez s a 34 with
  |true=>
   have hv:cp cr s a= .bad 7 x:=by
    unfold cp
    rw[hJ,hqa,if_neg a_,if_neg b_,if_neg hx]
   refine aK ?_
   intros
   refine bY (hT 7 x) ?_
   exact bad hv rfl rfl
  |false=>
   have hv:cp cr s a= .ok (M0 cr ((s.take x).drop (gL s a)),x):=by
    unfold cp
    rw[hJ,hqa,if_neg a_,if_pos rfl]
   cases cr with
   |true=>
    refine aK ?_
    intros
    exact fin hv rfl rfl
   |false=>
    refine aK ?_
    intros
    exact fin hv rfl rfl
end
section
abbrev kM (b:Nat)(e p:Int):HEnt:=.cells b (some 27) [.int .i64 e,.int .i64 p]
abbrev Ms (b5:Nat):Deferred:={target:=.fn (.func 18) #[],args:=#[pS b5]}
abbrev Is (b4 b5:Nat):Deferred:={target:=.fn (.func 62) #[pS b5,pS b4],args:=#[]}
theorem Pb {P:Program}[Tab P]{G:Glo}{n:Nat}{rs:List ResultVar}{env:Env}{H H':Heap}{D:List Deferred}{m:fD}{Qf:ct->Heap->Prop}(hs:H'.Sublist H)(h:Lv P G n rs env D m H' Qf):Lv P G n rs env D m H Qf:=by
 unfold Lv at*
 intro C R a w fn u D0 hC hrs hm hf hu;exact h C R a w fn u D0 hC hrs (hm.drop hs) hf hu
section
variable {c:Bool} {s:List UInt8} {e:Int} {p:Nat}
theorem vQ {a:Nat}(h:bC s a= .bad e p):e≠0:=by
 unfold bC at h;split at h
 ·cases h
 ·cases h;decide
theorem Rk {a:Nat}(h:cp c s a= .bad e p):e≠0:=by
 unfold cp at h
 (repeat' split at h)<;>(cases h;try decide)
theorem Dk:∀(n:Nat) {a:Nat} {acc:List (List UInt8)},s.length-a<=n->ea c s a acc= .bad e p->e≠0
 |n,a,acc,hn,h=>by
  cases hv:cp c s a with
  |bad e' p'=>rw[gw hv] at h;cases h;exact Rk hv
  |ok x=>
   obtain⟨v,d⟩:=x
   have h1:=iU hv
   cases hb:ez s d 44 with
   |true=>
    have h2:=cG.1 hb
    rw[mE hv hb] at h
    cases n with
    |zero=>omega
    |succ n=>exact Dk n a_ h
   |false=>rw[la hv hb] at h;cases h
theorem Ew:∀(n:Nat) {a:Nat} {acc:List Pr},s.length-a<=n->cD c s a acc= .bad e p->e≠0
 |n,a,acc,hn,h=>by
  cases hq:ez s a 59 with
  |false=>rw[iJ hq] at h;cases h
  |true=>
   have h1:=cG.1 hq;cases hw:bC s (a+1) with
   |bad e' p'=>rw[gm hq hw] at h;cases h;exact vQ hw
   |ok x=>
    obtain⟨w,j⟩:=x;have h2:=de hw;cases hj:ez s j 61 with
    |false=>rw[kb hq hw hj] at h;cases h;decide
    |true=>
     cases hv:ea c s (j+1) [] with
     |bad e' p'=>rw[eR hq hw hj hv] at h;cases h;exact Dk _ (Nat.le_refl _) hv
     |ok x=>
      obtain⟨vs,d⟩:=x;have h3:=jY _ (Nat.le_refl _) hv;by_cases h20:acc.length=20
      ·rw[iI hq hw hj hv h20] at h;cases h;decide
      ·rw[ka hq hw hj hv h20] at h;cases n with
       |zero=>omega
       |succ n=>exact Ew n a_ h
theorem E1 (h:dF c s= .bad e p):e≠0:=by
 unfold dF at h;split at h
 ·cases hh:fy s with
  |bad e' p'=>
   rw[hh] at h;cases h;unfold fy at hh;cases hw:bC s 0 with
   |bad e'' p''=>rw[hw] at hh;cases hh;exact vQ hw
   |ok x=>
    obtain⟨w,j⟩:=x;rw[hw] at hh;dsimp only at hh;split at hh
    ·cases hv:bC s (j+1) with
     |bad e'' p''=>rw[hv] at hh;cases hh;exact vQ hv
     |ok x=>rw[hv] at hh;cases hh
    ·cases hh
  |ok x=>
   obtain⟨⟨g,n⟩,a⟩:=x;rw[hh] at h;dsimp only at h;cases hp:cD c s a [] with
   |bad e' p'=>rw[hp] at h;cases h;exact Ew _ (Nat.le_refl _) hp
   |ok x=>
    obtain⟨ps,b⟩:=x;rw[hp] at h;dsimp only at h;unfold iX at h
    (repeat' split at h)<;>(cases h;try decide)
 ·cases h;decide
end
attribute [local irreducible] bG au aa az aR ab ad
attribute [local irreducible] iw fd dm isS cx aU dE To dP Lv fZ
theorem oF {G:Glo}(b4 b5:Nat)(g n v:List UInt8)(q:AVal)(e p:Int):dP prog G 62 [.own 1 (pS b5),.own 0 (pS b4)] .ret [mB b4 g n q v,kM b5 e p]
  (λr m H=>m= .ret/\r= .ret (.tuple [])/\H=[if e=0 then mB b4 g n q v else mB b4 [] [] kw [],kM b5 e p]):=by
 have hGL:ab G []:=al;have hI:=gA (G:=G) e p;refine vx (rs:=[]) (GL:=[]) func62 rfl rfl rfl rfl hGL ?_;intro C hC;by_cases he:e=0
 ·rw[fA.2 he] at hI;rw[if_pos he];exact bB
 ·rw[lK.2 he] at hI;rw[if_neg he];exact bB
section
variable {G:Glo} {n:Nat} {env:Env} {Qf:ct->Heap->Prop} {b4 b5:Nat} {T:Heap} {q:AVal} {y z:AVal} {e p:Int} {g m v:List UInt8}
theorem JS (h4:Env.get env 4=some (.own 2 (pS b4)))(h5:Env.get env 5=some (.own 3 (pS b5))){H':Heap}(hs:H'.Sublist T)(hq:Qf (.ret (.tuple [.agg [.str g,.str m,q,.str v],.agg [.int .i64 e,.int .i64 p]])) H'):
  Lv prog G n [.cell 4 92,.cell 5 27] env [] .ret (mB b4 g m q v::kM b5 e p::T) Qf:=by
 refine T5 ⟨[.agg [.str g,.str m,q,.str v],.agg [.int .i64 e,.int .i64 p]],H',⟨_,_,rfl,⟨b4,0,_,_,_,.inr ⟨2,h4⟩,rfl,rfl,rfl,.inl ⟨rfl,rfl⟩⟩,_,_,rfl,⟨b5,1,_,_,_,.inr ⟨3,h5⟩,rfl,rfl,rfl,.inl ⟨rfl,rfl⟩⟩,rfl⟩,(hs.cons _).cons _,hq⟩
theorem SA (h4:Env.get env 4=some (.own 2 (pS b4)))(h5:Env.get env 5=some (.own 3 (pS b5)))(he:e≠0)(hq:Qf (.ret (.tuple [.agg [.str [],.str [],kw,.str []],.agg [.int .i64 e,.int .i64 p]])) []):
  Lv prog G n [.cell 4 92,.cell 5 27] env [Is b4 b5] .ret (mB b4 g m q v::kM b5 e p::T) Qf:=by
 have h1:=oF (G:=G) b4 b5 g m v q e p;rw[if_neg he] at h1;refine ig (o8 T h1) (λR=>⟨_,_,rfl,aG.2 ⟨rfl,rfl⟩,_,_,rfl,aG.2 ⟨rfl,rfl⟩,rfl⟩) call62 ?_;exact JS h4 h5 (Ug _) hq
theorem HD {c0 c1:HEnt}(h4:Env.get env 4=some (.own 2 (pS b4)))(h5:Env.get env 5=some (.own 3 (pS b5)))(he:e≠0)(hq:Qf (.ret (.tuple [.agg [.str [],.str [],kw,.str []],.agg [.int .i64 e,.int .i64 p]])) []):
  Lv prog G n [.cell 4 92,.cell 5 27] env [Ms b5,Is b4 b5] (.pan (qK e p)) (c0::c1::mB b4 g m q v:: .cells b5 (some 27) [y,z]::T) Qf:=by
 refine Pb (H':=mB b4 g m q v:: .cells b5 (some 27) [y,z]::T) ((At _).cons _ |>.cons _) ?_;refine ig (Kv (i:=1) rfl (wL b5 e p y z)) (λR=>⟨_,_,rfl,aG.2 ⟨rfl,rfl⟩,rfl⟩) call18 ?_;exact SA h4 h5 he hq
theorem Pd {c0 c1:HEnt}(h4:Env.get env 4=some (.own 2 (pS b4)))(h5:Env.get env 5=some (.own 3 (pS b5))){H':Heap}(hs:H'.Sublist T)(hq:Qf (.ret (.tuple [.agg [.str g,.str m,q,.str v],.agg [.int .i64 0,.int .i64 p]])) H'):
  Lv prog G n [.cell 4 92,.cell 5 27] env [Ms b5,Is b4 b5] .ret (c0::c1::mB b4 g m q v::kM b5 0 p::T) Qf:=by
 refine Pb (H':=mB b4 g m q v::kM b5 0 p::T) ((At _).cons _ |>.cons _) ?_;refine ig (Kv (i:=0) rfl (rQ b5 _)) (λR=>⟨_,_,rfl,aG.2 ⟨rfl,rfl⟩,rfl⟩) call18 ?_;have h1:=oF (G:=G) b4 b5 g m v q 0 p;rw[if_pos rfl] at h1;refine ig (o8 T h1) (λR=>⟨_,_,rfl,aG.2 ⟨rfl,rfl⟩,_,_,rfl,aG.2 ⟨rfl,rfl⟩,rfl⟩) call62 ?_;exact JS h4 h5 hs hq
end
section
variable {G:Glo} {K Kp:AVal->Heap->Prop} {b7 b2 b3 b8:Nat} {s:List UInt8} {a:Nat} {cr:Bool} {c1 c2 c3 c5:HEnt} {T:Heap} {m:Int}
theorem eu (hl:s.length<=1000000)(ha:a<=s.length)(k:K (.int .u8 (ON s a:Nat)) (kO b2 s::c1::c2::c3::mm b7 a::c5::T)):Cx prog G 64 [.raw (pS b7),.raw (pS b2)] (kO b2 s::c1::c2::c3::mm b7 a::c5::T) K Kp:=
 CE [4,0] (Ed b7 b2 s a hl ha) rfl k
theorem yu (hl:s.length<=1000000)(ha:a<=s.length)(k:∀w j,bC s a= .ok (w,j)->K (.str w) (kO b2 s::c1::c2::c3::mm b7 j::c5::T))(k2:∀(e:Int) (p:Nat) j,bC s a= .bad e p->Kp (qK e p) (kO b2 s::c1::c2::c3::mm b7 j::c5::T)):
  Cx prog G 65 [.raw (pS b7),.raw (pS b2)] (kO b2 s::c1::c2::c3::mm b7 a::c5::T) K Kp:=by
 refine CD [4,0] (Oj b7 b2 s a hl ha) rfl ?_ ?_
 ·rintro v H1' (⟨w,j,h1,e,rfl⟩|⟨_,_,_,_,e,_⟩)
  ·cases e;exact⟨kO b2 s::c1::c2::c3::mm b7 j::c5::T,rfl,rfl,k w j h1⟩
  ·cases e
 ·rintro v H1' (⟨_,_,_,e,_⟩|⟨e',p,j,h1,e,rfl⟩)
  ·cases e
  ·cases e
   exact⟨kO b2 s::c1::c2::c3::mm b7 j::c5::T,rfl,rfl,k2 e' p j h1⟩
theorem Kx (hM:ab G (bP m))(hl:s.length<=1000000)(ha:a<=s.length){i0 j0:Nat}(k:∀w j,cp cr s a= .ok (w,j)->K (.str w) (kO b2 s::oe b3 cr::c2::c3::mm b7 j::rl b8 i0 j0 b7 b2::T))(k2:∀(e:Int) (p:Nat) j,cp cr s a= .bad e p->Kp (qK e p) (kO b2 s::oe b3 cr::c2::c3::mm b7 j::rl b8 i0 j0 b7 b2::T)):
  Cx prog G 67 [.raw (pS b8),.raw (pS b7),.raw (pS b2),.raw (pS b3)] (kO b2 s::oe b3 cr::c2::c3::mm b7 a::rl b8 i0 j0 b7 b2::T) K Kp:=by
 refine CD [5,4,0,0] (Se hM b8 i0 j0 b7 b2 b3 s a cr hl ha) rfl ?_ ?_
 ·rintro v H1' (⟨w,j,h1,e,rfl⟩|⟨_,_,_,_,e,_⟩)
  ·cases e;exact⟨kO b2 s::oe b3 cr::c2::c3::mm b7 j::rl b8 i0 j0 b7 b2::T,rfl,rfl,k w j h1⟩
  ·cases e
 ·rintro v H1' (⟨_,_,_,e,_⟩|⟨e',p,j,h1,e,rfl⟩)
  ·cases e
  ·cases e;exact⟨kO b2 s::oe b3 cr::c2::c3::mm b7 j::rl b8 i0 j0 b7 b2::T,rfl,rfl,k2 e' p j h1⟩
end
end
end Go.Proofs.YtnbaflecdkgihaaGreatDoor
