/- Parts of the proof of streamCards_card. -/
import Derived.Laws.StructEq
import Derived.Test.YtgpjhbhdbjdlgaaGreatDoorBam
set_option linter.unusedVariables false
set_option linter.unusedSimpArgs false
set_option linter.unusedSectionVars false
namespace Go.Proofs.YtgpjhbhdbjdlgaaGreatDoor
open Go Go.RowKit
open Tryz
set_option maxRecDepth 20000
set_option maxHeartbeats 4000000
section
def Aj:List Bool->Bool
 |[]=>true
 |b::l=>b&&Aj l
def Bp (P:Program)[Tab P](cs ds:List AVal):List Field->Option (List Bool)
 |[]=>some []
 |f::fs=>match bj P f.type,cs[f.offset]?,ds[f.offset]?,Bp P cs ds fs with
  |some x,some a,some b,some l=>match x.desc,a,b with
   |.int _,.int k m,.int j q=>match Nat.beq (Qj k) (Qj j) with
    |true=>some (bV m q::l)
    |false=>none
   |.string,.str s,.str t=>some (aW s t::l)
   |.bool,.bool s,.bool t=>some ((s==t)::l)
   |_,_,_=>none
  |_,_,_,_=>none
theorem Fa {P:Program}[Tab P]{xs:Array Value}{v:Value}{t:TypeId}{x:TI}{o:Nat}(ht:bj P t=some x)(hd:cv x.desc=false)(hv:xs[o]? =some v)(w:World):(part t xs o).run P w= .ok v w:=by
 simp only[part,e_,dX ht,hd,c_,Bu,aaq,hv,h_]
theorem n9 {P:Program}[Tab P]{R:Seal}{cs ds:List AVal}{xs ys:Array Value}(ha:cb R cs xs.toList)(hb:cb R ds ys.toList)(d:Nat)(w:World):
  ∀(fs:List Field) (l:List Bool),(fs.all fun f=>f.name != "_")=true→Bp P cs ds fs=some l→(Op.eqFields (d+1) xs ys fs).run P w= .ok (Aj l) w
 |[],l,_,h=>by
  simp only[Bp,g_] at h
  subst h
  rfl
 |f::fs,l,hn,h=>by
  simp only[List.all_cons,l_,bne_iff_ne,aan] at hn
  simp only[Bp] at h
  split at h
  ·rename_i x a b l' ht h1 h2 h3
   have ih:=n9 ha hb d w fs l' hn.2 h3
   obtain⟨va,e1,r1⟩:=fy ha h1
   obtain⟨vb,e2,r2⟩:=fy hb h2
   have e1:xs[f.offset]? =some va:=by simpa using e1
   have e2:ys[f.offset]? =some vb:=by simpa using e2
   have fin:∀r:Bool,cv x.desc=false→(Op.equalIn (d+1) f.type va vb).run P w= .ok r w→(Op.eqFields (d+1) xs ys (f::fs)).run P w= .ok (Aj (r::l')) w:=by
    intro r hd hr
    simp only[Op.eqFields,aan,hn.1,not_false_eq_true,aap,e_,Fa ht hd e1,Fa ht hd e2,c_,hr]
    cases r
    ·rfl
    ·exact ih
   split at h
   ·rename_i q1 k m j q hd
    split at h
    ·rename_i hk
     cases h
     obtain rfl:=yl hk
     obtain rfl:=ap.1 (cT r1 rfl)
     obtain rfl:=ap.1 (cT r2 rfl)
     refine fin _ (by rw[hd];rfl) ?_
     rw[run_equalIn_int w d f.type _ _ _ _ (by rw[bR ht,hd])]
     unfold bV
     rfl
    ·cases h
   ·rename_i s t hd
    cases h
    obtain rfl:=aD.1 (cT r1 rfl)
    obtain rfl:=aD.1 (cT r2 rfl)
    refine fin _ (by rw[hd];rfl) ?_
    rw[run_equalIn_string w d f.type _ _ (by rw[bR ht,hd])]
    rw[ByteArray.toList_eq,ByteArray.toList_eq]
    unfold aW
    simp
   ·rename_i s t hd
    cases h
    obtain rfl:=aO.1 (cT r1 rfl)
    obtain rfl:=aO.1 (cT r2 rfl)
    exact fin _ (by rw[hd];rfl) (run_equalIn_bool' w d f.type _ _ (by rw[bR ht,hd]))
   ·cases h
  ·cases h
section
variable {P:Program} [Tab P] {C:Ctx} {env:Env} {H:Heap} {x y:Operand} {T ty:TypeId}
theorem DL {R:Seal}{cs:List AVal}{v:Value}(h:bn R (.agg cs) v):∃vs,v= .agg vs/\cb R cs vs.toList:=by
 obtain⟨h1,h2⟩:=h;cases v<;>first|exact⟨_,rfl,h1⟩|(simp[AVal.isAgg,dc] at h2)
theorem O4 {cs ds:List AVal}{fs:Array Field}{l:List Bool}{xT:TI}(b:Bool)(hx:ah env x=some (.agg cs))(hy:ah env y=some (.agg ds))(h1:bj P T=some xT)(h2:xT.desc= .struct fs)
  (h3:P.stoodInHeld T=false) (h4:P.eqGuardType P.depth T=false) (h5:(fs.toList.all fun f=>f.name != "_")=true) (h6:Bp P cs ds fs.toList=some l) (hb:Aj l=b):bE P C H env (.binOp .eql T x y ty) (.bool b):=by
 intro R ρ w hm hf dst t p af g
 refine⟨_,?_,aO.2 rfl⟩
 obtain⟨xs,ex,rx⟩:=DL (hf _ _ hx)
 obtain⟨ys,ey,ry⟩:=DL (hf _ _ hy)
 have hu:P.underlying T=some (.struct fs):=by rw[bR h1,h2]
 have hfo:P.fieldsOf T=fs:=by unfold Program.fieldsOf;rw[hu]
 have e1:(Op.equalIn 10000 T (.agg xs) (.agg ys)).run P w= .ok b w:=by
  rw[show(10000:Nat)=9999+1 from rfl,run_equalIn_agg w 9999 T xs ys (by rw[hfo];exact hu) h3,hfo]
  subst hb
  exact n9 rx ry 9998 w _ _ h5 h6
 simp only[execOp,ex,ey,e_,run_eql_struct,e1,run_eqGuard_agg w .eql T x y xs ys h4,c_,h_]
theorem tt {cs ds:List AVal}{fs:Array Field}{l:List Bool}{xT:TI}(b:Bool)(hx:ah env x=some (.agg cs))(hy:ah env y=some (.agg ds))(h1:bj P T=some xT)(h2:xT.desc= .struct fs)
  (h3:P.stoodInHeld T=false) (h4:P.eqGuardType P.depth T=false) (h5:(fs.toList.all fun f=>f.name != "_")=true) (h6:Bp P cs ds fs.toList=some l) (hb:Aj l=b):bE P C H env (.binOp .neq T x y ty) (.bool (!b)):=by
 intro R ρ w hm hf dst t p af g
 refine⟨_,?_,aO.2 rfl⟩
 obtain⟨xs,ex,rx⟩:=DL (hf _ _ hx)
 obtain⟨ys,ey,ry⟩:=DL (hf _ _ hy)
 have hu:P.underlying T=some (.struct fs):=by rw[bR h1,h2]
 have hfo:P.fieldsOf T=fs:=by unfold Program.fieldsOf;rw[hu]
 have e1:(Op.equalIn 10000 T (.agg xs) (.agg ys)).run P w= .ok b w:=by
  rw[show(10000:Nat)=9999+1 from rfl,run_equalIn_agg w 9999 T xs ys (by rw[hfo];exact hu) h3,hfo]
  subst hb
  exact n9 rx ry 9998 w _ _ h5 h6
 simp only[execOp,ex,ey,e_,run_neq_struct,e1,run_eqGuard_agg w .neq T x y xs ys h4,c_,h_]
end
end
section
attribute [local irreducible] bJ au aa ax aR ab ad iJ fo dm mV
theorem wI {G:Glo}(hGL:ab G errTy)(x:Err):ai prog G 166 [x.A] x.b.A:=by
 have h:=s8 hGL x;cases x;all_goals
  refine vz func166 call166 rfl rfl rfl rfl hGL ?_;intro C hC;exact bq
theorem wx (t:Stm):Aj [bV t.y 0,bV t.m 0,bV t.d 0,bV t.h 0,bV t.i 0,bV t.s 0,t.z==false,bV t.o 0]=mV t:=by
 unfold mV;rw[w_];simp only[Aj,l_,fJ,Bool.and_true,n_,aad]
theorem Hn {G:Glo}(v:Vl):ai prog G 165 [v.A] (.bool v.only):=by
 have hz:=wx v.st;refine aw func165 call165 λC hC hGL=> ?_;refine xw ?_;repeat' first|exact .n|apply Lc.mk
 all_goals intros
 all_goals try (refine aY hC hGL (O4 (mV v.st) rfl rfl rfl rfl be be be rfl hz) rfl rfl ?_;refine xw ?_)
 repeat' first|exact .n|apply Lc.mk
 all_goals intros
 all_goals (apply aj;refine congrArg AVal.bool ?_;rw[w_];unfold Vl.only;rw[n_];cases hq:mV v.st<;>first|exact absurd (hq.symm.trans (show mV v.st=true by assumption)) b_|exact absurd (hq.symm.trans (show mV v.st=false by assumption)) b_|(simp only[hq,fJ,reduceCtorEq,true_iff,false_iff,true_or,false_or,iff_true,true_and,and_true];omega))
theorem KF {L:List (List ω)}{k:Nat}(hk:k<L.length)(h1:k<=eM L)(h0:(L.getD k []).length=0):eM L<L.length:=by
 rw[tS hk h1 (s_ h0)];exact hk
theorem Fq {L:List (List ω)}{k:Nat}(hk:k<L.length)(h1:k<=eM L)(h0:(L.getD k []).length≠0):k+1<=eM L:=rh hk h1 (λh=>h0 (by rw[h];rfl))
def Ye (L:List (List ω))(k:Nat):Prop:=∀i,i<k->(L.getD i []).all (fo true)=true
def YZ (l:List ω)(j:Nat):Prop:=∀i,i<j->fo true (l.getD i [])=true
theorem K9 {l:List ω}{j:Nat}(hj:l.length<=j)(h:YZ l j):l.all (fo true)=true:=by
 rw[Bw];intro x hx
 obtain⟨i,hi,rfl⟩:=D_ hx
 have:=h i a_
 rwa [f_,y_ hi] at this
theorem K8 {l:List ω}{j:Nat}(hj:j<l.length)(h:fo true (l.getD j [])=false):l.all (fo true)=false:=by
 rw[List.all_eq_false];refine⟨l[j],K_ hj,?_⟩;rw[f_,y_ hj] at h;simpa using h
theorem K7 {L:List (List ω)}{k:Nat}(hk:L.length<=k)(h:Ye L k):QA L=true:=by
 unfold QA;rw[Bw];intro x hx;obtain⟨i,hi,rfl⟩:=D_ hx;have:=h i a_;rwa [f_,y_ hi] at this
theorem K6 {L:List (List ω)}{k:Nat}(hk:k<L.length)(h:(L.getD k []).all (fo true)=false):QA L=false:=by
 unfold QA;rw[List.all_eq_false];refine⟨L[k],K_ hk,?_⟩;rw[f_,y_ hk] at h;simpa using h
theorem F2 {l:List ω}{j:Nat}(h:YZ l j)(k:fo true (l.getD j [])=true):YZ l (j+1):=λi hi=>by
 rcases Nat.lt_succ_iff_lt_or_eq.1 hi with h1|rfl
 ·exact h i h1
 ·exact k
theorem F1 {L:List (List ω)}{j:Nat}(h:Ye L j)(k:(L.getD j []).all (fo true)=true):Ye L (j+1):=λi hi=>by
 rcases Nat.lt_succ_iff_lt_or_eq.1 hi with h1|rfl
 ·exact h i h1
 ·exact k
end
section
attribute [local irreducible] bJ au aa ax aR ab ad
theorem Uj {a b:Int}:bV a b=decide (a=b):=by rw[w_,fJ,n_]
theorem Vl.E_bad {v:Vl}(h:v.t<1\/9<=v.t\/v.only=false):v.E= .errno 1:=if_pos h
theorem Vl.E_ok {v:Vl}(h1:1<=v.t)(h2:v.t<9)(h3:v.only=true):v.E=if v.t=2\/v.t=3 then vp v.t v.L
  else if v.t=4 then(gJ v.s).b else if v.t=5 then v.st.E else if v.t=6 then mI v.n else if v.t=7 then(dJ v.s).b else if fo (decide (v.t=1)) v.s then .none else .errno 3:=by
 unfold Vl.E;rw[if_neg];rintro(h|h|h)
 ·omega
 ·omega
 ·rw[h3] at h;cases h
theorem Vl.E_rest {v:Vl}(h:v.only=true)(h1:1<=v.t)(h2:v.t<9)(a:v.t≠2)(b:v.t≠3)(c:v.t≠4)(d:v.t≠5)(e:v.t≠6)(f:v.t≠7):v.E=if fo (decide (v.t=1)) v.s then .none else .errno 3:=by
 rw[Vl.E_ok h1 h2 h,if_neg a_,if_neg c,if_neg d,if_neg e,if_neg f]
theorem Vl.E_p {v:Vl}(h:v.only=true)(a:v.t=2\/v.t=3):v.E=vp v.t v.L:=by rw[Vl.E_ok a_ a_ h,if_pos a]
theorem Vl.E_4 {v:Vl}(h:v.only=true)(a:v.t=4):v.E=(gJ v.s).b:=by rw[Vl.E_ok a_ a_ h,if_neg a_,if_pos a]
theorem Vl.E_5 {v:Vl}(h:v.only=true)(a:v.t=5):v.E=v.st.E:=by rw[Vl.E_ok a_ a_ h,if_neg a_,if_neg a_,if_pos a]
theorem Vl.E_6 {v:Vl}(h:v.only=true)(a:v.t=6):v.E=mI v.n:=by rw[Vl.E_ok a_ a_ h,if_neg a_,if_neg a_,if_neg a_,if_pos a]
theorem Vl.E_7 {v:Vl}(h:v.only=true)(a:v.t=7):v.E=(dJ v.s).b:=by rw[Vl.E_ok a_ a_ h,if_neg a_,if_neg a_,if_neg a_,if_neg a_,if_pos a]
theorem Ko {t:Int}{L:List (List ω)}(h:L.length=0\/(t=2/\L.length≠1)):vp t L= .errno 8:=if_pos h
theorem Kq {t:Int}{L:List (List ω)}(h:¬(L.length=0\/(t=2/\L.length≠1))):vp t L=if eM L<L.length then .errno 8 else if QA L then .none else .errno 3:=if_neg h
structure Vl.OK (v:Vl):Prop where
 s:v.s.length<=9223372036854775000
 n:v.L.length<=2000000
 r:∀k,(v.L.getD k []).length<=2000000
 l:∀k j,((v.L.getD k []).getD j []).length<=9223372036854775807
attribute [local irreducible] iJ fo dm mV Vl.only gJ dJ Stm.E wo eM QA
theorem uF {G:Glo}{m:Int}(hU:ab G errTy)(hM:ab G (bQ m))(v:Vl)(hv:v.OK):ai prog G 114 [v.A] v.E.A:=by
 have h0:=Hn (G:=G) v;have h1:=Ap (G:=G) v.s (by have:=hv.s;omega);have h2:=wI hU (gJ v.s);rw[<-Aq (gJ v.s)] at h2;have h3:=lF hM v.st;have h4:=qV (G:=G) v.n;have h5:=rm (G:=G) v.s (by have:=hv.s;omega)
 have h6:=wI hU (dJ v.s)
 rw[<-Aq (dJ v.s)] at h6
 have h7:=oB (G:=G) v.s (bV v.t 1) (by have:=hv.s;omega)
 have h8:=λk j=>oB (G:=G) ((v.L.getD k []).getD j []) true (hv.l k j)
 rw[show fo (bV v.t 1) v.s=fo (decide (v.t=1)) v.s by rw[Uj]] at h7
 have k1:=λk j (_:(0:Int)<=0)=>h8 k j
 have hn:=hv.n
 have hr:=hv.r
 obtain⟨t,s,L,st,n⟩:=v
 dsimp only at*
 by_cases ht:t<1\/9<=t
 ·rw[Vl.E_bad (v:=⟨t,s,L,st,n⟩) (ht.elim .inl (λh=>.inr (.inl h)))]
  refine aw func114 call114 λC hC hGL=> ?_
  refine xw ?_
  repeat' first|exact .n|apply Lc.mk
  all_goals intros
  all_goals dsimp only at*
  all_goals first|exact aj rfl|(exfalso;omega)
 cases ho:Vl.only ⟨t,s,L,st,n⟩
 ·rw[Vl.E_bad (.inr (.inr ho))]
  rw[ho] at h0
  refine aw func114 call114 λC hC hGL=> ?_
  exact bq
 ·rw[ho] at h0
  refine aw func114 call114 λC hC hGL=> ?_
  refine xw ?_
  repeat' first|exact .n|apply Lc.mk
  all_goals intros
  all_goals dsimp only at*
  all_goals try first
   |(apply aj;rw[Vl.E_4 ho (by assumption)];done)
   |(apply aj;rw[Vl.E_5 ho (by assumption)];done)
   |(apply aj;rw[Vl.E_7 ho (by assumption)];done)
   |(apply aj;rw[Vl.E_6 ho (by assumption)];unfold mI;dsimp only;rw[show wo n=true by assumption];rfl)
   |(apply aj;rw[Vl.E_6 ho (by assumption)];unfold mI;dsimp only;rw[show wo n=false by assumption];rfl)
   |(apply aj;rw[Vl.E_p ho (by first|exact .inl (by assumption)|exact .inr (by assumption)),Ko (by dsimp only;omega)];rfl)
   |(apply aj;rw[Vl.E_rest ho (by assumption) (by assumption) (by assumption) (by assumption) (by assumption) (by assumption) (by assumption) (by assumption)];dsimp only;rw[show fo (decide (t=1)) s=true by assumption];rfl)
   |(apply aj;rw[Vl.E_rest ho (by assumption) (by assumption) (by assumption) (by assumption) (by assumption) (by assumption) (by assumption) (by assumption)];dsimp only;rw[show fo (decide (t=1)) s=false by assumption];rfl)
  all_goals
   rw[Vl.E_p ho (by first|exact .inl (by assumption)|exact .inr (by assumption)),Kq (by dsimp only;omega)]
   dsimp only
   refine lp hC hGL (λk:Nat=>[(1,.rop [.int .i64 t,.str s,.list 1 L.length (gX L),.int .i64 st.y,.int .i64 st.m,.int .i64 st.d,.int .i64 st.h,.int .i64 st.i,.int .i64 st.s,.bool st.z,.int .i64 st.o,.int .i64 n] 0),(45,.list 1 L.length (gX L)),(46,.int .i64 (L.length:Nat)),(47,.int .i64 (k:Nat))]) (λ_=>[]) (λk=>k<=eM L) (λk=>L.length-k) 0 ?_ ae rfl ?_
   ·exact Nat.zero_le _
   intro k hk
   have hnl:=sl L
   refine xw ?_
   repeat' first|exact .n|apply Lc.mk
   all_goals intros
   all_goals try first
    |(apply aj;rw[if_pos (KF a_ hk a_)];rfl)
    |exact cQ (k+1) (Fq a_ hk a_) a_ ae rfl
   rw[if_neg a_]
   refine lp hC hGL (λk:Nat=>[(57,.list 1 L.length (gX L)),(58,.int .i64 (L.length:Nat)),(59,.int .i64 (k:Nat))]) (λ_=>[]) (λk=>k<=L.length/\Ye L k) (λk=>L.length-k) 0 ?_ ae rfl ?_
   ·exact⟨Nat.zero_le _,λi hi=>absurd hi (Uf _)⟩
   rintro i ⟨hi,hK⟩
   refine xw ?_
   repeat' first|exact .n|apply Lc.mk
   all_goals intros
   all_goals try (apply aj;rw[K7 a_ hK];rfl)
   ·refine lp hC hGL (λj:Nat=>[(57,.list 1 L.length (gX L)),(58,.int .i64 (L.length:Nat)),(59,.int .i64 (i:Nat)),(63,.list 1 (L.getD i []).length (aB (L.getD i []))),(64,.int .i64 ((L.getD i []).length:Nat)),(65,.int .i64 (j:Nat))]) (λ_=>[]) (λj=>j<=(L.getD i []).length/\YZ (L.getD i []) j) (λj=>(L.getD i []).length-j) 0 ?_ ae rfl ?_
    ·exact⟨Nat.zero_le _,λi hi=>absurd hi (Uf _)⟩
    rintro j ⟨hj,hJ⟩
    have hri:=hr i
    refine xw ?_
    repeat' first|exact .n|apply Lc.mk
    all_goals intros
    all_goals first
     |(apply aj;rw[K6 (k:=i) a_ (K8 (j:=j) a_ (by assumption))];rfl)
     |exact cQ (j+1) ⟨a_,F2 hJ (by assumption)⟩ a_ ae rfl
     |exact cQ (i+1) ⟨a_,F1 hK (K9 a_ hJ)⟩ a_ ae rfl
end
section
attribute [local irreducible] bJ au aa ax aR ab ad
theorem TK {P:Program}[Tab P]{C:Ctx}{n:Nat}{env:Env}{H:Heap}{Q:aL->Env->Heap->Prop}{c:Code}(k:Lp P C n c env [] Q):Lp P C n c env H Q:=
 FD (λR _ _ hm hf=>⟨R,Seal.le_refl R,hm.drop (Ug _),hf⟩) k
theorem PE {v:Vl}{z:Bool}(hz:mV v.st=z):v.only=true↔(v.s.length=0\/v.t=1\/v.t=4\/v.t=7\/v.t=8)/\(v.L.length=0\/v.t=2\/v.t=3)/\((if z then 0 else 1:Int)=0\/v.t=5)/\(v.n=0\/v.t=6):=by
 unfold Vl.only
 rw[hz,n_];cases z<;>simp
theorem Vl.E_out {v:Vl}(h:v.t<1\/9<=v.t):v.E= .errno 1:=Vl.E_bad (h.elim .inl (λk=>.inr (.inl k)))
theorem Vl.E_no {v:Vl}(h:¬v.only=true):v.E= .errno 1:=Vl.E_bad (.inr (.inr (by simpa using h)))
attribute [local irreducible] iJ fo dm mV Vl.only gJ dJ Stm.e wo eM QA
theorem oT {G:Glo}{m:Int}(hU:ab G utfTy)(hM:ab G (bQ m))(v:Vl)(hv:v.OK)(hl:v.s.length<=10000)(h3:ai prog G 148 [v.st.A] (.int .i64 v.st.e)):ai prog G 86 [v.A] (.int .i64 v.E.e):=by
 have h1:=se (G:=G) v.s a_;have h4:=ka (G:=G) v.n;have h5:=mM hM v.s hl;have h7:=pY hU v.s true a_;have h8:=pY hU v.s false a_;have k1:=λk j (_:(0:Int)<=0)=>pY hU ((v.L.getD k []).getD j []) true (hv.l k j);have hW:=fN (G:=G) v.t 1 8;have hz:=wx v.st;have hz0:Aj [bV 0 0,bV 0 0,bV 0 0,bV 0 0,bV 0 0,bV 0 0,false==false,bV 0 0]=true:=by rw[wx ⟨0,0,0,0,0,0,false,0⟩];unfold mV;rfl
 have hn:=hv.n;have hr:=hv.r;by_cases ht:v.t<1\/9<=v.t
 ·rw[show(decide (1<=v.t)&&decide (v.t<=8))=false by rw[<-W_,l_,n_,n_];omega] at hW;rw[Vl.E_out ht];refine aw func86 call86 λC hC hGL=> ?_;exact bq
 rw[show(decide (1<=v.t)&&decide (v.t<=8))=true by rw[l_,n_,n_];omega] at hW;have hO:=PE (v:=v) rfl;cases hq:mV v.st
 all_goals
  rw[hq] at hz hO;simp only[aap,aaq,Bu,true_or,true_and] at hO;refine aw func86 call86 λC hC hGL=> ?_;refine xw ?_;repeat' first|exact .n|apply Lc.mk
  all_goals intros
  all_goals first
   |(refine aY hC hGL (tt _ rfl rfl rfl rfl be be be rfl hz) rfl rfl ?_;refine xw ?_)
   |(refine aY hC hGL (tt _ rfl rfl rfl rfl be be be rfl hz0) rfl rfl ?_;refine xw ?_)
   |skip
  repeat' first|exact .n|apply Lc.mk
  all_goals intros
  all_goals try first
   |(apply aj;rw[Vl.E_no (λk=>by have:=hO.1 k;omega)];rfl)
   |(apply aj;rw[Vl.E_4 (hO.2 a_) (by assumption),Err.b_e];done)
   |(apply aj;rw[Vl.E_5 (hO.2 a_) (by assumption),Stm.E_e];done)
   |(apply aj;rw[Vl.E_7 (hO.2 a_) (by assumption),Err.b_e];done)
   |(apply aj;rw[Vl.E_6 (hO.2 a_) (by assumption)];unfold mI;rw[show wo v.n=true by assumption];rfl)
   |(apply aj;rw[Vl.E_6 (hO.2 a_) (by assumption)];unfold mI;rw[show wo v.n=false by assumption];rfl)
   |(apply aj;rw[Vl.E_p (hO.2 a_) a_,Ko a_];rfl)
   | (apply aj;rw[Vl.E_rest (hO.2 a_) a_ a_ a_ a_ a_ a_ a_ a_];first
     |(rw[show decide (v.t=1)=true from decide_eq_true a_,show fo true v.s=true by assumption];rfl)
     |(rw[show decide (v.t=1)=true from decide_eq_true a_,show fo true v.s=false by assumption];rfl)
     |(rw[show decide (v.t=1)=false from decide_eq_false a_,show fo false v.s=true by assumption];rfl)
     |(rw[show decide (v.t=1)=false from decide_eq_false a_,show fo false v.s=false by assumption];rfl))
  all_goals
   rw[Vl.E_p (hO.2 a_) a_,Kq a_];refine TK ?_;refine lp hC hGL (λx:Nat×Bool=>[(4,.bool x.2),(71,.list 1 v.L.length (gX v.L)),(72,.int .i64 (v.L.length:Nat)),(73,.int .i64 (x.1:Nat))]) (λ_=>[]) (λx=>x.1<=eM v.L/\(x.2=false->Ye v.L x.1)/\(x.2=true->QA v.L=false)) (λx=>v.L.length-x.1) (0,false) ?_ ae rfl ?_
   ·exact⟨Nat.zero_le _,λ_ i hi=>absurd hi (Uf _),λh=>by cases h⟩
   rintro⟨k,b⟩ ⟨hk,hb1,hb2⟩;dsimp only at hk hb1 hb2;have hnl:=sl v.L;refine xw ?_;repeat' first|exact .n|apply Lc.mk
   all_goals intros
   all_goals try dsimp only at*
   all_goals try first
    |(apply aj;rw[if_pos (KF (k:=k) a_ hk a_)];rfl)
    |(apply aj;rw[if_neg a_,hb2 (by assumption)];rfl)
    |(apply aj;rw[if_neg a_,K7 a_ (hb1 (by assumption))];rfl)
   refine lp hC hGL (λx:Nat×Bool=>[(4,.bool x.2),(71,.list 1 v.L.length (gX v.L)),(72,.int .i64 (v.L.length:Nat)),(73,.int .i64 (k:Nat)),(80,.list 1 (v.L.getD k []).length (aB (v.L.getD k []))),(81,.int .i64 ((v.L.getD k []).length:Nat)),(82,.int .i64 (x.1:Nat))]) (λ_=>[]) (λx=>x.1<=(v.L.getD k []).length/\(x.2=false->Ye v.L k/\YZ (v.L.getD k []) x.1)/\(x.2=true->QA v.L=false)) (λx=>(v.L.getD k []).length-x.1) (0,b) ?_ ae rfl ?_
   ·exact⟨Nat.zero_le _,λh=>⟨hb1 h,λi hi=>absurd hi (Uf _)⟩,hb2⟩
   rintro⟨j,c⟩ ⟨hj,hc1,hc2⟩;dsimp only at hj hc1 hc2;have hrk:=hr k;refine xw ?_;repeat' first|exact .n|apply Lc.mk
   all_goals intros
   all_goals try dsimp only at*
   all_goals first
    |(refine cQ (k+1,c) ⟨Fq a_ hk a_,λh=>F1 (hc1 h).1 (K9 a_ (hc1 h).2),hc2⟩ (by dsimp only;omega) ae rfl)
    |(refine cQ (j+1,true) ⟨by dsimp only;omega,λh=>Bool.noConfusion h,λ_=>hc2 (by assumption)⟩ (by dsimp only;omega) ae rfl)
    |(refine cQ (j+1, !(fo true ((v.L.getD k []).getD j []))) ⟨by dsimp only;omega,λh=>⟨(hc1 (by assumption)).1,F2 (hc1 (by assumption)).2 (by simpa using h)⟩,λh=>K6 (k:=k) a_ (K8 (j:=j) a_ (by simpa using h))⟩ (by dsimp only;omega) ae rfl)
end
section
attribute [local irreducible] bJ au aa ax aR ab ad
theorem Vl.E_none {v:Vl}(h:v.E= .none):v.only=true/\1<=v.t/\v.t<9:=by
 by_cases h1:v.t<1\/9<=v.t\/v.only=false
 ·rw[Vl.E_bad h1] at h;cases h
 ·refine⟨?_,a_,a_⟩;cases ho:v.only
  ·exact absurd (.inr (.inr ho)) h1
  ·rfl
theorem Vl.T_ok {v:Vl}(h:v.E= .none):v.T=if v.t=1 then escS v.s else if v.t=2\/v.t=3 then iH v.L else if v.t=5 then v.st.T else if v.t=6 then kJ v.n else v.s:=by
 unfold Vl.T;rw[h]
theorem Vl.T_no {v:Vl}(h:v.E≠ .none):v.T=[]:=by
 unfold Vl.T;split
 ·rename_i k;exact absurd k h
 ·rfl
theorem FR {t:Int}{L:List (List ω)}(h:vp t L= .none):ju L= .none:=by
 unfold vp at h;unfold ju;split at h
 ·cases h
 ·split at h
  ·cases h
  ·rename_i h1 h2;rw[if_neg (λk=>h1 (.inl (by rw[k];rfl))),if_neg h2]
theorem Vl.right {v:Vl}(h:v.E= .none):(v.t=2\/v.t=3->ju v.L= .none)/\(v.t=5->v.st.E= .none)/\(v.t=6->mI v.n= .none):=by
 obtain⟨ho,_,_⟩:=Vl.E_none h;refine⟨λk=> ?_,λk=> ?_,λk=> ?_⟩
 ·rw[Vl.E_p ho k] at h;exact FR h
 ·rwa [Vl.E_5 ho k] at h
 ·rwa [Vl.E_6 ho k] at h
theorem T_1 {v:Vl}(h:v.E= .none)(k:v.t=1):v.T=escS v.s:=by rw[Vl.T_ok h,if_pos k]
theorem T_2 {v:Vl}(h:v.E= .none)(k:v.t=2\/v.t=3):v.T=iH v.L:=by rw[Vl.T_ok h,if_neg a_,if_pos k]
theorem T_5 {v:Vl}(h:v.E= .none)(k:v.t=5):v.T=v.st.T:=by rw[Vl.T_ok h,if_neg a_,if_neg a_,if_pos k]
theorem T_6 {v:Vl}(h:v.E= .none)(k:v.t=6):v.T=kJ v.n:=by rw[Vl.T_ok h,if_neg a_,if_neg a_,if_neg a_,if_pos k]
theorem T_s {v:Vl}(h:v.E= .none)(a:v.t≠1)(b:v.t≠2)(c:v.t≠3)(d:v.t≠5)(e:v.t≠6):v.T=v.s:=by rw[Vl.T_ok h,if_neg a,if_neg a_,if_neg d,if_neg e]
attribute [local irreducible] Vl.E Vl.T iH ju kJ mI Stm.T Stm.E Stm.e escS escF
theorem DZ {G:Glo}(v:Vl)(hR:ai prog G 114 [v.A] v.E.A)(hE:ai prog G 208 [.str v.s] (.str (escS v.s)))
  (hJ:ai prog G 209 [.list 1 v.L.length (gX v.L)] (.tuple [.str (iH v.L),(ju v.L).A])) (hP:ai prog G 210 [v.st.A] (.tuple [.str v.st.T,v.st.E.A])):
  ai prog G 168 [v.A] (.tuple [.str v.T,v.E.A]):=by
 have hZ:=wr (G:=G) v.n;rcases hq:v.E with _|e|⟨e,p⟩
 ·obtain⟨r1,r2,r3⟩:=Vl.right hq
  have t1:=T_1 hq
  have t2:=T_2 hq
  have t5:=T_5 hq
  have t6:=T_6 hq
  have ts:=T_s hq
  rw[hq] at hR
  refine aw func168 call168 λC hC hGL=> ?_
  refine xw ?_
  repeat' first|exact .n|apply Lc.mk
  all_goals intros
  all_goals first
   |(apply aj;rw[t1 (by assumption)]<;>rfl)
   |(apply aj;rw[t2 a_,r1 a_]<;>rfl)
   |(apply aj;rw[t5 (by assumption),r2 (by assumption)]<;>rfl)
   |(apply aj;rw[t6 (by assumption),r3 (by assumption)]<;>rfl)
   |(apply aj;rw[ts (by assumption) (by assumption) (by assumption) (by assumption) (by assumption)]<;>rfl)
 ·rw[Vl.T_no (by rw[hq];exact λk=>by cases k)]
  rw[hq] at hR
  refine aw func168 call168 λC hC hGL=> ?_
  exact bq
 ·rw[Vl.T_no (by rw[hq];exact λk=>by cases k)]
  rw[hq] at hR
  refine aw func168 call168 λC hC hGL=> ?_
  exact bq
theorem xA {G:Glo}(v:Vl)(hR:ai prog G 86 [v.A] (.int .i64 v.E.e))(hE:ai prog G 191 [.str v.s] (.str (escS v.s)))
  (hJ:ai prog G 192 [.list 1 v.L.length (gX v.L)] (.tuple [.str (iH v.L),.agg [.int .i64 (ju v.L).e,.int .i64 (ju v.L).p]])) (hP:ai prog G 193 [v.st.A] (.tuple [.str v.st.T,.int .i64 v.st.e]))
  (h0:v.E.e=0->v.E= .none):ai prog G 149 [v.A] (.tuple [.str v.T,.int .i64 v.E.e]):=by
 have hZ:=qI (G:=G) v.n;by_cases hq:v.E= .none
 ·obtain⟨r1,r2,r3⟩:=Vl.right hq;have t1:=T_1 hq;have t2:=T_2 hq;have t5:=T_5 hq;have t6:=T_6 hq;have ts:=T_s hq;have r4:v.t=5->v.st.e=0:=λk=>by rw[<-Stm.E_e,r2 k];rfl
  rw[hq] at hR ⊢;have hR:ai prog G 86 [v.A] (.int .i64 0):=hR;have e0:(Err.none).e=0:=rfl;rw[e0];refine aw func149 call149 λC hC hGL=> ?_;refine xw ?_;repeat' first|exact .n|apply Lc.mk
  all_goals intros
  all_goals first
   |(apply aj;rw[t1 (by assumption)]<;>rfl)
   |(apply aj;rw[t2 a_]<;>rfl)
   |(apply aj;rw[t5 (by assumption),r4 (by assumption)]<;>rfl)
   |(apply aj;rw[t6 (by assumption),r3 (by assumption)]<;>rfl)
   |(apply aj;rw[ts (by assumption) (by assumption) (by assumption) (by assumption) (by assumption)]<;>rfl)
 ·have hne:v.E.e≠0:=λk=>hq (h0 k);rw[Vl.T_no hq];refine aw func149 call149 λC hC hGL=> ?_;exact bq
end
section
attribute [local irreducible] bJ au aa ax aR ab ad
theorem WC (t:Int)(L:List (List ω)):(vp t L).p= -1:=by unfold vp;(repeat' split)<;>rfl
theorem Vl.E_at (v:Vl):v.E.p= -1:=by
 unfold Vl.E
 (repeat' split)
 ·rfl
 ·exact WC _ _
 ·exact Err.b_p _
 ·exact Stm.E_p _
 ·unfold mI;split<;>rfl
 ·exact Err.b_p _
 ·rfl
 ·rfl
theorem VW (s:ω)(h:(gJ s).e=0):gJ s= .none:=by
 unfold gJ at h ⊢
 (repeat' split at h)<;>first|(exfalso;revert h;simp[Err.e];done)|(rename_i h1 h2 h3;rw[if_neg h1,if_neg h2,if_neg h3])
theorem KS:∀(l:List ω) (b:Bool) (a:Nat),(fj b a l).e=0->fj b a l= .none
 |[],_,_,_=>rfl
 |x::xs,b,a,h=>by
  rw[rn] at h ⊢;split at h
  ·rename_i k;rw[if_pos k];exact KS xs _ _ h
  ·rename_i k;exfalso;revert h k
   unfold eP
   (repeat' split)<;>simp[Err.e,Err.isNone]
theorem Err.b_none {x:Err}(h:x.e=0->x= .none)(k:x.b.e=0):x.b= .none:=by
 rw[Err.b_e] at k;rw[h k];rfl
theorem Vl.E_zero (v:Vl)(h:v.E.e=0):v.E= .none:=by
 revert h
 unfold Vl.E
 (repeat' split)
 ·intro h;cases h
 ·unfold vp;(repeat' split)<;>intro h<;>first|rfl|cases h
 ·exact Err.b_none (VW _)
 ·unfold Stm.E;(repeat' split)<;>intro h<;>first|rfl|cases h
 ·unfold mI;(repeat' split)<;>intro h<;>first|rfl|cases h
 ·exact Err.b_none (KS _ _ _)
 ·intro _;rfl
 ·intro h;cases h
attribute [local irreducible] Vl.E Vl.T fo
end
section
def Db (f:Nat->Int):Nat->Int
 |0=>0
 |n+1=>if Db f n=0 then f n else Db f n
theorem nk {f:Nat->Int}:∀{n:Nat},(∀j,j<n->f j=0)->Db f n=0
 |0,_=>rfl
 |n+1,h=>by rw[Db,if_pos (nk λj hj=>h j a_),h n a_]
theorem vW {f:Nat->Int}{k:Nat}:∀{n:Nat},k<n->(∀j,j<k->f j=0)->f k≠0->Db f n=f k
 |0,h,_,_=>absurd h (Uf _)
 |n+1,h,h1,h2=>by
  rw[Db]
  rcases aaj k n with g|g
  ·rw[vW g h1 h2,if_neg h2]
  ·obtain rfl:k=n:=by omega
   rw[if_pos (nk h1)]
def yJ (f:Nat->Int):Nat->Err
 |0=>.none
 |n+1=>match yJ f n with
  |.none=>if f n=0 then .none else .atp (f n) n
  |e=>e
theorem nl {f:Nat->Int}:∀{n:Nat},(∀j,j<n->f j=0)->yJ f n= .none
 |0,_=>rfl
 |n+1,h=>by rw[yJ,nl λj hj=>h j a_];simp only[h n a_,aap]
theorem Dd {f:Nat->Int}{k:Nat}:∀{n:Nat},k<n->(∀j,j<k->f j=0)->f k≠0->yJ f n= .atp (f k) k
 |0,h,_,_=>absurd h (Uf _)
 |n+1,h,h1,h2=>by
  rw[yJ];rcases aaj k n with g|g
  ·rw[Dd g h1 h2]
  ·obtain rfl:k=n:=by omega
   rw[nl h1];simp only[h2,aaq]
def MZ (n:ω):Bool:=aW (am 97 122 (-32) n) [66,69,71,73,78]||(aW (am 97 122 (-32) n) [69,78,68]||aW (am 97 122 (-32) n) [86,69,82,83,73,79,78])
def pE (ps:List Pr)(i:Nat):Int:=if(ps.getD i Pr.z).fit=false then 3 else if am 97 122 (-32) (ps.getD i Pr.z).n≠nTYP/\eb (ps.getD i Pr.z).n ps 0<(i:Int) then 9 else 0
def rc (ps:List Pr):Int:=Db (pE ps) ps.length
theorem QS {s:ω}{l:List Pr}:∀{j:Nat},j<l.length->am 97 122 (-32) (l.getD j Pr.z).n=am 97 122 (-32) s->eb s l 0<=(j:Int):=by
 intro j
 induction j using Nat.strongRecOn with
 |_ j ih=>
  intro hj he;by_cases h:∃i,i<j/\am 97 122 (-32) (l.getD i Pr.z).n=am 97 122 (-32) s
  ·obtain⟨i,hi,h⟩:=h;have:=ih i hi a_ h;omega
  ·rw[pm 0 hj (λi hi e=>h ⟨i,hi,e⟩) he]
   omega
theorem Bs {l:List Pr}{i:Nat}(hi:i<l.length):eb (l.getD i Pr.z).n l 0<(i:Int)↔∃j,j<i/\am 97 122 (-32) (l.getD j Pr.z).n=am 97 122 (-32) (l.getD i Pr.z).n:=by
 constructor
 ·intro h;apply Classical.byContradiction;intro hn;rw[pm 0 hi (λj hj e=>hn ⟨j,hj,e⟩) rfl] at h;omega
 ·rintro⟨j,hj,h⟩;have:=QS (s:=(l.getD i Pr.z).n) (l:=l) (j:=j) a_ h;omega
theorem YF {ps:List Pr}{i:Nat}(h:(ps.getD i Pr.z).fit=false):pE ps i=3:=by unfold pE;rw[if_pos h]
theorem YE {ps:List Pr}{i:Nat}(h:(ps.getD i Pr.z).fit=true)(h1:am 97 122 (-32) (ps.getD i Pr.z).n≠nTYP)(h2:eb (ps.getD i Pr.z).n ps 0<(i:Int)):pE ps i=9:=by unfold pE;rw[if_neg (by rw[h];decide),if_pos ⟨h1,h2⟩]
theorem WH {ps:List Pr}{i:Nat}(h:(ps.getD i Pr.z).fit=true)(h1:¬(am 97 122 (-32) (ps.getD i Pr.z).n≠nTYP/\eb (ps.getD i Pr.z).n ps 0<(i:Int))):pE ps i=0:=by unfold pE;rw[if_neg (by rw[h];decide),if_neg h1]
theorem mu {ps:List Pr}{k:Nat}(hk:k<ps.length)(h:∀j,j<k->pE ps j=0)(h1:pE ps k≠0):rc ps=pE ps k:=vW hk h h1
theorem Pw {ps:List Pr}{k:Nat}(hk:ps.length<=k)(h:∀j,j<k->pE ps j=0):rc ps=0:=nk λj hj=>h j a_
def Itm.k (v:Int)(x:Itm):Int:=jH v x.1.n x.1.ps
def Itm.ln (x:Itm):Ln:=⟨x.1.g,x.1.n,x.1.ps,x.2.T⟩
def Itm.L (v:Int)(x:Itm):ω:=x.ln.T (bV v 4)
def Itm.r (v:Int)(x:Itm):Int:=if x.2.t=3/\0<(cC v x.1.n).p/\(cC v x.1.n).p≠(x.2.L.length:Int) then 2 else if 1500<(x.L v).length then 4 else 0
def Itm.w (v:Int)(x:Itm):Int:=match x.p.E (bV v 4) with
 |.none=>if MZ x.1.n=true then 5 else if rc x.1.ps≠0 then rc x.1.ps else if x.k v≠x.2.t then 1 else match x.2.E with
  |.none=>x.r v
  |e=>e.e
 |e=>e.e
theorem VS {v:Int}{x:Itm}(h:x.p.E (bV v 4)≠ .none):x.w v=(x.p.E (bV v 4)).e:=by
 unfold Itm.w;split
 ·rename_i k;exact absurd k h
 ·rfl
theorem Yr {v:Int}{x:Itm}(h:x.p.E (bV v 4)= .none)(h1:MZ x.1.n=true):x.w v=5:=by
 unfold Itm.w;rw[h];simp only[h1,aap]
theorem U7 {v:Int}{x:Itm}(h:x.p.E (bV v 4)= .none)(h1:MZ x.1.n=false)(h2:rc x.1.ps≠0):x.w v=rc x.1.ps:=by
 unfold Itm.w;rw[h];simp only[h1,Bu,aaq,if_pos h2]
theorem U8 {v:Int}{x:Itm}(h:x.p.E (bV v 4)= .none)(h1:MZ x.1.n=false)(h2:rc x.1.ps=0)(h3:x.k v≠x.2.t):x.w v=1:=by
 unfold Itm.w;rw[h];simp only[h1,Bu,aaq,h2,aan,aao,if_pos h3]
theorem U6 {v:Int}{x:Itm}(h:x.p.E (bV v 4)= .none)(h1:MZ x.1.n=false)(h2:rc x.1.ps=0)(h3:x.k v=x.2.t)(h4:x.2.E≠ .none):x.w v=x.2.E.e:=by
 unfold Itm.w;rw[h];simp only[h1,Bu,aaq,h2,h3,aan,aao]
theorem w_r {v:Int}{x:Itm}(h:x.p.E (bV v 4)= .none)(h1:MZ x.1.n=false)(h2:rc x.1.ps=0)(h3:x.k v=x.2.t)(h4:x.2.E= .none):x.w v=x.r v:=by
 unfold Itm.w;rw[h];simp only[h1,Bu,aaq,h2,h3,h4,aan,aao]
theorem Ln.E_v {c:Bool}{p:Ln}{v:ω}(h:Ln.E c ⟨p.g,p.n,p.ps,[]⟩= .none)(hv:fo false v=true):Ln.E c ⟨p.g,p.n,p.ps,v⟩= .none:=by
 unfold Ln.E at h ⊢;dsimp only at h ⊢;split at h
 ·cases h
 ·rename_i h1;rw[if_neg h1];split at h
  ·cases h
  ·rename_i h2;rw[if_neg h2];split at h
   ·rename_i h3;simp only[hv,aap]
   ·rename_i h3;exact absurd h h3
theorem QR {c:Bool}:∀{l:List Pr} {i:Nat},(lV c l i).e=0->lV c l i= .none
 |[],_,_=>rfl
 |q::l,i,h=>by
  simp only[lV] at h ⊢;split at h
  ·rename_i g;rw[if_pos g];exact QR h
  ·rename_i g;exact absurd h g
theorem YT {c:Bool}{p:Ln}(h:(p.E c).e=0):p.E c= .none:=by
 unfold Ln.E at h ⊢;split
 ·rename_i g;rw[if_pos g] at h;cases h
 ·rename_i g;rw[if_neg g] at h;split
  ·rename_i g2;rw[if_pos g2] at h;cases h
  ·rename_i g2;rw[if_neg g2] at h;have h0:=QR (c:=c) (l:=p.ps) (i:=0);cases hf:lV c p.ps 0 with
   |none=>
    rw[hf] at h;dsimp only at h ⊢;split
    ·rfl
    ·rename_i g3;rw[if_neg g3] at h;cases h
   |errno e=>rw[hf] at h h0;exact absurd (h0 h) (λk=>by cases k)
   | atp e q=>rw[hf] at h h0;exact absurd (h0 h) (λk=>by cases k)
theorem ZB {v:Int}{x:Itm}(h:x.w v=0):x.p.E (bV v 4)= .none:=by
 unfold Itm.w at h;split at h
 ·rename_i k;exact k
 ·exact YT h
def j4 (l:List Itm)(s:ω)(k:Nat):Nat:=((l.take k).filter λx=>aW (am 97 122 (-32) x.1.n) s).length
theorem BD (l:List Itm)(s:ω):j4 l s 0=0:=rfl
theorem ur {l:List Itm}{s:ω}{k:Nat}(hk:k<l.length):j4 l s (k+1)=j4 l s k+if aW (am 97 122 (-32) (l.getD k Itm.z).1.n) s then 1 else 0:=by
 unfold j4;rw[x_ hk,List.filter_append,d_,f_,y_ hk,aam];congr 1
 simp only[List.filter_cons,List.filter_nil];split<;>rfl
theorem sV (l:List Itm)(s:ω)(k:Nat):j4 l s k<=k:=by
 unfold j4;refine aai (List.length_filter_le _ _) ?_;rw[i_];omega
def lO (v:Int)(l:List Itm)(i:Nat):Int:=if 0<(cC v (l.getD i Itm.z).1.n).b/\(cC v (l.getD i Itm.z).1.n).b<=(j4 l (am 97 122 (-32) (l.getD i Itm.z).1.n) i:Int) then 9 else 0
def KR (v:Int)(l:List Itm)(i:Nat):Int:=if(j4 l ((aF v).getD i []) l.length:Int)<(cC v ((aF v).getD i [])).a then 7 else 0
def Crd.E (c:Crd):Err:=if c.v=3\/c.v=4 then
  if 60<c.l.length then .errno 4
  else match yJ (λi=>(c.l.getD i Itm.z).w c.v) c.l.length with
   |.none=>match yJ (lO c.v c.l) c.l.length with
    |.none=>if Db (KR c.v c.l) (aF c.v).length=0 then .none else .errno 7
    |e=>e
   |e=>e
 else .errno 1
theorem Au:∀s:ω,am 97 122 (-32) (am 97 122 (-32) s)=am 97 122 (-32) s
 |[]=>rfl
 |c::s=>by
  have ih:=Au s;have hc:UInt8.ofNat (eo 97 122 (-32) (UInt8.ofNat (eo 97 122 (-32) c.toNat).toNat).toNat).toNat=UInt8.ofNat (eo 97 122 (-32) c.toNat).toNat:=by
   have h1:=c.toNat_lt
   rw[<-UInt8.toNat_inj]
   simp only[UInt8.toNat_ofNat']
   unfold eo
   (repeat' split)<;>omega
  unfold am at ih ⊢
  simp only[S_,o_]
  exact⟨hc,ih⟩
theorem Te (v:Int)(s:ω):cC v (am 97 122 (-32) s)=cC v s:=by unfold cC;rw[Au]
theorem Gi {s:ω}:∀l:List (ω×Rl),(∀x∈l,0<=x.2.p)->0<=(gD s l).p
 |[],_=>by show(0:Int)<=0;decide
 |x::t,h=>by
  unfold gD;split
  ·exact h x (z_ ..)
  ·exact Gi t λy hy=>h y (List.mem_cons_of_mem _ hy)
theorem Wv (v:Int)(s:ω):0<=(cC v s).p:=by
 unfold cC;split
 ·rename_i h;refine Gi _ λx hx=> ?_;have:∀w:Int,(w=3\/w=4)->(da w).all (λx=>decide (0<=x.2.p))=true:=by
   rintro w (rfl|rfl)<;>decide
  exact of_decide_eq_true (List.all_eq_true.1 (this v h) x hx)
 ·decide
theorem PO {v:Int}{n:ω}(h:n∈aF v):am 97 122 (-32) n=n/\n.length<=20:=by
 unfold aF at h;split at h
 ·rename_i hv;have:∀w:Int,(w=3\/w=4)->((da w).map (·.1)).all (λn=>decide (am 97 122 (-32) n=n/\n.length<=20))=true:=by
   rintro w (rfl|rfl)<;>decide
  exact of_decide_eq_true (List.all_eq_true.1 (this v hv) n h)
 ·cases h
theorem AX (v:Int):(aF v).length<=100:=by
 unfold aF;split
 ·rename_i hv;have:∀w:Int,(w=3\/w=4)->((da w).map (·.1)).length<=100:=by
   rintro w (rfl|rfl)<;>decide
  exact this v hv
 ·exact Nat.zero_le _
theorem Fs {v:Int}{i:Nat}(h:i<(aF v).length):am 97 122 (-32) ((aF v).getD i [])=(aF v).getD i []/\((aF v).getD i []).length<=20:=by
 rw[f_,y_ h];exact PO (K_ h)
def Crd.ok (c:Crd):Prop:=c.l.length<=1000000/\∀x∈c.l,Itm.OK 10000 x
theorem Crd.fine.ok {c:Crd}(h:c.fine):c.ok:=⟨by have:=h.1;omega,λx hx=>(h.2 x hx).mono b_⟩
theorem Itm.fit {x:Itm}(h:x.OK 10000):x.ln.Fit:=⟨h.p.g,h.p.n,Vl.T_len (by have:=h.s;omega) h.L,h.p.ps,h.p.q⟩
theorem Itm.OK.v {x:Itm}(h:x.OK 10000):x.2.OK:=⟨by have:=h.s;omega,h.L.n,λk=>(h.L.k k).1,λk j=>by have:=(h.L.k k).2;have:=iA (l:=x.2.L.getD k []) (k:=j);omega⟩
end
section
abbrev qz (s:ω):ω:=am 97 122 (-32) s
abbrev ma:ω:=[66,69,71,73,78,58,86,67,65,82,68]
abbrev cpV3:ω:=[86,69,82,83,73,79,78,58,51,46,48]
abbrev cpV4:ω:=[86,69,82,83,73,79,78,58,52,46,48]
abbrev kG:ω:=[69,78,68,58,86,67,65,82,68]
def LineS.z:LineS:=⟨[],0,[]⟩
abbrev bS (L:List LineS)(i:Nat):LineS:=L.getD i ⟨[],0,[]⟩
def ny (t:ω):Int:=if aW (qz t) cpV3 then 3 else if aW (qz t) cpV4 then 4 else 0
def Qn (v:Int)(L:List LineS):Nat->Err
 |0=>.none
 |n+1=>match Qn v L n with
  |.none=>jd v (bS L (n+2))
  |e=>e
def lm (v:Int)(L:List LineS)(n:Nat):List Itm:=(List.range n).map λi=>px v (bS L (i+2))
theorem sv {v:Int}{L:List LineS}:∀{n:Nat},(∀j,j<n->jd v (bS L (j+2))= .none)->Qn v L n= .none
 |0,_=>rfl
 |n+1,h=>by rw[Qn,sv λj hj=>h j a_];exact h n a_
theorem Qm {v:Int}{L:List LineS}{k:Nat}:∀{n:Nat},k<n->(∀j,j<k->jd v (bS L (j+2))= .none)->jd v (bS L (k+2))≠ .none->Qn v L n=jd v (bS L (k+2))
 |0,h,_,_=>absurd h (Uf _)
 |n+1,h,h1,h2=>by
  rw[Qn]
  rcases aaj k n with g|g
  ·rw[Qm g h1 h2]
   split
   ·rename_i h3;exact absurd h3 h2
   ·rfl
  ·obtain rfl:k=n:=by omega
   rw[sv h1]
theorem FU (v:Int)(L:List LineS)(n:Nat):lm v L (n+1)=lm v L n++[px v (bS L (n+2))]:=by
 unfold lm;rw[List.range_succ,Nm];rfl
theorem jv (v:Int)(L:List LineS)(n:Nat):(lm v L n).length=n:=by unfold lm;rw[C_,List.length_range]
def Jq (L:List LineS):Err->Err
 |.none=>.none
 |.errno e=>.errno e
 |.atp e p=>.atp e (bS L (p.toNat+2)).a
def vD (L:List LineS):Crd:=⟨ny (bS L 1).t,lm (ny (bS L 1).t) L (L.length-3)⟩
def fY (L:List LineS)(e:Nat):Err:=
 if L.length<3 then .atp 7 e
 else if aW (qz (bS L 0).t) ma=false then .atp 3 (bS L 0).a
 else if ny (bS L 1).t=0 then .atp 3 (bS L 1).a
 else match Qn (ny (bS L 1).t) L (L.length-3) with
  |.none=>if aW (qz (bS L (L.length-1)).t) kG=false then .atp 3 (bS L (L.length-1)).a else Jq L (vD L).E
  |x=>x
def od (L:List LineS)(e:Nat):Crd:=match fY L e with
 |.none=>vD L
 |_=>⟨0,[]⟩
theorem GI {L:List LineS}{e:Nat}(h:L.length<3):fY L e= .atp 7 e:=if_pos h
theorem Rw {L:List LineS}{e:Nat}(h:¬L.length<3)(h1:aW (qz (bS L 0).t) ma=false):fY L e= .atp 3 (bS L 0).a:=by unfold fY;rw[if_neg h,if_pos h1]
theorem Rv {L:List LineS}{e:Nat}(h:¬L.length<3)(h1:aW (qz (bS L 0).t) ma=true)(h2:ny (bS L 1).t=0):fY L e= .atp 3 (bS L 1).a:=by unfold fY;rw[if_neg h,if_neg (by rw[h1];decide),if_pos h2]
theorem VH {L:List LineS}{e k:Nat}(h:¬L.length<3)(h1:aW (qz (bS L 0).t) ma=true)(h2:ny (bS L 1).t≠0)(hk:k<L.length-3)(h3:∀j,j<k->jd (ny (bS L 1).t) (bS L (j+2))= .none)(h4:jd (ny (bS L 1).t) (bS L (k+2))≠ .none):fY L e=jd (ny (bS L 1).t) (bS L (k+2)):=by
 unfold fY;rw[if_neg h,if_neg (by rw[h1];decide),if_neg h2,Qm hk h3 h4];split
 ·rename_i h5;exact absurd h5 h4
 ·rfl
theorem VI {L:List LineS}{e:Nat}(h:¬L.length<3)(h1:aW (qz (bS L 0).t) ma=true)(h2:ny (bS L 1).t≠0)(h3:∀j,j<L.length-3->jd (ny (bS L 1).t) (bS L (j+2))= .none)(h4:aW (qz (bS L (L.length-1)).t) kG=false):fY L e= .atp 3 (bS L (L.length-1)).a:=by
 unfold fY;rw[if_neg h,if_neg (by rw[h1];decide),if_neg h2,sv h3];dsimp only
 rw[if_pos h4]
theorem VG {L:List LineS}{e:Nat}(h:¬L.length<3)(h1:aW (qz (bS L 0).t) ma=true)(h2:ny (bS L 1).t≠0)(h3:∀j,j<L.length-3->jd (ny (bS L 1).t) (bS L (j+2))= .none)(h4:aW (qz (bS L (L.length-1)).t) kG=true):fY L e=Jq L (vD L).E:=by
 unfold fY;rw[if_neg h,if_neg (by rw[h1];decide),if_neg h2,sv h3];dsimp only
 rw[if_neg (by rw[h4];decide)]
theorem v8 {L:List LineS}{e:Nat}(h:fY L e≠ .none):od L e=⟨0,[]⟩:=by
 unfold od;split
 ·rename_i k;exact absurd k h
 ·rfl
theorem LB {L:List LineS}{e:Nat}(h:fY L e= .none):od L e=vD L:=by unfold od;rw[h]
theorem Oh {t:ω}(h:ny t≠0):ny t=3\/ny t=4:=by
 unfold ny at h ⊢;split
 ·exact .inl rfl
 ·rename_i h1
  rw[if_neg h1] at h
  split
  ·exact .inr rfl
  ·rename_i h2
   rw[if_neg h2] at h
   exact absurd rfl h
end
section
attribute [local irreducible] bJ au aa ax aR ab ad
theorem Af {G:Glo}{b:Nat}{p v:Value}:ad prog G 200 [.raw (db b)] [cm b p 1 v,fH gz []] (λr H=>r= .ret (.tuple [])/\H=[cm b (.pointer none) 1 gz,fH gz []]):=by
 have key:ad prog G 200 [.raw (db b)] [cm b p 1 v,fH gz []] (λr H=>r= .ret (.tuple [])/\H=[.cells b (some 135) [.raw (.pointer none),.raw gz],fH gz []]):=by
  have hGL:ab G []:=al;refine sF 0 func200 call200 rfl rfl rfl rfl hGL rfl ?_;intro C hC;repeat' (first|(conv=>whnf);first|refine .w ?_|refine .v ?_|refine ez ?_ ?_<;>(intro hb;try exact dd hb)|apply aT|apply bP|(apply cR<;>intro hb)|(apply cX;intro hbd)|(apply cY;intro bl)|(apply dv;intro va vk vc hva)|(apply du;intro v)|(apply dw;intro bl cap hcap)|apply dP|(apply dq<;>intro hnx)|apply ef mixed hC hGL be|(show Rt _ _ _;exact cP)|fail)
  all_goals try conv=>whnf
 refine vX (λ_=>Iff.rfl) (λ_ _ _ h=>h) key ?_;rintro r H' ⟨rfl,rfl⟩;refine⟨_,⟨rfl,rfl⟩,λC R w h=> ?_⟩;have h0:=h.heap.holds _ z_;refine h.swap (i:=0) rfl rfl ?_;obtain⟨Cs,el,fz,hW,hr,hl⟩:=h0;obtain⟨u1,t1,e1,k1,u2,t2,e2,k2,e3⟩:=hr;exact⟨Cs,el,fz,hW,⟨u1,t1,e1,k1,u2,t2,e2,iy k2,e3⟩,hl⟩
end
section
theorem Ka (a:ω):∀T:List Tk,(j8 a T).1.length<=T.length/\(j8 a T).2.1.length<=T.length/\(j8 a T).2.2.length<=T.length:=by
 refine ij ⟨Nat.le_refl _,Nat.le_refl _,Nat.le_refl _⟩ λT t ih=> ?_;rw[lI];cases t with
 |one b=>
  unfold mo;by_cases hb:b∈a
  ·simp only[hb,aap,d_,Rf,E_];omega
  ·simp only[hb,aaq,d_,Rf];omega
 |two d=>
  unfold mo;simp only[d_,Rf];omega
theorem yB (c:UInt8):∀(l:ω) (k:Nat),(0<=kE (c.toNat:Int) l k/\c∈l)\/(kE (c.toNat:Int) l k<0/\c∉l)
 |[],k=>.inr ⟨by simp[kE],by simp⟩
 |x::t,k=>by
  unfold kE;by_cases h:(x.toNat:Int)=c.toNat
  ·have:x=c:=UInt8.toNat_inj.1 a_;rw[if_pos h];exact .inl ⟨a_,by simp[this]⟩
  ·have hne:c≠x:=λe=>h (by rw[e]);rw[if_neg h];rcases yB c t (k+1) with⟨h1,h2⟩|⟨h1,h2⟩
   ·exact .inl ⟨h1,List.mem_cons_of_mem _ h2⟩
   ·exact .inr ⟨h1,λh3=>(List.mem_cons.1 h3).elim hne h2⟩
theorem TX {a:ω}{c:UInt8}(h:0<=aS a (c.toNat:Int)):c∈a:=by
 rcases yB c a 0 with⟨_,h2⟩|⟨h1,_⟩
 ·exact h2
 ·unfold aS at h;omega
theorem Qv {a:ω}{c:UInt8}(h:aS a (c.toNat:Int)<0):c∉a:=by
 rcases yB c a 0 with⟨h1,_⟩|⟨_,h2⟩
 ·unfold aS at h;omega
 ·exact h2
theorem OX (a:ω):j8 a []=([],[],[]):=rfl
theorem Wb {a:ω}{T:List Tk}{c:UInt8}(h:c∈a):j8 a (T++[.one c])=((j8 a T).1++[(j8 a T).2.1],[],(j8 a T).2.2++[c]):=by rw[lI];simp[mo,h]
theorem S5 {a:ω}{T:List Tk}{c:UInt8}(h:c∉a):j8 a (T++[.one c])=((j8 a T).1,(j8 a T).2.1++[c],(j8 a T).2.2):=by rw[lI];simp[mo,h]
theorem rS {a:ω}{T:List Tk}{d:UInt8}:j8 a (T++[.two d])=((j8 a T).1,(j8 a T).2.1++[yN d],(j8 a T).2.2):=by rw[lI];rfl
def Hb (a s:ω):List ω:=match a8 s 0 with
 |.none=>(j8 a (bY s)).1++[(j8 a (bY s)).2.1]
 |_=>[]
def Hc (a s:ω):ω:=match a8 s 0 with
 |.none=>(j8 a (bY s)).2.2
 |_=>[]
theorem xP {a s:ω}(h:a8 s 0= .none):Hb a s=(j8 a (bY s)).1++[(j8 a (bY s)).2.1]:=by unfold Hb;rw[h]
theorem Ik {a s:ω}(h:a8 s 0= .none):Hc a s=(j8 a (bY s)).2.2:=by unfold Hc;rw[h]
theorem Pu {a s:ω}{e p:Int}(h:a8 s 0= .atp e p):Hb a s=[]:=by unfold Hb;rw[h]
theorem WG {a s:ω}{e p:Int}(h:a8 s 0= .atp e p):Hc a s=[]:=by unfold Hc;rw[h]
def y8 (l:ω)(i:Nat):AVal:=.int .u8 ((l.getD i 0).toNat:Int)
theorem UD (l:ω):∀i,i<l.length->(y8 l i).cells=((gi l).drop (i*1)).take 1/\(y8 l i).plain=true:=by
 intro i hi
 refine⟨?_,rfl⟩;rw[Nat.mul_one,A_ (by simpa using hi)];simp[y8,AVal.cells,List.getD,hi]
theorem QH {s:ω}{i:Nat}(h:i<s.length):(aa s i:Int)=(s[i].toNat:Int):=(lc h).1 rfl
theorem sk {s:ω}{i:Nat}(h:i<s.length):UInt8.ofNat ((aa s i:Nat):Int).toNat=s[i]:=by
 have:aa s i=s[i].toNat:=by simp[aa,List.getD,y_ h]
 rw[B_,this,UInt8.ofNat_toNat]
set_option maxHeartbeats 8000000
attribute [local irreducible] bJ au ax aR ab ad aa a8 bY j8 yN aS
theorem u7 {G:Glo}(s a:ω)(hl:s.length<=2000000):ad prog G 154 [.str s,.str a] [] (λr H=>
  (∃e p,a8 s 0= .atp e p/\r= .ret (.tuple [.raw (.slice none 0 0),.raw (.slice none 0 0),th e p])/\H=[])\/
  (a8 s 0= .none/\∃vt vc,r= .ret (.tuple [.own 2 vt,.own 3 vc,.raw .nilIface])/\H=[.row vt none 1 (Hb a s).length (bu (Hb a s)),.row vc none 1 (Hc a s).length (gi (Hc a s))])):=by
 have hI:=λ(b:Int) h0 h1=>aK (G:=G) a b h0 h1;refine aw func154 call154 λC hC hGL=> ?_;refine je ?_;intro bl;intros;refine TL 0 rfl ?_;refine jX 4 1 rfl ?_;refine jX 5 1 rfl ?_;refine lp hC hGL (λ(x:(Nat×List Tk)×(List ω×ω×ω)×Value×Value×Value×Value)=>[(0,.str s),(1,.str a),(4,.own 2 x.2.2.2.2.1),(5,.own 3 x.2.2.2.2.2),(7,.own 0 (db bl)),(8,.int .i64 (x.1.1:Nat))]) (λx=>[cm bl x.2.2.1 1 x.2.2.2.1,fH x.2.2.2.1 x.2.1.2.1,.row x.2.2.2.2.1 none 1 x.2.1.1.length (bu x.2.1.1),.row x.2.2.2.2.2 none 1 x.2.1.2.2.length (gi x.2.1.2.2)]) (λx=>zj s x.1.1 x.1.2/\x.1.2.length<=x.1.1/\zk bl x.2.2.1/\j8 a x.1.2=x.2.1) (λx=>s.length-x.1.1) ((0,[]),([],[],[]),.pointer none,gz,gz,gz) ?_ ae rfl ?_
 ·exact⟨Ax s,Nat.le_refl _,.inl rfl,OX a⟩
 rintro⟨⟨i,T⟩,⟨tx,cur,cu⟩,p,v,vt,vd⟩ ⟨hT,hlT,hp,hS⟩;dsimp only at hT hlT hp hS;dsimp only
 have hi:=hT.1;have hv:=Ka a T;rw[hS] at hv;dsimp only at hv;by_cases hA:i+1<s.length/\(aa s i:Int)=92
 ·obtain⟨hA1,hA2⟩:=hA;have hok:=PH hA1;refine xw ?_;repeat' first|exact .n|apply Lc.mk
  all_goals intros
  ·have hq:(aa s (i+1):Int)=92:=by assumption
   apply iM (i:=0) (j:=1) rfl rfl b_ (iR hp v cur (aa s (i+1):Int) a_ a_ a_);intro wa wk wc;refine je ?_;intros;refine cQ ((i+2,T++[.two s[i+1]]),(tx,cur++[UInt8.ofNat ((aa s (i+1):Int):Int).toNat],cu),db bl,.slice wa wk wc,vt,vd) ?_ ?_ ⟨rfl,rfl,rfl,rfl,rfl,rfl,trivial⟩ rfl
   ·exact⟨m5 hT hA1 hA2 (by rw[hok];exact decide_eq_true a_),by simp;omega,.inr rfl,by rw[rS,hS,un hA1 a_,sk hA1]⟩
   ·show s.length-(i+2)<s.length-i;omega
  ·have hq:(aa s (i+1):Int)=44:=by assumption
   apply iM (i:=0) (j:=1) rfl rfl b_ (iR hp v cur (aa s (i+1):Int) a_ a_ a_);intro wa wk wc;refine je ?_;intros;refine cQ ((i+2,T++[.two s[i+1]]),(tx,cur++[UInt8.ofNat ((aa s (i+1):Int):Int).toNat],cu),db bl,.slice wa wk wc,vt,vd) ?_ ?_ ⟨rfl,rfl,rfl,rfl,rfl,rfl,trivial⟩ rfl
   ·exact⟨m5 hT hA1 hA2 (by rw[hok];exact decide_eq_true a_),by simp;omega,.inr rfl,by rw[rS,hS,un hA1 a_,sk hA1]⟩
   ·show s.length-(i+2)<s.length-i;omega
  ·have hq:(aa s (i+1):Int)=59:=by assumption
   apply iM (i:=0) (j:=1) rfl rfl b_ (iR hp v cur (aa s (i+1):Int) a_ a_ a_);intro wa wk wc;refine je ?_;intros;refine cQ ((i+2,T++[.two s[i+1]]),(tx,cur++[UInt8.ofNat ((aa s (i+1):Int):Int).toNat],cu),db bl,.slice wa wk wc,vt,vd) ?_ ?_ ⟨rfl,rfl,rfl,rfl,rfl,rfl,trivial⟩ rfl
   ·exact⟨m5 hT hA1 hA2 (by rw[hok];exact decide_eq_true a_),by simp;omega,.inr rfl,by rw[rS,hS,un hA1 a_,sk hA1]⟩
   ·show s.length-(i+2)<s.length-i;omega
  ·have hq:(aa s (i+1):Int)=110:=by assumption
   apply iM (i:=0) (j:=1) rfl rfl b_ (iR hp v cur 10 a_ a_ a_);intro wa wk wc;refine je ?_;intros;refine cQ ((i+2,T++[.two s[i+1]]),(tx,cur++[UInt8.ofNat (10:Int).toNat],cu),db bl,.slice wa wk wc,vt,vd) ?_ ?_ ⟨rfl,rfl,rfl,rfl,rfl,rfl,trivial⟩ rfl
   ·exact⟨m5 hT hA1 hA2 (by rw[hok];exact decide_eq_true a_),by simp;omega,.inr rfl,by rw[rS,hS,Jd hA1 a_];rfl⟩
   ·show s.length-(i+2)<s.length-i;omega
  ·have hq:(aa s (i+1):Int)=78:=by assumption
   apply iM (i:=0) (j:=1) rfl rfl b_ (iR hp v cur 10 a_ a_ a_);intro wa wk wc;refine je ?_;intros;refine cQ ((i+2,T++[.two s[i+1]]),(tx,cur++[UInt8.ofNat (10:Int).toNat],cu),db bl,.slice wa wk wc,vt,vd) ?_ ?_ ⟨rfl,rfl,rfl,rfl,rfl,rfl,trivial⟩ rfl
   ·exact⟨m5 hT hA1 hA2 (by rw[hok];exact decide_eq_true a_),by simp;omega,.inr rfl,by rw[rS,hS,Jd hA1 a_];rfl⟩
   ·show s.length-(i+2)<s.length-i;omega
  ·have q1:(aa s (i+1):Int)≠92:=by assumption
   have q2:(aa s (i+1):Int)≠44:=by assumption
   have q3:(aa s (i+1):Int)≠59:=by assumption
   have q4:(aa s (i+1):Int)≠110:=by assumption
   have q5:(aa s (i+1):Int)≠78:=by assumption
   have he:=Ee hT hA1 hA2 (by rw[hok];exact decide_eq_false a_);exact⟨_,Ug _,.inl ⟨_,_,he,rfl,rfl⟩⟩
 ·have k1:=hI (aa s i:Int) a_ (by have:=bB s i;omega);refine xw ?_;repeat' first|exact .n|apply Lc.mk
  all_goals intros
  ·have he:=Aw hT a_ (by assumption);exact⟨_,Ug _,.inl ⟨_,_,he,rfl,rfl⟩⟩
  ·have hlt:i<s.length:=by omega
   have hne:(aa s i:Int)≠92:=by assumption
   have hin:0<=aS a (aa s i:Int):=by assumption
   rw[QH hlt] at hin;refine Jp (i:=0) (j:=1) rfl rfl b_ (s3 cur a_) ?_;refine aH ?_;intros;refine Jp (i:=0) (j:=1) rfl rfl b_ Af ?_;refine je ?_;intros;refine cQ ((i+1,T++[.one s[i]]),(tx++[cur],[],cu++[s[i]]),.pointer none,gz,_,_) ?_ ?_ ⟨rfl,rfl,rfl,rfl,rfl,rfl,trivial⟩ ?_
   ·exact⟨wN hT hlt hne,by simp;omega,.inl rfl,by rw[Wb (TX hin),hS]⟩
   ·show s.length-(i+1)<s.length-i;omega
   ·dsimp only
    rw[<-cg,d_,d_,show gi (cu++[s[i]])=gi cu++[.int .u8 (aa s i:Int)] by rw[QH hlt];simp];rfl
  ·have hlt:i<s.length:=by omega
   have hne:(aa s i:Int)≠92:=by assumption
   have hin:aS a (aa s i:Int)<0:=by assumption
   rw[QH hlt] at hin;apply iM (i:=0) (j:=1) rfl rfl b_ (iR hp v cur (aa s i:Int) a_ a_ a_);intro wa wk wc;refine je ?_;intros;refine cQ ((i+1,T++[.one s[i]]),(tx,cur++[UInt8.ofNat ((aa s i:Int):Int).toNat],cu),db bl,.slice wa wk wc,vt,vd) ?_ ?_ ⟨rfl,rfl,rfl,rfl,rfl,rfl,trivial⟩ rfl
   ·exact⟨wN hT hlt hne,by simp;omega,.inr rfl,by rw[S5 (Qv hin),hS,sk hlt]⟩
   ·show s.length-(i+1)<s.length-i;omega
  ·have hlt:s.length<=i:=by omega
   refine Jp (i:=0) (j:=1) rfl rfl b_ (s3 cur a_) ?_;refine aH ?_;intros;obtain⟨he,ht⟩:=Ed hT hlt;refine⟨_,.cons _ (.cons _ (.refl _)),.inr ⟨he,_,_,rfl,?_⟩⟩;rw[xP he,Ik he,ht,hS];dsimp only
   rw[<-cg,d_];rfl
end
section
theorem Ox {R R':Seal}{a a' b b' c:AVal}{x:Value}(hle:R.le R')(h:bn R (.tuple [a,b,c]) x)(ha:∀v,bn R a v->bn R' a' v)(hb:∀v,bn R b v->bn R' b' v):bn R' (.tuple [a',b',c]) x:=by
 obtain⟨⟨ws,e,u,t,e1,hu,u2,t2,e2,hu2,u3,t3,e3,hu3,rfl⟩,h2⟩:=h;have k:=ha u ⟨hu.1,hu.2⟩;have k2:=hb u2 ⟨hu2.1,hu2.2⟩;have k3:=fx hle (show bn R c u3 from⟨hu3.1,hu3.2⟩);exact⟨⟨ws,e,_,_,e1,⟨k.1,k.2⟩,_,_,e2,⟨k2.1,k2.2⟩,_,_,e3,⟨k3.1,k3.2⟩,rfl⟩,h2⟩
theorem CO {R:Seal}{sz:Nat}{f:Nat->AVal}{v:Value}(h:bn R (.raw (.slice none 0 0)) v):bn R (.list sz 0 f) v:=by
 rw[aq] at h;subst h;exact⟨⟨none,0,rfl,Nat.le_refl _,.inl rfl⟩,rfl⟩
theorem mn {G:Glo}(s a:ω)(hl:s.length<=2000000):ai prog G 154 [.str s,.str a] (.tuple [.list 1 (Hb a s).length (aB (Hb a s)),.list 1 (Hc a s).length (y8 (Hc a s)),(a8 s 0).A]):=by
 refine dB (u7 s a hl) ?_;rintro r H (⟨e,p,he,rfl,rfl⟩|⟨he,vt,vc,rfl,rfl⟩)
 ·rintro C R w en hm ⟨x,rfl,hx⟩;rw[Pu he,WG he,he];exact⟨R,hm,x,rfl,Ox (Seal.le_refl R) hx (λv=>CO) (λv=>CO)⟩
 ·rintro C R w en hm ⟨x,rfl,hx⟩;obtain⟨R1,l1,m1,r1⟩:=hm.seal_row (f:=aB (Hb a s)) (gt _);obtain⟨R2,l2,m2,r2⟩:=m1.seal_row (f:=y8 (Hc a s)) (UD _);rw[he];exact⟨R2,m2,x,rfl,Ox (Seal.le_trans l1 l2) hx (λv h=>by rw[(aE.1 h).1];exact fx l2 r1) (λv h=>by rw[(aE.1 h).1];exact r2)⟩
theorem uo (s:ω):a8 s 0= .none\/∃e p,a8 s 0= .atp e p:=by
 rcases qm s.length s 0 (Nat.le_refl _) with k|⟨p,k⟩|⟨p,k⟩
 ·exact .inl k
 ·exact .inr ⟨_,_,k⟩
 ·exact .inr ⟨_,_,k⟩
theorem Pt {s:ω}(h:a8 s 0= .none):Hb [] s=[zp s]:=by
 rw[xP h,S6,Hr h];rfl
theorem MD (s:ω):Hb [44] s=jF s:=by
 rcases uo s with h|⟨e,p,h⟩
 ·rw[xP h,CX h,vQ,(J9 44 _).1,(J9 44 _).2]
 ·rw[Pu h,KK (by rw[h];exact λk=>by cases k)]
set_option maxHeartbeats 8000000
attribute [local irreducible] bJ au ax aR ab ad aa a8 bY Hb Hc zp jF
theorem zq {G:Glo}(s:ω)(hl:s.length<=2000000):ai prog G 101 [.str s] (.tuple [.str (zp s),(a8 s 0).A]):=by
 have hP:=mn (G:=G) s [] hl;rcases uo s with h|⟨e,p,h⟩
 ·rw[h,Pt h] at hP;rw[h];refine aw func101 call101 λC hC hGL=> ?_;exact bq
 ·rw[h] at hP;rw[h,Hs h];refine aw func101 call101 λC hC hGL=> ?_;exact bq
theorem L1 {G:Glo}(s:ω)(hl:s.length<=2000000):ai prog G 102 [.str s] (.tuple [.list 1 (jF s).length (aB (jF s)),(a8 s 0).A]):=by
 have hP:=mn (G:=G) s [44] hl;rw[MD] at hP;refine aw func102 call102 λC hC hGL=> ?_;exact bq
end
section
def F5 (l:List ω)(cuts:ω)(k:Nat):List (List ω):=((cuts.zip l.tail).take k).foldl qC [[l.headD []]]
theorem MX (l:List ω)(cuts:ω):F5 l cuts 0=[]++[[l.headD []]]:=rfl
theorem MY {l:List ω}{cuts:ω}(hl:l.length=cuts.length+1){k:Nat}(hk:k<cuts.length):F5 l cuts (k+1)=qC (F5 l cuts k) (cuts.getD k 0,l.getD (k+1) []):=by
 unfold F5;have h1:k<(cuts.zip l.tail).length:=by rw[List.length_zip,List.length_tail];omega
 rw[x_ h1,List.foldl_append];have e:(cuts.zip l.tail)[k]=(cuts.getD k 0,l.getD (k+1) []):=by
  have h2:k+1<l.length:=by omega
  rw[List.getElem_zip];simp[List.getD,hk,h2]
 rw[e];rfl
theorem QD {l:List ω}{cuts:ω}(hl:l.length=cuts.length+1):F5 l cuts cuts.length=F4 l cuts:=by
 unfold F5 F4;rw[u_ (by rw[List.length_zip];omega)]
theorem WD {s:ω}(h:a8 s 0= .none):(Hb [44,59] s).length=(Hc [44,59] s).length+1:=by
 rw[xP h,Ik h];have:=(J8 (bY s)).1;simp[this]
theorem WE {s:ω}(h:a8 s 0= .none):F4 (Hb [44,59] s) (Hc [44,59] s)=kw s:=by
 rw[xP h,Ik h,Kr h,T0];rfl
theorem Kk:∀T:List Tk,T.length<=(rawT T).length
 |[]=>Nat.le_refl _
 |t::T=>by
  have ih:=Kk T;rw[show rawT (t::T)=t.raw++rawT T from rfl,d_,j_];cases t with
  |one c=>show _<=1+_;omega
  |two d=>show _<=2+_;omega
theorem WF (a:ω)(s:ω):(Hc a s).length<=s.length:=by
 unfold Hc;split
 ·have h1:=(Ka a (bY s)).2.2;have h2:=Kk (bY s);rename_i he;rw[vL s.length s 0 (Nat.le_refl _) he] at h2;omega
 ·exact Nat.zero_le _
theorem Jc {A:List AVal}{x w:AVal}{N:Nat}(hA:A.length=N):(A++[x]).take N++[w]++(A++[x]).drop (N+1)=A++[w]:=by
 subst hA;simp
theorem SE {C:Ctx}{n:Nat}{e:Env}{I:List (List ω)}{l:List ω}{u:Value}{b cap m:Nat}(hm:m=(I++[l]).length+1):To C n e [.row u none 1 l.length (bu l),.row (.slice (some ⟨b,0,none⟩) m cap) none 1 m (gf I++[.own 0 u]++[.raw (.slice none 0 0)])] e
  [.row gz none 1 0 [],.row (.slice (some ⟨b,0,none⟩) ((I++[l]).length+1) cap) none 1 ((I++[l]).length+1) (gf (I++[l])++[.own 0 gz])]:=by
 subst hm;have hI:(gf I).length=I.length:=by simp[gf]
 have hI2:(gf (I++[l])).length=(I++[l]).length:=by simp[gf]
 refine ak (ji (i:=0) (k:=0) (p:=I.length) (aB l) rfl rfl (gt _) (λR hr=>.row (a:=.own 0 u) ?_ λ_=>ck hr)) ?_
 ·rw[An,G_ a_,hI,Nat.sub_self];rfl
 have e1:(gf I++[AVal.own 0 u]++[AVal.raw (.slice none 0 0)]).set I.length (.list 1 l.length (aB l))=gf (I++[l])++[.raw (.slice none 0 0)]:=by
  rw[An,List.set_append_right _ _ a_,hI,Nat.sub_self,<-tN,An];rfl
 rw[e1];refine ak (ep 1) (ak (BX (List.Perm.swap _ _ _)) ?_);have e2:(gf (I++[l])++[AVal.raw (.slice none 0 0)]).set (I++[l]).length (.own 0 (.slice none 0 0))=gf (I++[l])++[.own 0 gz]:=by
  rw[List.set_append_right _ _ a_,hI2,Nat.sub_self];rfl
 rw[<-e2];refine iq (i:=1) (p:=(I++[l]).length) (x:=.row (.slice (some ⟨b,0,none⟩) ((I++[l]).length+1) cap) none 1 ((I++[l]).length+1) (gf (I++[l])++[.raw (.slice none 0 0)])) (a':=.own 0 (.slice none 0 0)) rfl (λR=>.row (a:=.raw (.slice none 0 0)) ?_ λ_=>iy);rw[G_ a_,hI2,Nat.sub_self];rfl
set_option maxHeartbeats 8000000
attribute [local irreducible] bJ au ax aR ab ad aa a8 bY Hb Hc zp jF kw F5
theorem wQ {G:Glo}(s:ω)(hl:s.length<=2000000)(he:a8 s 0= .none):ad prog G 103 [.str s] [] (λr H=>∃I l u v,I++[l]=kw s/\r= .ret (.tuple [.own 1 v,.raw .nilIface])/\H=[.row u none 1 l.length (bu l),.row v none 1 (I.length+1) (gf I++[.own 0 u])]):=by
 have hP:=mn (G:=G) s [44,59] hl;rw[he] at hP;have hn:=WD he;have hg:=WE he;have hc:=WF [44,59] s;generalize Hb [44,59] s=L at*
 generalize Hc [44,59] s=cu at*
 refine aw func103 call103 λC hC hGL=> ?_;refine Sg ?_;intro va1 va vk1 vk vc1 vc hva1 hva;intros;obtain⟨bv,rfl,rfl⟩:=hva b_;refine WT hC hGL (λ(x:Nat×List (List ω)×List ω×Nat×Nat×Value)=>[(4,.list 1 L.length (aB L)),(7,.own 1 (.slice (some ⟨x.2.2.2.1,0,none⟩) (x.2.1.length+1) x.2.2.2.2.1)),(25,.list 1 cu.length (y8 cu)),(26,.int .i64 (cu.length:Nat)),(27,.int .i64 (x.1:Nat))])
  (λx=>[.row x.2.2.2.2.2 none 1 x.2.2.1.length (bu x.2.2.1),.row (.slice (some ⟨x.2.2.2.1,0,none⟩) (x.2.1.length+1) x.2.2.2.2.1) none 1 (x.2.1.length+1) (gf x.2.1++[.own 0 x.2.2.2.2.2])])
  (λx=>x.1<=cu.length/\x.2.1++[x.2.2.1]=F5 L cu x.1/\x.2.1.length<=x.1/\x.2.2.1.length<=x.1+1) (λx=>cu.length-x.1) (0,[],[L.getD 0 []],bv,vc,.slice va1 vk1 vc1) ?_ ?_ ?_
 ·refine⟨Nat.zero_le _,?_,Nat.le_refl _,Nat.le_refl _⟩;rw[MX];cases L<;>rfl
 ·exact bi ⟨rfl,rfl,rfl,rfl,rfl,trivial⟩ (At _)
 rintro⟨k,I,l,b,cap,u⟩ ⟨g1,g2,g3,g4⟩;dsimp only at g1 g2 g3 g4 ⊢;have hIl:(gf I).length=I.length:=by simp[gf]
 by_cases hk:k<cu.length
 ·have gs:=MY hn hk;rw[<-g2] at gs;by_cases hc59:cu.getD k 0=59
  ·have hcb:((cu.getD k 0).toNat:Int)=59:=by rw[hc59];rfl
   refine an ?_;intro va vk vc hva;intros;obtain⟨b2,rfl,rfl⟩:=hva a_;refine dC (e':=[(8,.int .i64 (k:Nat)),(10,.int .i64 ((I++[l]).length:Nat)),(4,.list 1 L.length (aB L)),(7,.own 1 (.slice (some ⟨b2,0,none⟩) ((I++[l]).length+1) vc)),(25,.list 1 cu.length (y8 cu)),(26,.int .i64 (cu.length:Nat)),(27,.int .i64 (k:Nat))]) (ak (bi (e':=[(8,.int .i64 (k:Nat)),(10,.int .i64 ((I++[l]).length:Nat)),(4,.list 1 L.length (aB L)),(7,.own 1 (.slice (some ⟨b2,0,none⟩) ((I++[l]).length+1) vc)),(25,.list 1 cu.length (y8 cu)),(26,.int .i64 (cu.length:Nat)),(27,.int .i64 (k:Nat))]) ⟨rfl,congrArg (λz=>some (AVal.int .i64 z)) (by rw[d_,Rf];omega),rfl,congrArg (λz=>some (AVal.own 1 (.slice (some ⟨b2,0,none⟩) z vc))) (by rw[d_];rfl),rfl,rfl,rfl,trivial⟩ (At _)) (SE (by rw[d_];rfl))) ?_;have hI2:(gf (I++[l])).length=(I++[l]).length:=by simp[gf]
   have hn2:(I++[l]).length=I.length+1:=by simp
   generalize hI3:I++[l]=I2 at*
   have q2:(gf I2++[AVal.own 0 gz])[I2.length]? =some (.own 0 gz):=by rw[G_ a_,hI2,Nat.sub_self];rfl
   have ra:bZ (.slice (some ⟨b2,0,none⟩) (I2.length+1) vc) b2 (I2.length+1):=⟨vc,rfl⟩;have ra2:bZ (.slice (some ⟨b2,0,none⟩) (I2.length+1) vc) b2 (I2.length+1)/\I2.length<(I2.length+1)*1:=⟨ra,a_⟩;refine a7 mixed hC hGL false (λ(_:Option Addr×Nat×Nat)=>[(4,.list 1 L.length (aB L)),(7,.own 1 (.slice (some ⟨b2,0,none⟩) (I2.length+1) vc)),(25,.list 1 cu.length (y8 cu)),(26,.int .i64 (cu.length:Nat)),(27,.int .i64 (k:Nat))]) (λy=>[.row (.slice y.1 y.2.1 y.2.2) none 1 (0+1) ([]++[.str (L.getD (k+1) [])]),.row (.slice (some ⟨b2,0,none⟩) (I2.length+1) vc) none 1 (I2.length+1) ((gf I2++[AVal.own 0 gz]).take I2.length++[.own 0 (.slice y.1 y.2.1 y.2.2)]++(gf I2++[AVal.own 0 gz]).drop (I2.length+1))]) .p18 be xu ?_;rintro⟨ya,yk,yc⟩;dsimp only
   rw[Jc hI2];refine an ?_;intros;refine DT (k+1,I2,[L.getD (k+1) []],b2,vc,.slice ya yk yc) ⟨hk,?_,by dsimp only;omega,by simp⟩ (show cu.length-(k+1)<cu.length-k by omega) ?_
   ·dsimp only
    rw[gs,show qC I2 (cu.getD k 0,L.getD (k+1) [])=yj (I2++[[]]) (L.getD (k+1) []) by unfold qC;rw[if_pos hc59],nZ];rfl
   ·dsimp only
    exact bi ⟨rfl,rfl,rfl,rfl,rfl,trivial⟩ (At _)
  ·have hcb:((cu.getD k 0).toNat:Int)≠59:=λh=>hc59 (UInt8.toNat_inj.1 (by have:(59:UInt8).toNat=59:=rfl;omega));have q2:(gf I++[AVal.own 0 u])[I.length]? =some (.own 0 u):=by rw[G_ a_,hIl,Nat.sub_self];rfl
   have ra:bZ (.slice (some ⟨b,0,none⟩) (I.length+1) cap) b (I.length+1):=⟨cap,rfl⟩;have ra2:bZ (.slice (some ⟨b,0,none⟩) (I.length+1) cap) b (I.length+1)/\I.length<(I.length+1)*1:=⟨ra,a_⟩;refine an ?_;intros;refine dC (e':=[(8,.int .i64 (k:Nat)),(10,.int .i64 (I.length:Nat)),(4,.list 1 L.length (aB L)),(7,.own 1 (.slice (some ⟨b,0,none⟩) (I.length+1) cap)),(25,.list 1 cu.length (y8 cu)),(26,.int .i64 (cu.length:Nat)),(27,.int .i64 (k:Nat))]) (bi ⟨rfl,congrArg (λz=>some (AVal.int .i64 z)) a_,rfl,rfl,rfl,rfl,rfl,trivial⟩ (At _)) ?_;refine a7 mixed hC hGL false (λ(_:Option Addr×Nat×Nat)=>[(4,.list 1 L.length (aB L)),(7,.own 1 (.slice (some ⟨b,0,none⟩) (I.length+1) cap)),(25,.list 1 cu.length (y8 cu)),(26,.int .i64 (cu.length:Nat)),(27,.int .i64 (k:Nat))]) (λy=>[.row (.slice y.1 y.2.1 y.2.2) none 1 (l.length+1) (bu l++[.str (L.getD (k+1) [])]),.row (.slice (some ⟨b,0,none⟩) (I.length+1) cap) none 1 (I.length+1) ((gf I++[AVal.own 0 u]).take I.length++[.own 0 (.slice y.1 y.2.1 y.2.2)]++(gf I++[AVal.own 0 u]).drop (I.length+1))]) .p18 be xu ?_;rintro⟨va,vk,vc⟩;dsimp only
   rw[Jc hIl];refine an ?_;intros;refine DT (k+1,I,l++[L.getD (k+1) []],b,cap,.slice va vk vc) ⟨hk,?_,Nat.le_succ_of_le g3,by simp;omega⟩ (show cu.length-(k+1)<cu.length-k by omega) ?_
   ·dsimp only
    rw[gs,show qC (I++[l]) (cu.getD k 0,L.getD (k+1) [])=yj (I++[l]) (L.getD (k+1) []) by unfold qC;rw[if_neg hc59],nZ]
   ·dsimp only
    rw[<-cg,d_];exact bi ⟨rfl,rfl,rfl,rfl,rfl,trivial⟩ (At _)
 ·refine an ?_;intros;refine⟨_,At _,I,l,u,_,?_,rfl,rfl⟩;rw[g2,show k=cu.length by omega,QD hn,hg]
theorem PU {C:Ctx}{R:Seal}{w:World}{I:List (List ω)}{l:List ω}{v u:Value}(hm:MS C R [.row u none 1 l.length (bu l),.row v none 1 (I.length+1) (gf I++[.own 0 u])] w):∃R',R.le R'/\MS C R' [] w/\bn R' (.list 1 (I++[l]).length (kx (I++[l]))) v:=by
 have hI:(gf I).length=I.length:=by simp[gf]
 obtain⟨R1,l1,m1,r1⟩:=MS.seal_row (f:=aB l) hm (gt _);have hc:mh R1 I.length (.list 1 l.length (aB l)) (.row v none 1 (I.length+1) (gf I++[.own 0 u])) _:=.row (a:=.own 0 u) (by rw[G_ a_,hI,Nat.sub_self];rfl) λ_=>ck r1;obtain⟨h1,h2⟩:=hc.holds (m1.heap.holds _ (z_ ..));have m2:=m1.setEnt (i:=0) rfl h2 h1;have e1:(gf I++[AVal.own 0 u]).set I.length (.list 1 l.length (aB l))=gf (I++[l]):=by
  rw[List.set_append_right _ _ a_,hI,Nat.sub_self,<-tN];rfl
 rw[e1] at m2;have e2:I.length+1=(I++[l]).length:=by simp
 rw[e2] at m2;obtain⟨R2,l2,m3,r2⟩:=MS.seal_row (f:=kx (I++[l])) m2 (Ku _);exact⟨R2,Seal.le_trans l1 l2,m3,r2⟩
theorem V0 {R R':Seal}{a a' b:AVal}{x:Value}(hle:R.le R')(h:bn R (.tuple [a,b]) x)(ht:∀v,bn R a v->bn R' a' v):bn R' (.tuple [a',b]) x:=by
 obtain⟨⟨ws,e,u,t,e1,hu,u2,t2,e2,hu2,rfl⟩,h2⟩:=h;have k:=ht u ⟨hu.1,hu.2⟩;have k2:=fx hle (show bn R b u2 from⟨hu2.1,hu2.2⟩);exact⟨⟨ws,e,_,_,e1,⟨k.1,k.2⟩,_,_,e2,⟨k2.1,k2.2⟩,rfl⟩,h2⟩
theorem HA {G:Glo}(s:ω)(hl:s.length<=2000000):ai prog G 103 [.str s] (.tuple [.list 1 (kw s).length (kx (kw s)),(a8 s 0).A]):=by
 rcases uo s with h|⟨e,p,h⟩
 ·rw[h];refine dB (wQ s hl h) ?_;rintro r H ⟨I,l,u,v,hg,rfl,rfl⟩;rintro C R w en hm ⟨x,rfl,hx⟩;obtain⟨R',hle,m2,hr⟩:=PU hm;rw[hg] at hr;exact⟨R',m2,x,rfl,V0 hle hx λv2 h=>by rw[(aE.1 h).1];exact hr⟩
 ·have hP:=mn (G:=G) s [44,59] hl;rw[h] at hP;rw[h,Ks (by rw[h];exact λk=>by cases k)];refine dB (H:=[]) (Qf:=λr H=>r= .ret (.tuple [.raw (.slice none 0 0),(Err.atp e p).A])/\H=[]) ?_ (λr H h=>by obtain⟨rfl,rfl⟩:=h;exact Cw);refine aw func103 call103 λC hC hGL=> ?_;exact bq
end
section
attribute [local irreducible] bJ au aa ax aR ab ad escF escS
theorem xE {G:Glo}(s:ω)(hl:s.length<=2000000):ai prog G 191 [.str s] (.str (escS s)):=by
 refine aw func191 call191 λC hC hGL=> ?_;refine aH ?_;intros;refine lp hC hGL (λi:Nat=>[(0,.str s),(3,.str (escS (s.take i))),(6,.int .i64 (s.length:Nat)),(7,.int .i64 (i:Nat))]) (λ_=>[]) (λi=>i<=s.length) (λi=>s.length-i) 0 (Nat.zero_le _) ⟨rfl,?_,rfl,rfl,trivial⟩ rfl ?_
 ·show some (AVal.str [])=some (AVal.str (escS (s.take 0)));rw[aaa,QU]
 ·intro i hi;have e1:=(sK (s.take i)).2;rw[i_,Nat.min_eq_left hi] at e1;by_cases hlt:i<s.length
  ·have et:=M9 hlt;have hb0:=Nv hlt;have hby:=bB s i;have hone:(s.take (i+1)).drop i=[s[i]]:=by rw[List.drop_take,show i+1-i=1 by omega,A_ hlt];rfl
   have hlo:((s.take (i+1)).drop i).length=1:=by rw[hone];rfl
   rcases(show(aa s i=92\/aa s i=44\/aa s i=59)\/aa s i=10\/(aa s i≠92/\aa s i≠44/\aa s i≠59/\aa s i≠10) by omega) with hk|hk|⟨k1,k2,k3,k4⟩
   ·have he:escF s[i]=[92]++(s.take (i+1)).drop i:=by
     rw[hone];rcases hk with hk|hk|hk
     all_goals rw[(Yv b_).2 (hb0.symm.trans hk)]
     ·exact Xe
     ·exact Xh
     ·exact Xg
    refine xw ?_;repeat' first|exact .n|apply Lc.mk
    all_goals intros
    all_goals first
     |(refine cQ (i+1) ?_ ?_ ⟨rfl,?_,rfl,rfl,trivial⟩ rfl;exact hlt;(show s.length-(i+1)<s.length-i;omega);(rw[et,he];rfl))
     |skip
   ·have he:escF s[i]=[92,110]:=by rw[(Yv b_).2 (hb0.symm.trans hk)];exact Xi
    refine xw ?_;repeat' first|exact .n|apply Lc.mk
    all_goals intros
    all_goals first
     |(refine cQ (i+1) ?_ ?_ ⟨rfl,?_,rfl,rfl,trivial⟩ rfl;exact hlt;(show s.length-(i+1)<s.length-i;omega);(rw[et,he];rfl))
     |skip
   ·have he:escF s[i]=(s.take (i+1)).drop i:=by
     rw[hone];exact Gm (by rw[<-hb0];exact k1) (by rw[<-hb0];exact k2) (by rw[<-hb0];exact k3) (by rw[<-hb0];exact k4)
    refine xw ?_;repeat' first|exact .n|apply Lc.mk
    all_goals intros
    all_goals first
     |(refine cQ (i+1) ?_ ?_ ⟨rfl,?_,rfl,rfl,trivial⟩ rfl;exact hlt;(show s.length-(i+1)<s.length-i;omega);(rw[et,he];rfl))
     |skip
  ·have h9:escS (s.take i)=escS s:=by rw[u_ a_]
   refine aH ?_;intros;apply aj;rw[h9]
end
section
theorem lG:∀(n:Nat) (s:ω),s.length<=n->(bY s).length<=s.length
 |_,[],_=>Nat.le_refl _
 |0,c::r,hn=>by simp at hn
 |n+1,c::r,hn=>by
  have hn:r.length<=n:=by simpa using hn
  by_cases hc:c=92
  ·subst hc;cases r with
   |nil=>simp[bY]
   |cons d r=>
    by_cases hd:okE d=true
    ·rw[oE hd];have:=lG n r (by simp at hn;omega);simp only[j_];omega
    ·simp[bY,hd]
  ·rw[oF hc];have:=lG n r hn;simp only[j_];omega
theorem SX (c:UInt8):∀T:List Tk,(∀T'∈(jn c T).1,T'.length<=T.length)/\(jn c T).2.length<=T.length/\(jn c T).1.length<=T.length:=by
 refine ij ⟨λ_ h=>by simp[jn] at h,Nat.le_refl _,Nat.le_refl _⟩ λT t ih=> ?_;obtain⟨h1,h2,h3⟩:=ih;rw[jm,d_,Rf];have h1':∀T'∈(jn c T).1,T'.length<=T.length+1:=λT' h=>Nat.le_succ_of_le (h1 T' h);cases t with
 |one b=>
  unfold jJ;by_cases hb:b=c
  ·simp only[hb,aap,d_,Rf,E_];refine⟨λT' h=> ?_,a_,a_⟩;rcases List.mem_append.1 h with h|h
   ·exact h1' T' h
   ·rw[List.mem_singleton.1 h];omega
  ·simp only[hb,aaq,d_,Rf];exact⟨h1',a_,a_⟩
 |two d=>
  unfold jJ;simp only[d_,Rf];exact⟨h1',a_,a_⟩
theorem wW (c:UInt8)(T:List Tk):(oM c T).length<=T.length+1/\∀T'∈oM c T,T'.length<=T.length:=by
 obtain⟨h1,h2,h3⟩:=SX c T;refine⟨by simp[oM];exact h3,λT' h=> ?_⟩;rcases List.mem_append.1 h with h|h
 ·exact h1 T' h
 ·rw[List.mem_singleton.1 h];exact h2
theorem FB (T:List Tk):(lstT T).length<=T.length+1:=by
 unfold lstT;rw[C_];exact(wW 44 T).1
theorem P9 (s:ω):(jF s).length<=s.length+1:=by
 unfold jF;split
 ·have h1:=FB (bY s);have h2:=lG s.length s (Nat.le_refl _);omega
 ·exact Nat.zero_le _
theorem Pq (s:ω):(kw s).length<=s.length+1/\∀l∈kw s,l.length<=s.length+1:=by
 have h2:=lG s.length s (Nat.le_refl _);obtain⟨h3,h4⟩:=wW 59 (bY s);unfold kw;split
 ·unfold qt;rw[C_];refine⟨a_,λl hl=> ?_⟩;obtain⟨T',hT,rfl⟩:=List.mem_map.1 hl;have h5:=FB T';have h6:=h4 T' hT;omega
 ·exact⟨Nat.zero_le _,λl h=>by cases h⟩
set_option maxHeartbeats 8000000
attribute [local irreducible] bJ au ax aR ab ad aa a8 bY zp jF kw escF escS
end
section
theorem SW (c:UInt8):∀T:List Tk,((jn c T).1.map List.length).sum+(jn c T).2.length<=T.length:=by
 refine ij (Nat.le_refl _) λT t ih=> ?_;rw[jm,d_,Rf];cases t with
 |one b=>
  unfold jJ;by_cases hb:b=c
  ·simp only[hb,aap,Nm,List.sum_append,S_,Z_,List.sum_cons,List.sum_nil,E_];omega
  ·simp only[hb,aaq,d_,Rf];omega
 |two d=>
  unfold jJ;simp only[d_,Rf];omega
theorem Qg (l:List ω):Lib.lens l=(l.map List.length).sum:=by
 induction l with
 |nil=>rfl
 |cons x l ih=>
  have e1:Lib.lens (x::l)=x.length+Lib.lens l:=by simp[Lib.lens]
  rw[e1,ih,S_,List.sum_cons]
theorem A3 (T:List Tk):Lib.lens (lstT T)<=T.length:=by
 have h:=SW 44 T;have e:(jf:List Tk->ω)=λT=>T.map Tk.val:=rfl;rw[Qg,vQ,Nm,List.sum_append,List.map_map];have e2:(List.length∘jf:List Tk->Nat)=List.length:=by funext T;simp[jf]
 rw[e2];simp only[S_,Z_,List.sum_cons,List.sum_nil,jf,C_];omega
theorem SA (s:ω):(zp s).length<=s.length:=by
 unfold zp;split
 ·have:=lG s.length s (Nat.le_refl _);rw[C_];exact this
 ·exact Nat.zero_le _
theorem L8 {s:ω}(hs:s.length<=1900000):Small [jF s]:=by
 refine⟨by simp,λk=> ?_⟩;cases k with
 |zero=>
  refine⟨by have:=P9 s;show(jF s).length<=_;omega,?_⟩;show Lib.lens (jF s)<=_;unfold jF;split
  ·have h1:=A3 (bY s);have h2:=lG s.length s (Nat.le_refl _);omega
  ·exact Nat.zero_le _
 |succ k=>
  simp[Lib.lens]
theorem L7 {s:ω}(hs:s.length<=1900000):Small (kw s):=by
 obtain⟨h1,h2⟩:=Pq s;refine⟨a_,λk=> ?_⟩;by_cases hk:k<(kw s).length
 ·rw[f_,y_ hk,aam];have hm:=K_ hk;refine⟨by have:=h2 _ hm;omega,?_⟩;generalize (kw s)[k]=l at*
  unfold kw at hm;split at hm
  ·unfold qt at hm;obtain⟨T,hT,rfl⟩:=List.mem_map.1 hm;have h3:=A3 T;have h4:=(wW 59 (bY s)).2 T hT;have h5:=lG s.length s (Nat.le_refl _);omega
  ·cases hm
 ·rw[f_,P_ a_,Option.getD_none];exact⟨Nat.zero_le _,Nat.zero_le _⟩
theorem jP:Small []:=⟨Nat.zero_le _,λk=>by rw[List.getD_nil];exact⟨Nat.zero_le _,Nat.zero_le _⟩⟩
theorem N8 {s:ω}(hs:s.length<=10000)(k:Int):(nx s k).1.s.length<=s.length/\Small (nx s k).1.L:=by
 have hG:(om s k).1.s.length<=s.length/\Small (om s k).1.L:=by
  have hu:=SA s;unfold om
  (repeat' split)<;>first
   |exact⟨by show(zp s).length<=_;omega,jP⟩
   |exact⟨Nat.zero_le _,L8 a_⟩
   |exact⟨Nat.zero_le _,L7 a_⟩
   |exact⟨by show s.length<=_;omega,jP⟩
   |exact⟨Nat.zero_le _,jP⟩
 unfold nx;split
 ·exact⟨Nat.zero_le _,jP⟩
 split
 ·exact⟨Nat.zero_le _,jP⟩
 split
 ·exact hG
 ·exact⟨Nat.zero_le _,jP⟩
end
section
abbrev mG (b a:Nat):HEnt:=.cells b (some 3) [.int .i64 (a:Nat)]
abbrev la (b:Nat)(s:ω):HEnt:=.cells b (some 9) [.str s]
abbrev oz (b:Nat)(c:Bool):HEnt:=.cells b (some 4) [.bool c]
def PJ (s:ω)(a:Nat):Nat:=if a<s.length then aa s a else 0
theorem PI {s:ω}{a:Nat}{c:Int}(h:c≠0):(PJ s a:Int)=c↔eJ s a c=true:=by
 unfold PJ;rw[cK];split<;>omega
theorem AS {s:ω}{a:Nat}{c:Int}(h:c≠0)(k:eJ s a c=true):(PJ s a:Int)=c:=(PI h).2 k
theorem AT {s:ω}{a:Nat}{c:Int}(h:c≠0)(k:eJ s a c=false):(PJ s a:Int)≠c:=λe=>by rw[(PI h).1 e] at k;cases k
attribute [local irreducible] bJ au aa ax aR ab ad iJ fo dm isS cB aU
theorem EU {G:Glo}(ba bs:Nat)(s:ω)(a:Nat)(hl:s.length<=1000000)(ha:a<=s.length):ad prog G 66 [.raw (pS ba),.raw (pS bs)] [mG ba a,la bs s]
  (λr H=>r= .ret (.int .u8 (PJ s a:Nat))/\H=[mG ba a,la bs s]):=by
 have hGL:ab G []:=al;refine lU [(0,0,pS ba),(1,1,pS bs)] func66 call66 rfl rfl rfl rfl (by repeat (first|exact trivial|refine And.intro ⟨rfl,rfl⟩ ?_)) ?_;intro C hC;by_cases h:a<s.length
 ·have e:PJ s a=aa s a:=if_pos h;rw[e];exact ar hC hGL bq
 ·have e:PJ s a=0:=if_neg h;rw[e];exact ar hC hGL bq
theorem Pf {G:Glo}(ba bs:Nat)(s:ω)(a:Nat)(hl:s.length<=1000000)(ha:a<=s.length):ad prog G 67 [.raw (pS ba),.raw (pS bs)] [mG ba a,la bs s]
  (λr H=>(∃w j,bF s a= .ok (w,j)/\r= .ret (.str w)/\H=[mG ba j,la bs s])\/(∃e p j,bF s a= .bad e p/\r= .panic (qZ e p)/\H=[mG ba j,la bs s])):=by
 have hI:=λt h=>tM (G:=G) t h;have hc:=call68;have hT:=λe p=>pV (G:=G) e p;have hGL:ab G []:=al;refine lU [(0,0,pS ba),(1,1,pS bs)] func67 call67 rfl rfl rfl rfl (by repeat (first|exact trivial|refine And.intro ⟨rfl,rfl⟩ ?_)) ?_;intro C hC;refine ar hC hGL (aH ?_);refine lp hC hGL (λx:Nat=>[(0,.own 0 (pS ba)),(1,.own 1 (pS bs)),(3,.int .i64 (x:Nat))]) (λx=>[mG ba a,la bs s]) (λx=>a+x<=s.length/\eZ aU s (a+x)=eZ aU s a) (λx=>s.length-x) 0 ⟨ha,rfl⟩ ae rfl ?_;rintro x ⟨h2,h3⟩;have hlen:((s.take (a+x)).drop a).length<=9223372036854775807:=by rw[k_,i_];omega
 have k2:=hI ((s.take (a+x)).drop a) hlen;have fin:eZ aU s a=a+x->(isS ((s.take (a+x)).drop a)=true->bF s a= .ok ((s.take (a+x)).drop a,a+x))/\(isS ((s.take (a+x)).drop a)=false->bF s a= .bad 5 a):=λhsp=>
  ⟨λhw=>by unfold bF;rw[hsp,if_pos hw],λhw=>by unfold bF;rw[hsp,if_neg (by rw[hw];decide)]⟩
 by_cases hx:a+x<s.length
 ·have k1:ai prog G 68 [.str ((s.take (a+x+1)).drop (a+x))] (.bool (aU (aa s (a+x):Int))):=by
   have:=hI ((s.take (a+x+1)).drop (a+x)) (by rw[k_,i_];omega);rwa [xU hx] at this
  cases hk:aU (aa s (a+x):Int) with
  |true=>
   rw[hk] at k1;refine aH ?_;intros;exact cQ (x+1) ⟨a_,(rO hx hk).symm.trans h3⟩ a_ ae rfl
  |false=>
   rw[hk] at k1;have hf:=fin (h3.symm.trans (nG hk));cases hw:isS ((s.take (a+x)).drop a) with
   |true=>
    have hr:=hf.1 hw;rw[hw] at k2;refine aH ?_;intros;exact⟨_,At _,.inl ⟨_,_,hr,rfl,rfl⟩⟩
   |false=>
    have hr:=hf.2 hw;rw[hw] at k2;refine aH ?_;intros;refine cd (hT 5 a) ?_;exact⟨_,At _,.inr ⟨_,_,_,hr,rfl,rfl⟩⟩
 ·have hf:=fin (h3.symm.trans (oO a_));cases hw:isS ((s.take (a+x)).drop a) with
  |true=>
   have hr:=hf.1 hw;rw[hw] at k2;refine aH ?_;intros;exact⟨_,At _,.inl ⟨_,_,hr,rfl,rfl⟩⟩
  |false=>
   have hr:=hf.2 hw;rw[hw] at k2;refine aH ?_;intros;refine cd (hT 5 a) ?_;exact⟨_,At _,.inr ⟨_,_,_,hr,rfl,rfl⟩⟩
end
section
abbrev nxF (i j ba bs:Nat):AVal:=.func (.func 66) [] [.own i (pS ba),.own j (pS bs)]
abbrev rF (b i j ba bs:Nat):HEnt:=.cells b (some 143) [nxF i j ba bs]
theorem Qu {a b c d:UInt8}(r:Int):(0<=aS [a,b,c,d] r↔∃x∈[a,b,c,d],r=x.toNat):=by
 unfold aS;simp only[kE,p_,t_,or_false,exists_eq_or_imp,exists_eq_left];split
 ·omega
 ·split
  ·omega
  ·split
   ·omega
   ·split<;>omega
theorem QY {q:Bool}{c:Int}:Aa q c=decide (0<=(if q then aS [34] c else aS [44,59,58,34] c)):=by
 have e0:((34:UInt8).toNat:Int)=34:=by decide
 have e1:0<=aS [34] c↔c=34:=by
  unfold aS;simp only[kE];split<;>omega
 have e2:0<=aS [44,59,58,34] c↔(c=44\/c=59\/c=58\/c=34):=by
  have:=Qu (a:=44) (b:=59) (c:=58) (d:=34) c;rw[this];simp
 rw[w_,Jg,n_];cases q with
 |true=>rw[if_pos rfl,e1];simp
 |false=>rw[if_neg b_,e2];simp;omega
theorem Dn (is:List Nat){P:Program}[Tab P]{G:Glo}{f:FuncId}{avs:List AVal}{H H1:Heap}{K Kp:AVal->Heap->Prop}{v:AVal}(hs:ad P G f avs H1 (λr H=>r= .ret v/\H=H1))(e1:xO is H=H1)(k:K v H):Cx P G f avs H K Kp:=
 Dm is hs e1 (by rintro v H1' ⟨e,rfl⟩;cases e;exact⟨H,e1,rfl,k⟩) (by rintro v H1' ⟨e,_⟩;cases e)
attribute [local irreducible] bJ au aa ax aR ab ad iJ fo dm isS cB aU
theorem Tj {G:Glo}{m:Int}(hM:ab G (bQ m))(bf i0 j0 ba bs bc:Nat)(s:ω)(a:Nat)(cr:Bool)(hl:s.length<=1000000)(ha:a<=s.length):
  ad prog G 69 [.raw (pS bf),.raw (pS ba),.raw (pS bs),.raw (pS bc)] [rF bf i0 j0 ba bs,mG ba a,la bs s,oz bc cr]
  (λr H=>(∃v j,cw cr s a= .ok (v,j)/\r= .ret (.str v)/\H=[rF bf i0 j0 ba bs,mG ba j,la bs s,oz bc cr])\/(∃e p j,cw cr s a= .bad e p/\r= .panic (qZ e p)/\H=[rF bf i0 j0 ba bs,mG ba j,la bs s,oz bc cr])):=by
 have hX:=λl c h0 h1=>aK (G:=G) l c h0 h1;have hN:=λc=>mt (G:=G) c;have hT:=λe p=>pV (G:=G) e p;have hD:=λt h=>Id (G:=G) hM t h;have hNx:=EU (G:=G) ba bs s a hl ha;have hq:=rG s a;have hGL:ab G []:=al;refine lU [(0,0,pS bf),(1,1,pS ba),(2,2,pS bs),(3,3,pS bc)] func69 call69 rfl rfl rfl rfl (by repeat (first|exact trivial|refine And.intro ⟨rfl,rfl⟩ ?_)) ?_;intro C hC;refine cut hC hGL [(0,.own 0 (pS bf)),(1,.own 1 (pS ba)),(2,.own 2 (pS bs)),(3,.own 3 (pS bc))] [rF bf i0 j0 ba bs,mG ba a,la bs s,oz bc cr] True eK λ_=> ?_;refine cut hC hGL [(0,.own 0 (pS bf)),(1,.own 1 (pS ba)),(2,.own 2 (pS bs)),(3,.own 3 (pS bc)),(5,.str [44,59,58,34])] [rF bf i0 j0 ba bs,mG ba a,la bs s,oz bc cr] True eK λ_=> ?_
 refine cut hC hGL [(0,.own 0 (pS bf)),(1,.own 1 (pS ba)),(2,.own 2 (pS bs)),(3,.own 3 (pS bc)),(5,.str [44,59,58,34]),(6,.bool (eJ s a 34))] [rF bf i0 j0 ba bs,mG ba a,la bs s,oz bc cr] True ?_ λ_=> ?_
 ·rcases Bool.eq_false_or_eq_true (eJ s a 34) with h|h
  ·have e1:=AS b_ h
   have e2:=(cK.1 h).1
   rw[e1] at hNx
   rw[show eJ s a 34=nT (a:Int) (s.length:Int) from h.trans (oo.2 a_).symm]
   refine an ?_
   refine Dn [1,1] hNx rfl ?_
   exact eK
  ·have e1:=AT b_ h
   rw[h]
   refine an ?_
   refine Dn [1,1] hNx rfl ?_
   exact eK
 refine cut hC hGL [(0,.own 0 (pS bf)),(1,.own 1 (pS ba)),(2,.own 2 (pS bs)),(3,.own 3 (pS bc)),(5,.str (if eJ s a 34 then[34] else[44,59,58,34])),(6,.bool (eJ s a 34))] [rF bf i0 j0 ba bs,mG ba (gW s a),la bs s,oz bc cr] True ?_ λ_=> ?_
 ·cases h:eJ s a 34 with
  |true=>
   have e2:=(cK.1 h).1
   have e3:gW s a=a+1:=by unfold gW;rw[h,if_pos rfl]
   rw[e3,if_pos rfl]
   exact eK
  |false=>
   have e3:gW s a=a:=by unfold gW;rw[h,if_neg b_]
   rw[e3,if_neg b_]
   exact eK
 refine ar hC hGL (an ?_)
 intros
 have hlv:(if eJ s a 34 then[34] else[44,59,58,34]:ω).length<=4:=by split<;>decide
 have hE:=λc=>QY (q:=eJ s a 34) (c:=c)
 have hEq:∀c,(if eJ s a 34 then aS [34] c else aS [44,59,58,34] c)=aS (if eJ s a 34 then[34] else[44,59,58,34]) c:=λc=>by split<;>rfl
 simp only[hEq] at hE
 generalize (if eJ s a 34 then[34] else[44,59,58,34]:ω)=ends at*
 refine lp hC hGL (λx:Nat=>[(1,.own 1 (pS ba)),(2,.own 2 (pS bs)),(3,.own 3 (pS bc)),(5,.str ends),(6,.bool (eJ s a 34)),(7,.int .i64 (gW s a:Nat))]) (λx=>[rF bf i0 j0 ba bs,mG ba x,la bs s,oz bc cr]) (λx=>gW s a<=x/\x<=s.length/\eZ (NU (eJ s a 34)) s x=mj s a) (λx=>s.length-x) (gW s a) ⟨Nat.le_refl _,hq.2.2 ha,rfl⟩ ae rfl ?_
 rintro x ⟨h1,h2,h3⟩
 have hlv:((s.take x).drop (gW s a)).length<=1000000:=by rw[k_,i_];omega
 have hd:=hD ((s.take x).drop (gW s a)) hlv
 have fin:∀{v:ω} {j:Nat} {w:AVal} {H:Heap},cw cr s a= .ok (v,j)->w= .str v->H=[rF bf i0 j0 ba bs,mG ba j,la bs s,oz bc cr]->Rt (λr H=>(∃v j,cw cr s a= .ok (v,j)/\r= .ret (.str v)/\H=[rF bf i0 j0 ba bs,mG ba j,la bs s,oz bc cr])\/(∃e p j,cw cr s a= .bad e p/\r= .panic (qZ e p)/\H=[rF bf i0 j0 ba bs,mG ba j,la bs s,oz bc cr])) w H:=by
  rintro v j w H h1 rfl rfl
  exact⟨_,At _,.inl ⟨_,_,h1,rfl,rfl⟩⟩
 have bad:∀{e p:Int} {n j:Nat} {H:Heap},cw cr s a= .bad e n->p=n->H=[rF bf i0 j0 ba bs,mG ba j,la bs s,oz bc cr]->Pn (λr H=>(∃v j,cw cr s a= .ok (v,j)/\r= .ret (.str v)/\H=[rF bf i0 j0 ba bs,mG ba j,la bs s,oz bc cr])\/(∃e p j,cw cr s a= .bad e p/\r= .panic (qZ e p)/\H=[rF bf i0 j0 ba bs,mG ba j,la bs s,oz bc cr])) (qZ e p) H:=by
  rintro e p n j H h1 rfl rfl
  exact⟨_,At _,.inr ⟨_,_,_,h1,rfl,rfl⟩⟩
 by_cases hx:x<s.length
 ·have hb:=bB s x
  have hx1:=hX ends (aa s x:Int) a_ a_
  have hn1:=hN (aa s x:Int)
  have he:=hE (aa s x:Int)
  generalize aS ends (aa s x:Int)=ix at hx1 he
  cases hk:Aa (eJ s a 34) (aa s x:Int) with
  |false=>
   have hix:ix<0:=by
    rw[hk] at he
    have:=of_decide_eq_false he.symm
    omega
   cases hc:iJ false (aa s x:Int) with
   |false=>
    rw[hc] at hn1
    have hgo:NU (eJ s a 34) (aa s x:Int)=true:=by unfold NU;rw[hk,hc];rfl
    refine aH ?_
    intros
    exact cQ (x+1) ⟨a_,a_,(rO hx hgo).symm.trans h3⟩ a_ ae rfl
   |true=>
    rw[hc] at hn1
    have hJ:mj s a=x:=h3.symm.trans (nG (by unfold NU;rw[hk,hc];rfl))
    have hv:cw cr s a= .bad 3 x:=by unfold cw;rw[hJ,if_pos ⟨hx,hk⟩]
    refine aH ?_
    intros
    refine cd (hT 3 x) ?_
    exact bad hv rfl rfl
  |true=>
   have hix:0<=ix:=by
    rw[hk] at he
    exact of_decide_eq_true he.symm
   have hJ:mj s a=x:=h3.symm.trans (nG (by unfold NU;rw[hk];rfl))
   cases hqa:eJ s a 34 with
   |true=>
    have hv:cw cr s a= .ok (NW cr ((s.take x).drop (gW s a)),x+1):=by
     unfold cw
     rw[hJ,if_neg (by rw[hk];simp),hqa,if_neg b_,if_pos hx]
    cases cr with
    |true=>
     refine aH ?_
     intros
     exact fin hv rfl rfl
    |false=>
     refine aH ?_
     intros
     exact fin hv rfl rfl
   |false=>
    have hv:cw cr s a= .ok (NW cr ((s.take x).drop (gW s a)),x):=by
     unfold cw
     rw[hJ,hk,if_neg (by simp),if_pos hqa]
    cases cr with
    |true=>
     refine aH ?_
     intros
     exact fin hv rfl rfl
    |false=>
     refine aH ?_
     intros
     exact fin hv rfl rfl
 ·have hJ:mj s a=x:=h3.symm.trans (oO a_)
  cases hqa:eJ s a 34 with
  |true=>
   have hv:cw cr s a= .bad 7 x:=by
    unfold cw
    rw[hJ,hqa,if_neg a_,if_neg b_,if_neg hx]
   refine aH ?_
   intros
   refine cd (hT 7 x) ?_
   exact bad hv rfl rfl
  |false=>
   have hv:cw cr s a= .ok (NW cr ((s.take x).drop (gW s a)),x):=by
    unfold cw
    rw[hJ,hqa,if_neg a_,if_pos rfl]
   cases cr with
   |true=>
    refine aH ?_
    intros
    exact fin hv rfl rfl
   |false=>
    refine aH ?_
    intros
    exact fin hv rfl rfl
end
section
abbrev jy (b:Nat)(e p:Int):HEnt:=.cells b (some 25) [.int .i64 e,.int .i64 p]
abbrev No (b5:Nat):Deferred:={target:=.fn (.func 21) #[],args:=#[pS b5]}
abbrev Jm (b4 b5:Nat):Deferred:={target:=.fn (.func 64) #[pS b5,pS b4],args:=#[]}
theorem P8 {P:Program}[Tab P]{G:Glo}{n:Nat}{rs:List ResultVar}{env:Env}{H H':Heap}{D:List Deferred}{m:fL}{Qf:co->Heap->Prop}(hs:H'.Sublist H)(h:Lv P G n rs env D m H' Qf):Lv P G n rs env D m H Qf:=by
 unfold Lv at*
 intro C R a w fn u D0 hC hrs hm hf hu;exact h C R a w fn u D0 hC hrs (hm.drop hs) hf hu
section
variable {c:Bool} {s:ω} {e:Int} {p:Nat}
theorem wA {a:Nat}(h:bF s a= .bad e p):e≠0:=by
 unfold bF at h;split at h
 ·cases h
 ·cases h;decide
theorem St {a:Nat}(h:cw c s a= .bad e p):e≠0:=by
 unfold cw at h
 (repeat' split at h)<;>(cases h;try decide)
theorem D4:∀(n:Nat) {a:Nat} {acc:List ω},s.length-a<=n->ei c s a acc= .bad e p->e≠0
 |n,a,acc,hn,h=>by
  cases hv:cw c s a with
  |bad e' p'=>rw[gH hv] at h;cases h;exact St hv
  |ok x=>
   obtain⟨v,d⟩:=x
   have h1:=jg hv
   cases hb:eJ s d 44 with
   |true=>
    have h2:=cK.1 hb
    rw[mX hv hb] at h
    cases n with
    |zero=>omega
    |succ n=>exact D4 n a_ h
   |false=>rw[lv hv hb] at h;cases h
theorem Fd:∀(n:Nat) {a:Nat} {acc:List Pr},s.length-a<=n->cG c s a acc= .bad e p->e≠0
 |n,a,acc,hn,h=>by
  cases hq:eJ s a 59 with
  |false=>rw[iW hq] at h;cases h
  |true=>
   have h1:=cK.1 hq;cases hw:bF s (a+1) with
   |bad e' p'=>rw[gx hq hw] at h;cases h;exact wA hw
   |ok x=>
    obtain⟨w,j⟩:=x;have h2:=de hw;cases hj:eJ s j 61 with
    |false=>rw[kA hq hw hj] at h;cases h;decide
    |true=>
     cases hv:ei c s (j+1) [] with
     |bad e' p'=>rw[fe hq hw hj hv] at h;cases h;exact D4 _ (Nat.le_refl _) hv
     |ok x=>
      obtain⟨vs,d⟩:=x;have h3:=ki _ (Nat.le_refl _) hv;by_cases h20:acc.length=20
      ·rw[iV hq hw hj hv h20] at h;cases h;decide
      ·rw[ky hq hw hj hv h20] at h;cases n with
       |zero=>omega
       |succ n=>exact Fd n a_ h
theorem FK (h:dI c s= .bad e p):e≠0:=by
 unfold dI at h;split at h
 ·cases hh:fI s with
  |bad e' p'=>
   rw[hh] at h;cases h;unfold fI at hh;cases hw:bF s 0 with
   |bad e'' p''=>rw[hw] at hh;cases hh;exact wA hw
   |ok x=>
    obtain⟨w,j⟩:=x;rw[hw] at hh;dsimp only at hh;split at hh
    ·cases hv:bF s (j+1) with
     |bad e'' p''=>rw[hv] at hh;cases hh;exact wA hv
     |ok x=>rw[hv] at hh;cases hh
    ·cases hh
  |ok x=>
   obtain⟨⟨g,n⟩,a⟩:=x;rw[hh] at h;dsimp only at h;cases hp:cG c s a [] with
   |bad e' p'=>rw[hp] at h;cases h;exact Fd _ (Nat.le_refl _) hp
   |ok x=>
    obtain⟨ps,b⟩:=x;rw[hp] at h;dsimp only at h;unfold jk at h
    (repeat' split at h)<;>(cases h;try decide)
 ·cases h;decide
end
attribute [local irreducible] bJ au aa ax aR ab ad iJ fo dm isS cB aU dG To dS Lv gj
theorem oU {G:Glo}(b4 b5:Nat)(g n v:ω)(q:AVal)(e p:Int):dS prog G 64 [.own 1 (pS b5),.own 0 (pS b4)] .ret [mU b4 g n q v,jy b5 e p]
  (λr m H=>m= .ret/\r= .ret (.tuple [])/\H=[if e=0 then mU b4 g n q v else mU b4 [] [] kN [],jy b5 e p]):=by
 have hGL:ab G []:=al;have hI:=gM (G:=G) e p;refine vY (rs:=[]) (GL:=[]) func64 rfl rfl rfl rfl hGL ?_;intro C hC;by_cases he:e=0
 ·rw[fJ.2 he] at hI;rw[if_pos he];exact bq
 ·rw[k9.2 he] at hI;rw[if_neg he];exact bq
section
variable {G:Glo} {n:Nat} {env:Env} {Qf:co->Heap->Prop} {b4 b5:Nat} {T:Heap} {q:AVal} {y z:AVal} {e p:Int} {g m v:ω}
theorem KL (h4:Env.get env 4=some (.own 2 (pS b4)))(h5:Env.get env 5=some (.own 3 (pS b5))){H':Heap}(hs:H'.Sublist T)(hq:Qf (.ret (.tuple [.agg [.str g,.str m,q,.str v],.agg [.int .i64 e,.int .i64 p]])) H'):
  Lv prog G n [.cell 4 97,.cell 5 25] env [] .ret (mU b4 g m q v::jy b5 e p::T) Qf:=by
 refine Vj ⟨[.agg [.str g,.str m,q,.str v],.agg [.int .i64 e,.int .i64 p]],H',⟨_,_,rfl,⟨b4,0,_,_,_,.inr ⟨2,h4⟩,rfl,rfl,rfl,.inl ⟨rfl,rfl⟩⟩,_,_,rfl,⟨b5,1,_,_,_,.inr ⟨3,h5⟩,rfl,rfl,rfl,.inl ⟨rfl,rfl⟩⟩,rfl⟩,(hs.cons _).cons _,hq⟩
theorem TJ (h4:Env.get env 4=some (.own 2 (pS b4)))(h5:Env.get env 5=some (.own 3 (pS b5)))(he:e≠0)(hq:Qf (.ret (.tuple [.agg [.str [],.str [],kN,.str []],.agg [.int .i64 e,.int .i64 p]])) []):
  Lv prog G n [.cell 4 97,.cell 5 25] env [Jm b4 b5] .ret (mU b4 g m q v::jy b5 e p::T) Qf:=by
 have h1:=oU (G:=G) b4 b5 g m v q e p;rw[if_neg he] at h1;refine iz (pr T h1) (λR=>⟨_,_,rfl,aE.2 ⟨rfl,rfl⟩,_,_,rfl,aE.2 ⟨rfl,rfl⟩,rfl⟩) call64 ?_;exact KL h4 h5 (Ug _) hq
theorem Iw {c0 c1:HEnt}(h4:Env.get env 4=some (.own 2 (pS b4)))(h5:Env.get env 5=some (.own 3 (pS b5)))(he:e≠0)(hq:Qf (.ret (.tuple [.agg [.str [],.str [],kN,.str []],.agg [.int .i64 e,.int .i64 p]])) []):
  Lv prog G n [.cell 4 97,.cell 5 25] env [No b5,Jm b4 b5] (.pan (qZ e p)) (c0::c1::mU b4 g m q v:: .cells b5 (some 25) [y,z]::T) Qf:=by
 refine P8 (H':=mU b4 g m q v:: .cells b5 (some 25) [y,z]::T) ((At _).cons _ |>.cons _) ?_;refine iz (Lr (i:=1) rfl (xz b5 e p y z)) (λR=>⟨_,_,rfl,aE.2 ⟨rfl,rfl⟩,rfl⟩) call21 ?_;exact TJ h4 h5 he hq
theorem Qa {c0 c1:HEnt}(h4:Env.get env 4=some (.own 2 (pS b4)))(h5:Env.get env 5=some (.own 3 (pS b5))){H':Heap}(hs:H'.Sublist T)(hq:Qf (.ret (.tuple [.agg [.str g,.str m,q,.str v],.agg [.int .i64 0,.int .i64 p]])) H'):
  Lv prog G n [.cell 4 97,.cell 5 25] env [No b5,Jm b4 b5] .ret (c0::c1::mU b4 g m q v::jy b5 0 p::T) Qf:=by
 refine P8 (H':=mU b4 g m q v::jy b5 0 p::T) ((At _).cons _ |>.cons _) ?_;refine iz (Lr (i:=0) rfl (sd b5 _)) (λR=>⟨_,_,rfl,aE.2 ⟨rfl,rfl⟩,rfl⟩) call21 ?_;have h1:=oU (G:=G) b4 b5 g m v q 0 p;rw[if_pos rfl] at h1;refine iz (pr T h1) (λR=>⟨_,_,rfl,aE.2 ⟨rfl,rfl⟩,_,_,rfl,aE.2 ⟨rfl,rfl⟩,rfl⟩) call64 ?_;exact KL h4 h5 hs hq
end
section
variable {G:Glo} {K Kp:AVal->Heap->Prop} {b7 b2 b3 b8:Nat} {s:ω} {a:Nat} {cr:Bool} {c1 c2 c3 c5:HEnt} {T:Heap} {m:Int}
theorem eI (hl:s.length<=1000000)(ha:a<=s.length)(k:K (.int .u8 (PJ s a:Nat)) (la b2 s::c1::c2::c3::mG b7 a::c5::T)):Cx prog G 66 [.raw (pS b7),.raw (pS b2)] (la b2 s::c1::c2::c3::mG b7 a::c5::T) K Kp:=
 Dn [4,0] (EU b7 b2 s a hl ha) rfl k
theorem yW (hl:s.length<=1000000)(ha:a<=s.length)(k:∀w j,bF s a= .ok (w,j)->K (.str w) (la b2 s::c1::c2::c3::mG b7 j::c5::T))(k2:∀(e:Int) (p:Nat) j,bF s a= .bad e p->Kp (qZ e p) (la b2 s::c1::c2::c3::mG b7 j::c5::T)):
  Cx prog G 67 [.raw (pS b7),.raw (pS b2)] (la b2 s::c1::c2::c3::mG b7 a::c5::T) K Kp:=by
 refine Dm [4,0] (Pf b7 b2 s a hl ha) rfl ?_ ?_
 ·rintro v H1' (⟨w,j,h1,e,rfl⟩|⟨_,_,_,_,e,_⟩)
  ·cases e;exact⟨la b2 s::c1::c2::c3::mG b7 j::c5::T,rfl,rfl,k w j h1⟩
  ·cases e
 ·rintro v H1' (⟨_,_,_,e,_⟩|⟨e',p,j,h1,e,rfl⟩)
  ·cases e
  ·cases e
   exact⟨la b2 s::c1::c2::c3::mG b7 j::c5::T,rfl,rfl,k2 e' p j h1⟩
theorem Lt (hM:ab G (bQ m))(hl:s.length<=1000000)(ha:a<=s.length){i0 j0:Nat}(k:∀w j,cw cr s a= .ok (w,j)->K (.str w) (la b2 s::oz b3 cr::c2::c3::mG b7 j::rF b8 i0 j0 b7 b2::T))(k2:∀(e:Int) (p:Nat) j,cw cr s a= .bad e p->Kp (qZ e p) (la b2 s::oz b3 cr::c2::c3::mG b7 j::rF b8 i0 j0 b7 b2::T)):
  Cx prog G 69 [.raw (pS b8),.raw (pS b7),.raw (pS b2),.raw (pS b3)] (la b2 s::oz b3 cr::c2::c3::mG b7 a::rF b8 i0 j0 b7 b2::T) K Kp:=by
 refine Dm [5,4,0,0] (Tj hM b8 i0 j0 b7 b2 b3 s a cr hl ha) rfl ?_ ?_
 ·rintro v H1' (⟨w,j,h1,e,rfl⟩|⟨_,_,_,_,e,_⟩)
  ·cases e;exact⟨la b2 s::oz b3 cr::c2::c3::mG b7 j::rF b8 i0 j0 b7 b2::T,rfl,rfl,k w j h1⟩
  ·cases e
 ·rintro v H1' (⟨_,_,_,e,_⟩|⟨e',p,j,h1,e,rfl⟩)
  ·cases e
  ·cases e;exact⟨la b2 s::oz b3 cr::c2::c3::mG b7 j::rF b8 i0 j0 b7 b2::T,rfl,rfl,k2 e' p j h1⟩
end
end
end Go.Proofs.YtgpjhbhdbjdlgaaGreatDoor
