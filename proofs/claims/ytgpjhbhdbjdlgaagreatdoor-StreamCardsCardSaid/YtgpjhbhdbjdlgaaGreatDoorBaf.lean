/- Parts of the proof of streamCards_card. -/
import Derived.Stop.Asserts
import Derived.Lib.Join
import Derived.Laws.MakeOwn
import Derived.Laws.IdiomCopy
import Derived.Defers
import Derived.Recover
import Derived.Test.YtgpjhbhdbjdlgaaGreatDoorBae
set_option linter.unusedVariables false
set_option linter.unusedSimpArgs false
set_option linter.unusedSectionVars false
namespace Go.Proofs.YtgpjhbhdbjdlgaaGreatDoor
open Go Go.RowKit
open Tryz
set_option maxRecDepth 20000
set_option maxHeartbeats 4000000
section
open Go Go.Extern
attribute [local irreducible] bJ au aa ax aR ab ad
theorem rls (v x:Value):ReflectliteValue.set #[v,x]=(do
  let (some (dst,a,fl),some (src,b,_)):=(←ReflectliteValue.parts v,←ReflectliteValue.parts x)
   |unsupported (.noEntry "extern/(internal/reflectlite.Value).Set.zeroValue")
  if fl/ReflectliteValue.flagAddr%2==0 then unsupported (.noEntry "extern/(internal/reflectlite.Value).Set.unaddressable")
  let val ←loadVar src b
  if ←Rtype.directlyAssignable dst src then storeVar dst a val
  else if ←Rtype.implements dst src then
   if(←Rtype.kind src)==20 then
    match val with
    |.nilIface=>unsupported (.noEntry "extern/reflectlite: a nil value of one interface type handed on as a value of another")
    |_=>storeVar dst a val
   else storeVar dst a (.iface src val)
  else panicString ("reflectlite.Set: value of type " ++(←Rtype.spelt src)++ " is not assignable to type " ++(←Rtype.spelt dst))
  pure (.tuple #[])):=rfl
theorem Dl (w:World):(Rtype.directlyAssignable 23 23).run prog w= .ok true w:=by kernel_rfl
theorem R7 {R:Seal}{x y:Value}{k:IntKind}{n:Int}{v:Value}(hx:dc x=false)(hy:dc y=false)(h:bn R (.agg [.raw x,.raw y,.int k n]) v):v= .agg #[x,y,.int k n]:=by
 obtain⟨h1,h2⟩:=h;cases v<;>simp only[AVal.isAgg,dc,Bool.true_eq_false] at h2
 rename_i cs;obtain⟨a,t,e,ha,a',t',e',ha',a'',t'',e'',ha'',rfl⟩:=h1;simp only[Value.cells] at e;have key:∀{z:Value},dc z=false->z.cells.toList=[z]:=by intro z hz;cases z<;>first|rfl|(simp[dc] at hz)
 have ha:[a]=x.cells.toList:=ha;have ha':[a']=y.cells.toList:=ha';rw[key hx] at ha;rw[key hy] at ha';have ha'':[a'']=[Value.int k n]:=ha'';simp only[o_,and_true] at ha ha' ha'';subst ha ha' ha'';have:cs=#[a,a',.int k n]:=by cases cs;simp_all
 rw[this]
theorem AB {G:Glo}(bl:Nat)(e old:Int):ad prog G 177 [.agg [.raw (ke 23),.raw (.pointer (some ⟨bl,0,none⟩)),.int .u64 386],.agg [.raw (ke 23),.rop [.int .i64 e] 0,.int .u64 130]]
  [.cells bl (some 23) [.int .i64 old]] (λr H=>r= .ret (.tuple [])/\H=[.cells bl (some 23) [.int .i64 e]]):=by
 refine kg func177 be be be (e:=ReflectliteValue.set) be ?_;intro C R args w hm ha;obtain⟨v,u,rfl,hv,hu⟩:=rJ ha;obtain rfl:=R7 rfl rfl hv;obtain⟨b,o,rfl,hs⟩:=tc rfl hu;obtain⟨u,hu,hr⟩:=hs.cell hm.sealed (i:=0) rfl;rw[Nat.add_zero] at hu;have hr:[u]=[Value.int .i64 e]:=hr;simp only[o_,and_true] at hr;subst hr;obtain⟨Cs,el,fz,hb,hl,hfz⟩:=lB hm (i:=0) rfl;have hlen:=aJ hl;simp only[r_,j_,E_] at hlen;obtain⟨w',hst,ho⟩:=fu (P:=prog) [Value.int .i64 e] 0 0 Cs w hb (by simp only[j_,E_];omega) hfz.1 (by intro v hv;simp only[List.mem_singleton] at hv;subst hv;exact⟨rfl,λ_=>by simp⟩);refine⟨.tuple #[],w',R,?_,Seal.le_refl R,⟨⟨#[],rfl,rfl⟩,rfl⟩,?_⟩
 ·rw[rls];simp only[e_,ME,E9,Result.andThen];simp[ReflectliteValue.flagAddr,loadVar,isAgg,underlying,underlying23,hu,Result.andThen,Dl,storeVar,Value.cells];rw[hst]
 ·have hd:Cs.toList.drop (0+0+[Value.int .i64 e].length)=[]:=List.drop_eq_nil_of_le (by simp;omega);refine hm.write (i:=0) rfl rfl ho rfl ⟨_,_,_,ho.at_,?_,?_⟩
  ·rw[hd];exact⟨_,_,rfl,rfl,rfl⟩
  ·rw[hd];have:Cs.size=1:=by omega
   rw[this] at hfz;exact hfz
section
variable (t:TypeId)
theorem P6:∀R v,bn R (.agg [.raw (ke t)]) v→∀w,∃u,(Go.method (prog.types.size+Made.depth) 245 v "Kind").run prog w= .ok (304,u) w∧bn R (.raw (ke t)) u:=by
 intro R v h w
 obtain rfl:=jC rfl h
 exact⟨ke t,be,aq.2 rfl⟩
theorem WP:∀R v,bn R (.agg [.raw (ke t)]) v→∀w,∃u,(Go.method (prog.types.size+Made.depth) 245 v "Elem").run prog w= .ok (316,u) w∧bn R (.agg [.raw (ke t)]) u:=by
 intro R v h w
 obtain rfl:=jC rfl h
 exact⟨.agg #[ke t],be,h⟩
theorem WO:∀R v,bn R (.agg [.raw (ke t)]) v→∀w,∃u,(Go.method (prog.types.size+Made.depth) 245 v "Implements").run prog w= .ok (317,u) w∧bn R (.agg [.raw (ke t)]) u:=by
 intro R v h w
 obtain rfl:=jC rfl h
 exact⟨.agg #[ke t],be,h⟩
theorem Iu:∀R v,bn R (.agg [.raw (ke t)]) v→∀w,∃u,(Go.method (prog.types.size+Made.depth) 245 v "AssignableTo").run prog w= .ok (314,u) w∧bn R (.agg [.raw (ke t)]) u:=by
 intro R v h w
 obtain rfl:=jC rfl h
 exact⟨.agg #[ke t],be,h⟩
end
theorem P5 (a:AVal):∀R v,bn R a v→∀w,∃u,(Go.method (prog.types.size+Made.depth) 79 v "Unwrap").run prog w= .ok (309,u) w∧bn R a u:=by
 intro R v h w
 exact⟨v,be,h⟩
theorem TY:∀v w,(Instr.typeAssert (.iface 79 v) 29 250 true).run prog w= .ok (.tuple #[.nilIface,.bool false]) w:=λv w=>run_typeAssert_lacksB (z:=.nilIface) underlying250 be be v _ w
theorem F0:∀v w,(Instr.typeAssert (.iface 79 v) 29 88 true).run prog w= .ok (.tuple #[.iface 79 v,.bool true]) w:=by intro v w;kernel_rfl
theorem yC:∀v w,(Instr.typeAssert (.iface 23 v) 29 88 true).run prog w= .ok (.tuple #[.nilIface,.bool false]) w:=λv w=>run_typeAssert_lacksB (z:=.nilIface) underlying88 be be v _ w
abbrev ls (e:Int):AVal:=.iface 23 (.int .i64 e)
abbrev th (e p:Int):AVal:=.iface 79 (.rop [.int .i64 e,.int .i64 p] 0)
noncomputable abbrev V4 (bl:Nat):AVal:=.agg [.raw (ke 132),.rop [.raw (.pointer (some ⟨bl,0,none⟩))] 0,.int .u64 150]
abbrev SI (bl:Nat):AVal:=.iface 132 (.raw (.pointer (some ⟨bl,0,none⟩)))
theorem NQ {G:Glo}(e p:Int):ai prog G 309 [.rop [.int .i64 e,.int .i64 p] 0] (ls e):=by
 refine aw func309 call309 λC hC hGL=> ?_;exact bq
theorem kR {G:Glo}(bl:Nat)(e old:Int):ad prog G 122 [ls e,SI bl,V4 bl,rty 23] [.cells bl (some 23) [.int .i64 old]] (λr H=>r= .ret (.bool true)/\H=[.cells bl (some 23) [.int .i64 e]]):=by
 refine aw func122 call122 λC hC hGL=> ?_;have h1:=rI (G:=G) e;have h2:=By (G:=G) bl;have h3:=qx (G:=G) e;have h4:=AB (G:=G) bl e old;have h5:=nt (G:=G);have m1:=Iu 23;refine aH ?_;intros;refine rds hC hGL 1 ?_;exact bq
theorem n8 {G:Glo}(bl:Nat)(e p old:Int):ad prog G 122 [th e p,SI bl,V4 bl,rty 23] [.cells bl (some 23) [.int .i64 old]] (λr H=>r= .ret (.bool true)/\H=[.cells bl (some 23) [.int .i64 e]]):=by
 refine aw func122 call122 λC hC hGL=> ?_;have h1:=rI (G:=G) e;have h2:=By (G:=G) bl;have h3:=qx (G:=G) e;have h4:=AB (G:=G) bl e old;have h5:=nt (G:=G);have h6:=Ag (G:=G);have h7:=LZ (G:=G) (.rop [.int .i64 e,.int .i64 p] 0);have h8:=NQ (G:=G) e p;have m1:=Iu 23;have m2:=Iu 79;have m3:=P5 (.rop [.int .i64 e,.int .i64 p] 0);have i1:=TY;have i2:=F0;refine aH ?_;intros;refine rds hC hGL 2 ?_;exact bq
noncomputable abbrev errTy:List (Nat×List AVal):=[(0,[rty 29])]
theorem lD {G:Glo}(hGL:ab G errTy)(bl:Nat)(e:Int){ty:TypeId}{a:AVal}(hs:ad prog G 122 [.iface ty (mY a),SI bl,V4 bl,rty 23] [.cells bl (some 23) [.int .i64 0]] (λr H=>r= .ret (.bool true)/\H=[.cells bl (some 23) [.int .i64 e]])):
  ad prog G 56 [.iface ty a,SI bl] [.cells bl (some 23) [.int .i64 0]] (λr H=>r= .ret (.bool true)/\H=[.cells bl (some 23) [.int .i64 e]]):=by
 refine vz func56 call56 rfl rfl rfl rfl hGL ?_;intro C hC;have h1:=D3 (G:=G) bl;have h2:=Ou (G:=G) (.raw (.pointer (some ⟨bl,0,none⟩)));have h3:=MQ (G:=G) bl;have h4:=Qk (G:=G);have h5:=Q5 (G:=G);have h6:=IJ (G:=G);have h7:=uf (G:=G);have m1:=P6 132;have m2:=WP 132;have m3:=P6 23;have m4:=WO 23;exact bq
theorem s7 {G:Glo}:ai prog G 31 [.raw .nilIface] (.int .i64 0):=by
 refine aw func31 call31 λC hC hGL=> ?_;exact bq
theorem pD {G:Glo}(hGL:ab G errTy)(e:Int):ai prog G 31 [ls e] (.int .i64 e):=by
 refine vz func31 call31 rfl rfl rfl rfl hGL ?_;intro C hC;repeat' (first|(conv=>whnf);first|refine .w ?_|refine .v ?_|refine ez ?_ ?_<;>(intro hb;try exact dd hb)|apply aT|apply bP|(apply cR<;>intro hb)|(apply cX;intro hbd)|(apply bG;first|exact lD hGL _ e (kR _ e 0))|(apply aV (i:=0) rfl;first|exact lD hGL _ e (kR _ e 0))|(apply cY;intro bl)|(apply dv;intro va vk vc hva)|(apply du;intro v)|(apply dw;intro bl cap hcap)|apply dP|(apply dq<;>intro hnx)|apply ef mixed hC hGL be|(apply cq;assumption;(first|exact lD hGL _ e (kR _ e 0));exact rfl)|(show Rt _ _ _;exact cP)|fail)
 all_goals try conv=>whnf
theorem u4 {G:Glo}(hGL:ab G errTy)(e p:Int):ai prog G 31 [th e p] (.int .i64 e):=by
 refine vz func31 call31 rfl rfl rfl rfl hGL ?_;intro C hC;repeat' (first|(conv=>whnf);first|refine .w ?_|refine .v ?_|refine ez ?_ ?_<;>(intro hb;try exact dd hb)|apply aT|apply bP|(apply cR<;>intro hb)|(apply cX;intro hbd)|(apply bG;first|exact lD hGL _ e (n8 _ e p 0))|(apply aV (i:=0) rfl;first|exact lD hGL _ e (n8 _ e p 0))|(apply cY;intro bl)|(apply dv;intro va vk vc hva)|(apply du;intro v)|(apply dw;intro bl cap hcap)|apply dP|(apply dq<;>intro hnx)|apply ef mixed hC hGL be|(apply cq;assumption;(first|exact lD hGL _ e (n8 _ e p 0));exact rfl)|(show Rt _ _ _;exact cP)|fail)
 all_goals try conv=>whnf
inductive Err
 |none
 |errno (e:Int)
 |atp (e p:Int)
def Err.A:Err->AVal
 |.none=>.raw .nilIface
 |.errno e=>ls e
 |.atp e p=>th e p
def Err.e:Err->Int
 |.none=>0
 |.errno e=>e
 |.atp e _=>e
def Err.p:Err->Int
 |.none=> -1
 |.errno _=> -1
 |.atp _ p=>p
theorem s8 {G:Glo}(hGL:ab G errTy)(x:Err):ai prog G 31 [x.A] (.int .i64 x.e):=by
 cases x with
 |none=>exact s7
 |errno e=>exact pD hGL e
 | atp e p=>exact u4 hGL e p
theorem vq {G:Glo}:ai prog G 18 [.raw .nilIface] (.tuple [.int .i64 0,.int .i64 (-1)]):=by
 refine aw func18 call18 λC hC hGL=> ?_;have k1:=s7 (G:=G);refine aH ?_;intros
 refine rds hC hGL 1 ?_
 exact bq
theorem si {G:Glo}(hGL:ab G errTy)(e:Int):ai prog G 18 [ls e] (.tuple [.int .i64 e,.int .i64 (-1)]):=by
 refine vz func18 call18 rfl rfl rfl rfl hGL ?_;intro C hC;have i1:=yC;have k1:=pD hGL e;refine aH ?_;intros;refine rds hC hGL 1 ?_;exact bq
theorem xM {G:Glo}(hGL:ab G errTy)(e p:Int):ai prog G 18 [th e p] (.tuple [.int .i64 e,.int .i64 p]):=by
 refine vz func18 call18 rfl rfl rfl rfl hGL ?_;intro C hC;have k1:=u4 hGL e p;refine aH ?_;intros;refine rds hC hGL 1 ?_;exact bq
theorem E4 {G:Glo}(hGL:ab G errTy)(x:Err):ai prog G 18 [x.A] (.tuple [.int .i64 x.e,.int .i64 x.p]):=by
 cases x with
 |none=>exact vq
 |errno e=>exact si hGL e
 | atp e p=>exact xM hGL e p
theorem IG {G:Glo}(hGL:ab G errTy)(x:Err)(e p:Int):ai prog G 6 [x.A,.agg [.int .i64 e,.int .i64 p]] (.bool (bV x.e e&&bV x.p p)):=by
 have hP:=E4 hGL x;cases x;all_goals (
  refine vz func6 call6 rfl rfl rfl rfl hGL ?_;intro C hC;refine xw ?_;repeat' first|exact .n|apply Lc.mk
  all_goals intros
  all_goals (rename_i hb;apply aj;refine congrArg AVal.bool ?_;first|(rw[fJ.2 hb,aae];done)|(rw[k9.2 hb];rfl)|(rw[fJ.2 hb,aae];rfl)))
end
section
theorem bx {s:ω}{j:Nat}(h:j<s.length):aa s j=s[j].toNat:=by
 simp[aa,List.getD,h]
theorem fc {s:ω}{n j:Nat}(h:j<n):aa (s.take n) j=aa s j:=by
 unfold aa;simp[List.getD,List.getElem?_take,h]
attribute [local irreducible] bJ au aa ax aR ab ad
theorem il {G:Glo}(e:Int):ai prog G 12 [.int .i64 e] (.agg [.int .i64 e,.int .i64 (-1)]):=by
 refine aw func12 call12 λC hC hGL=> ?_;exact bq
theorem fb {G:Glo}:ai prog G 14 [] (.agg [.int .i64 0,.int .i64 (-1)]):=by
 refine aw func14 call14 λC hC hGL=> ?_;exact bq
theorem Aq (x:Err):mY x.A=x.A:=by cases x<;>rfl
theorem MB {G:Glo}(hU2:ab G errTy)(x:Err):ai prog G 6 [x.A,.agg [.int .i64 x.e,.int .i64 x.p]] (.bool true):=by
 have:=IG hU2 x x.e x.p;rwa [fJ.2 rfl,fJ.2 rfl] at this
end
section
theorem qe {c:Int}:∀(t:ω) (k:Nat),(kE c t k= -1/\∀j,j<t.length->(aa t j:Int)≠c)\/∃m,m<t.length/\kE c t k=((k+m:Nat):Int)/\(aa t m:Int)=c/\∀j,j<m->(aa t j:Int)≠c
 |[],_=>.inl ⟨rfl,λj h=>absurd h (Uf _)⟩
 |x::t,k=>by
  by_cases e:(x.toNat:Int)=c
  ·refine .inr ⟨0,by simp,by simp[kE,e],by simpa[aa] using e,λj h=>absurd h (Uf _)⟩
  ·have e1:kE c (x::t) k=kE c t (k+1):=by simp[kE,e]
   have h0:∀{p:Prop},(∀j,j<t.length->(aa t j:Int)≠c)->∀j,j<(x::t).length->(aa (x::t) j:Int)≠c:=by
    intro _ h j hj;cases j with
    |zero=>simpa[aa] using e
    |succ j=>simpa[aa] using h j (by simpa using hj)
   rcases qe (c:=c) t (k+1) with⟨h1,h2⟩|⟨m,h1,h2,h3,h4⟩
   ·exact .inl ⟨by rw[e1,h1],h0 (p:=True) h2⟩
   ·refine .inr ⟨m+1,by simpa using h1,by rw[e1,h2];omega,by simpa[aa] using h3,λj hj=> ?_⟩;cases j with
    |zero=>simpa[aa] using e
    |succ j=>simpa[aa] using h4 j a_
theorem C4 {s:ω}{c:Int}{i:Nat}(hi:i<s.length)(h:(aa s i:Int)=c)(h0:∀j,j<i->(aa s j:Int)≠c):aS s c=i:=by
 rcases qe (c:=c) s 0 with⟨h1,h2⟩|⟨m,h1,h2,h3,h4⟩
 ·exact absurd h (h2 i hi)
 ·unfold aS;rw[h2];have:m=i:=by
   rcases Nat.lt_trichotomy m i with h5|h5|h5
   ·exact absurd h3 (h0 m h5)
   ·exact h5
   ·exact absurd h (h4 i h5)
  omega
theorem Bh {s:ω}{c:Int}(h0:∀j,j<s.length->(aa s j:Int)≠c):aS s c= -1:=by
 rcases qe (c:=c) s 0 with⟨h1,h2⟩|⟨m,h1,h2,h3,h4⟩
 ·exact h1
 ·exact absurd h3 (h0 m h1)
theorem lS (s:ω)(c:Int):(aS s c= -1/\∀j,j<s.length->(aa s j:Int)≠c)\/∃m,m<s.length/\aS s c=(m:Int)/\(aa s m:Int)=c/\∀j,j<m->(aa s j:Int)≠c:=by
 rcases qe (c:=c) s 0 with h|⟨m,h1,h2,h3⟩
 ·exact .inl h
 ·exact .inr ⟨m,h1,by unfold aS;rw[h2];omega,h3⟩
def ml (i:Nat)(c:Int):Bool:=decide ((97<=c/\c<=122)\/(65<=c/\c<=90)\/(0<i/\((48<=c/\c<=57)\/c=43\/c=45\/c=46)))
theorem HM {i:Nat}{c:Int}:ml i c=true↔((97<=c/\c<=122)\/(65<=c/\c<=90)\/(0<i/\((48<=c/\c<=57)\/c=43\/c=45\/c=46))):=by simp[ml]
theorem Wf {i:Nat}{c:Int}:ml i c=false↔¬((97<=c/\c<=122)\/(65<=c/\c<=90)\/(0<i/\((48<=c/\c<=57)\/c=43\/c=45\/c=46))):=by simp[ml]
def fQ (s:ω):Nat:=if aS s 58<1 then 0 else if ∀j,j<(aS s 58).toNat->ml j (aa s j)=true then(aS s 58).toNat else 0
theorem UH {s:ω}{i:Nat}(hi:i<s.length)(h:(aa s i:Int)=58)(h0:∀j,j<i->(aa s j:Int)≠58/\ml j (aa s j)=true):fQ s=i:=by
 have e:=C4 hi h λj hj=>(h0 j hj).1;unfold fQ;rw[e];by_cases h1:(i:Int)<1
 ·rw[if_pos h1];omega
 ·rw[if_neg h1,if_pos (λj hj=>(h0 j a_).2)];omega
theorem RP {s:ω}{i:Nat}(hi:i<s.length)(h:(aa s i:Int)≠58)(hb:ml i (aa s i)=false)(h0:∀j,j<i->(aa s j:Int)≠58/\ml j (aa s j)=true):fQ s=0:=by
 rcases lS s 58 with⟨h1,_⟩|⟨m,h1,h2,h3,h4⟩
 ·unfold fQ;rw[h1];rfl
 ·have:i<m:=by
   rcases Nat.lt_trichotomy m i with h5|h5|h5
   ·exact absurd h3 (h0 m h5).1
   ·subst h5;exact absurd h3 h
   ·exact h5
  unfold fQ;rw[h2];split
  ·rfl
  ·rw[if_neg];intro hh;have:=hh i a_;rw[hb] at this;cases this
theorem NE {s:ω}(h0:∀j,j<s.length->(aa s j:Int)≠58):fQ s=0:=by
 unfold fQ;rw[Bh h0];rfl
theorem Dz {s:ω}(h:fQ s≠0):fQ s<s.length/\aa s (fQ s)=58/\aS s 58=fQ s:=by
 rcases lS s 58 with⟨h1,_⟩|⟨m,h1,h2,h3,h4⟩
 ·unfold fQ at h;rw[h1] at h;exact absurd rfl h
 ·have e:fQ s=m:=by
   unfold fQ at*
   generalize aS s 58=z at*
   subst h2;by_cases e1:(m:Int)<1
   ·rw[if_pos e1] at h;exact absurd rfl h
   ·rw[if_neg e1] at h ⊢;by_cases e2:∀j,j<(m:Int).toNat->ml j (aa s j)=true
    ·rw[if_pos e2];omega
    ·rw[if_neg e2] at h;exact absurd rfl h
  rw[e];exact⟨h1,a_,h2⟩
attribute [local irreducible] bJ au aa ax aR ab ad aS fQ ml
theorem Hq {G:Glo}(s:ω)(hl:s.length<=9223372036854775807):ai prog G 159 [.str s] (.int .i64 (fQ s)):=by
  refine aw func159 call159 λC hC hGL=> ?_;refine aH ?_;intros;refine lp hC hGL (λ(i:Nat)=>[(0,.str s),(6,.int .i64 s.length),(7,.int .i64 i)]) (λ_=>[]) (λi=>i<=s.length/\∀j,j<i->(aa s j:Int)≠58/\ml j (aa s j)=true) (λi=>s.length-i) 0 ?_ ae rfl ?_
  · exact⟨Nat.zero_le _,by intro j hj;omega⟩
  rintro i ⟨hi,hb0⟩;refine xw ?_;repeat' first|exact .n|apply Lc.mk
  all_goals intros
  all_goals first
    |(apply aj;refine congrArg (AVal.int .i64) ?_;rw[UH (i:=i) a_ a_ hb0];first|done|rfl)
    |(apply aj;refine congrArg (AVal.int .i64) ?_;rw[RP (i:=i) a_ a_ (Wf.2 a_) hb0];first|done|rfl)
    |(apply aj;refine congrArg (AVal.int .i64) ?_;rw[NE (λj hj=>(hb0 j a_).1)];first|done|rfl)
    | (refine cQ (i+1) ?_ ?_ ae rfl
       · exact⟨a_,dj hb0 ⟨a_,HM.2 a_⟩⟩
       · omega)
def xh (s:ω):Int:=if fQ s=0 then 8 else 0
def rq (c:Int):Bool:=decide (33<=c/\c<=126)
theorem yG {c:Int}:rq c=true↔(33<=c/\c<=126):=by simp[rq]
theorem QE {c:Int}:rq c=false↔¬(33<=c/\c<=126):=by simp[rq]
def Ga (f:Int->Bool):ω->Nat->Int
 |[],_=> -1
 |x::t,k=>if f (x.toNat:Int) then k else Ga f t (k+1)
def gh (f:Int->Bool)(s:ω):Int:=Ga f s 0
theorem qj {f:Int->Bool}:∀(t:ω) (k:Nat),(Ga f t k= -1/\∀j,j<t.length->f (aa t j:Int)=false)\/∃m,m<t.length/\Ga f t k=((k+m:Nat):Int)/\f (aa t m:Int)=true/\∀j,j<m->f (aa t j:Int)=false
 |[],_=>.inl ⟨rfl,λj h=>absurd h (Uf _)⟩
 |x::t,k=>by
  by_cases e:f (x.toNat:Int)=true
  ·refine .inr ⟨0,by simp,by simp[Ga,e],by simpa[aa] using e,λj h=>absurd h (Uf _)⟩
  ·have e1:Ga f (x::t) k=Ga f t (k+1):=by simp[Ga,e]
   rcases qj (f:=f) t (k+1) with⟨h1,h2⟩|⟨m,h1,h2,h3,h4⟩
   ·refine .inl ⟨by rw[e1,h1],λj hj=> ?_⟩;cases j with
    |zero=>simpa[aa] using e
    |succ j=>simpa[aa] using h2 j (by simpa using hj)
   ·refine .inr ⟨m+1,by simpa using h1,by rw[e1,h2];omega,by simpa[aa] using h3,λj hj=> ?_⟩;cases j with
    |zero=>simpa[aa] using e
    |succ j=>simpa[aa] using h4 j a_
theorem mB {f:Int->Bool}{s:ω}{i:Nat}(hi:i<s.length)(h:f (aa s i:Int)=true)(h0:∀j,j<i->f (aa s j:Int)=false):gh f s=i:=by
 rcases qj (f:=f) s 0 with⟨h1,h2⟩|⟨m,h1,h2,h3,h4⟩
 ·rw[h2 i hi] at h;cases h
 ·unfold gh;rw[h2];have:m=i:=by
   rcases Nat.lt_trichotomy m i with h5|h5|h5
   ·rw[h0 m h5] at h3;cases h3
   ·exact h5
   ·rw[h4 i h5] at h;cases h
  omega
theorem iZ {f:Int->Bool}{s:ω}(h0:∀j,j<s.length->f (aa s j:Int)=false):gh f s= -1:=by
 rcases qj (f:=f) s 0 with⟨h1,h2⟩|⟨m,h1,h2,h3,h4⟩
 ·exact h1
 ·rw[h0 m h1] at h3;cases h3
theorem gB (f:Int->Bool)(s:ω):(gh f s= -1/\∀j,j<s.length->f (aa s j:Int)=false)\/∃m,m<s.length/\gh f s=(m:Int)/\f (aa s m:Int)=true/\∀j,j<m->f (aa s j:Int)=false:=by
 rcases qj (f:=f) s 0 with h|⟨m,h1,h2,h3⟩
 ·exact .inl h
 ·exact .inr ⟨m,h1,by unfold gh;rw[h2];omega,h3⟩
attribute [local irreducible] rq gh
theorem mr {G:Glo}(s:ω)(f:Nat)(p:Int->Bool)(hl:s.length<=9223372036854775807)(hp:∀c:Nat,c<256->ai prog G f [.int .u8 (c:Int)] (.bool (p c))):ai prog G 72 [.str s,.func (.func f) [] []] (.int .i64 (gh p s)):=by
 refine aw func72 call72 λC hC hGL=> ?_;refine aH ?_;intro bl cap;intros;refine lp hC hGL (λ(i:Nat)=>[(1,.func (.func f) [] []),(8,.own 0 (.slice (some ⟨bl,0,none⟩) s.length cap)),(9,.int .i64 s.length),(10,.int .i64 i)]) (λ_=>[.buf bl s cap]) (λi=>i<=s.length/\∀j,j<i->p (aa s j:Int)=false) (λi=>s.length-i) 0 ?_ ae rfl ?_
 ·exact⟨Nat.zero_le _,by intro j hj;omega⟩
 rintro i ⟨hi,hb0⟩;have k1:=@hp;refine xw ?_;repeat' first|exact .n|apply Lc.mk
 all_goals intros
 ·rename_i hb;apply aj;rw[mB (i:=i) a_ hb hb0]
 ·rename_i hb;refine cQ (i+1) ?_ ?_ ae rfl
  ·exact⟨a_,dj hb0 hb⟩
  ·omega
 ·apply aj;rw[iZ (λj hj=>hb0 j a_)];rfl
theorem FY {c:Int}(h0:0<=c)(h1:c<=255):decide (aS ((kI++abcL)++[]) c<0)= !ml 0 c:=by
 have:=nv (p:=λc=>decide (aS ((kI++abcL)++[]) c<0)== !ml 0 c) (by decide+kernel) h0 h1;simpa using this
def We:ω:=[48,49,50,51,52,53,54,55,56,57,43,45,46]
theorem FX {c:Int}(h0:0<=c)(h1:c<=255):decide (aS ((kI++abcL)++We) c<0)= !ml 1 c:=by
 have:=nv (p:=λc=>decide (aS ((kI++abcL)++We) c<0)== !ml 1 c) (by decide+kernel) h0 h1;simpa using this
theorem AC {i:Nat}{c:Int}(h:i=0):ml i c=ml 0 c:=by rw[h]
theorem AD {i:Nat}{c:Int}(h:0<i):ml i c=ml 1 c:=by
 rw[w_,HM,HM];omega
theorem RQ {s:ω}{m:Nat}(hm:aS s 58=m)(h1:0<m)(h:∀j,j<m->ml j (aa s j)=true):fQ s=m:=by
 unfold fQ;rw[hm,if_neg a_,if_pos (λj hj=>h j a_)];omega
theorem RO {s:ω}{m:Nat}(hm:aS s 58=m){i:Nat}(hi:i<m)(h:ml i (aa s i)=false):fQ s=0:=by
 unfold fQ;rw[hm];split
 ·rfl
 ·rw[if_neg];intro hh;have:=hh i a_;rw[h] at this;cases this
theorem H8 {G:Glo}(s:ω)(hl:s.length<=9223372036854775807):ai prog G 139 [.str s] (.tuple [.str (s.take (fQ s)),.int .i64 (xh s)]):=by
 refine aw func139 call139 λC hC hGL=> ?_;have hI:=aK (G:=G) s 58 b_ b_;have hT:=mm (G:=G);have hJ0:=λc h0 h1=>aK (G:=G) ((kI++abcL)++[]) c h0 h1;have hJ1:=λc h0 h1=>aK (G:=G) ((kI++abcL)++We) c h0 h1;have hle:aS s 58<s.length:=by
  rcases lS s 58 with⟨h1,_⟩|⟨m,h1,h2,_⟩<;>omega
 refine xw ?_;repeat' first|exact .n|apply Lc.mk
 all_goals intros
 ·apply aj;have e:fQ s=0:=by unfold fQ;rw[if_pos a_]
  rw[xh,if_pos e,e];rfl
 rename_i bl cap _ _;have hm0:∃m:Nat,aS s 58=m/\0<m/\m<s.length:=⟨(aS s 58).toNat,a_,a_,a_⟩;obtain⟨m,hm,hm1,hm2⟩:=hm0;have hA:=RQ hm hm1;have hN:=λi hi h=>RO (i:=i) hm hi h;have hbt:=λj (hj:j<m)=>fc (s:=s) hj;rw[hm] at*
 rw[show(m:Int).toNat=m from rfl] at*
 have ht:(s.take m).length=m:=by rw[i_];omega
 rw[ht] at*
 refine lp hC hGL (λ(i:Nat)=>[(0,.str s),(4,.int .i64 m),(15,.own 0 (.slice (some ⟨bl,0,none⟩) m cap)),(16,.int .i64 m),(17,.int .i64 i)]) (λ_=>[.buf bl (s.take m) cap]) (λi=>i<=m/\∀j,j<i->ml j (aa s j)=true) (λi=>m-i) 0 ?_ ae rfl ?_
 ·exact⟨Nat.zero_le _,by intro j hj;omega⟩
 rintro i ⟨hi,hb0⟩;have k1:=@hJ0;have k2:=@hJ1;refine xw ?_;repeat' first|exact .n|apply Lc.mk
 all_goals intros
 ·apply aj;have hx:=FY (c:=(aa (s.take m) i:Int)) a_ a_;rw[decide_eq_true (by assumption),hbt i a_] at hx;have e:=hN i a_ (by rw[AC a_];simpa using hx.symm);rw[xh,if_pos e,e];rfl
 ·have hx:=FY (c:=(aa (s.take m) i:Int)) a_ a_;rw[decide_eq_false a_,hbt i a_] at hx;refine cQ (i+1) ?_ ?_ ae rfl
  ·exact⟨a_,dj hb0 (by rw[AC a_];simpa using hx.symm)⟩
  ·omega
 ·apply aj;have hx:=FX (c:=(aa (s.take m) i:Int)) a_ a_;rw[decide_eq_true (by assumption),hbt i a_] at hx;have e:=hN i a_ (by rw[AD a_];simpa using hx.symm);rw[xh,if_pos e,e];rfl
 ·have hx:=FX (c:=(aa (s.take m) i:Int)) a_ a_;rw[decide_eq_false a_,hbt i a_] at hx;refine cQ (i+1) ?_ ?_ ae rfl
  ·exact⟨a_,dj hb0 (by rw[AD a_];simpa using hx.symm)⟩
  ·omega
 ·apply aj;have e:=hA (λj hj=>hb0 j a_);rw[xh,if_neg a_,e];rfl
def fB (c:Int):Bool:= !rq c
theorem xW {c:Int}:fB c=true↔¬(33<=c/\c<=126):=by simp[fB,yG,QE]
theorem xX {c:Int}:fB c=false↔(33<=c/\c<=126):=by simp[fB,yG]
def gJ (s:ω):Err:=if fQ s=0 then .errno 8 else if 0<=gh fB s then .atp 3 (gh fB s) else if fQ s+1=s.length then .atp 7 s.length else .none
attribute [local irreducible] fB
theorem Ap {G:Glo}(s:ω)(hl:s.length<=9223372036854775807):ai prog G 106 [.str s] (gJ s).A:=by
 refine aw func106 call106 λC hC hGL=> ?_;have hb0:=Hq (G:=G) s hl;have hlt:fQ s≠0->fQ s<s.length:=λh=>(Dz h).1;refine xw ?_;repeat' first|exact .n|apply Lc.mk
 all_goals intros
 ·apply aj;rw[gJ,if_pos a_];rfl
 refine lp hC hGL (λ(i:Nat)=>[(0,.str s),(3,.int .i64 (fQ s)),(11,.int .i64 s.length),(12,.int .i64 i)]) (λ_=>[]) (λi=>i<=s.length/\∀j,j<i->fB (aa s j)=false) (λi=>s.length-i) 0 ?_ ae rfl ?_
 ·exact⟨Nat.zero_le _,by intro j hj;omega⟩
 rintro i ⟨hi,hg0⟩;refine xw ?_;repeat' first|exact .n|apply Lc.mk
 all_goals intros
 ·apply aj;rw[gJ,if_neg a_,mB (i:=i) a_ (xW.2 a_) hg0,if_pos a_];rfl
 ·apply aj;rw[gJ,if_neg a_,mB (i:=i) a_ (xW.2 a_) hg0,if_pos a_];rfl
 ·refine cQ (i+1) ?_ ?_ ae rfl
  ·exact⟨a_,dj hg0 (xX.2 a_)⟩
  ·omega
 ·apply aj;rw[gJ,if_neg a_,iZ (λj hj=>hg0 j a_),if_neg a_,if_pos a_];rfl
 ·apply aj;rw[gJ,if_neg a_,iZ (λj hj=>hg0 j a_),if_neg a_,if_neg a_];rfl
theorem Mq {G:Glo}(c:Int)(h0:0<=c)(h1:c<=255):ai prog G 141 [.int .u8 c] (.bool (rq c)):=by
 refine aw func141 call141 λC hC hGL=> ?_;have hw:=fN (G:=G) c 33 126;refine aH ?_;intros;apply aj;refine congrArg AVal.bool ?_;rw[w_,yG];simp
theorem CB {G:Glo}(c:Int)(h0:0<=c)(h1:c<=255):ai prog G 140 [.int .u8 c] (.bool (fB c)):=by
 refine aw func140 call140 λC hC hGL=> ?_;have hw:=Mq (G:=G) c h0 h1;refine aH ?_;intros;apply aj;unfold fB;rfl
theorem se {G:Glo}(s:ω)(hl:s.length<=9223372036854775807):ai prog G 81 [.str s] (.agg [.int .i64 (gJ s).e,.int .i64 (gJ s).p]):=by
 refine aw func81 call81 λC hC hGL=> ?_;have h1:=H8 (G:=G) s hl;have h2:=mr (G:=G) s 140 fB hl (λc hc=>CB (G:=G) c a_ a_);have h3:=il (G:=G);have h4:=fb (G:=G);have hn:xh s=0->fQ s<s.length/\fQ s≠0:=λh=>by
  unfold xh at h;split at h
  ·cases h
  ·exact⟨(Dz (by assumption)).1,by assumption⟩
 have hln:xh s=0->(s.take (fQ s)).length=fQ s:=λh=>by
  have:=(hn h).1;rw[i_];omega
 have hs58:xh s=0->(s=s.take (fQ s)++[58]↔fQ s+1=s.length):=λh=>by
  have h1:=hn h;have h2:=hln h;have h3:=(Dz h1.2).2.1;constructor
  ·intro e;have:=congrArg List.length e;rw[d_,h2] at this;simpa using this.symm
  ·intro e;refine List.ext_getElem (by rw[d_,h2];simpa using e.symm) (λj j1 j2=> ?_);by_cases hj:j<fQ s
   ·rw[List.getElem_append_left a_,List.getElem_take]
   ·rw[List.getElem_append_right a_];have ej:j=fQ s:=by omega
    subst ej;rw[bx a_] at h3;have:s[fQ s]=58:=UInt8.toNat_inj.1 (by simpa using h3);simp[h2,this]
 have k1:=@h3;refine xw ?_;repeat' first|exact .n|apply Lc.mk
 all_goals intros
 ·apply aj;have e:fQ s=0:=by rename_i hb;unfold xh at hb;split at hb;assumption;exact absurd rfl hb
  rw[gJ,xh,if_pos e,if_pos e];rfl
 ·apply aj;rw[gJ,if_neg (hn (by assumption)).2,if_pos a_];rfl
 ·apply aj;rw[gJ,if_neg (hn (by assumption)).2,if_neg a_,if_pos ((hs58 (by assumption)).1 (by assumption))];rfl
 ·apply aj;rw[gJ,if_neg (hn (by assumption)).2,if_neg a_,if_neg (λh=>absurd ((hs58 (by assumption)).2 h) (by assumption))];rfl
end
section
attribute [local irreducible] bJ au aa ax aR ab ad aC dm kY eY fw gp
def nS (r:Int):Bool:=decide (0<=r/\r<=1114111/\(r<55296\/57343<r))
theorem nR {r:Int}:nS r=true↔(0<=r/\r<=1114111/\(r<55296\/57343<r)):=by simp[nS]
theorem WM {r:Int}:nS r=false↔¬(0<=r/\r<=1114111/\(r<55296\/57343<r)):=by simp[nS]
attribute [local irreducible] nS
theorem pK {G:Glo}(r:Int):ai prog G 197 [.int .i64 r] (.bool (nS r)):=by
 refine aw func197 call197 λC hC hGL=> ?_;refine xw ?_;repeat' first|exact .n|apply Lc.mk
 all_goals intros
 all_goals (apply aj)
 all_goals (refine congrArg AVal.bool ?_)
 all_goals (rw[w_];simp[nR,oo,o8,Bool.not_eq_true']<;>omega)
theorem L0 {k j:IntKind}{a b c e:Int}{H':Heap}(h:c=a/\e=b):Rt (λ(x:co) (H:Heap)=>x= .ret (.tuple [.int k c,.int j e])/\H=[]) (.tuple [.int k a,.int j b]) H':=by
 obtain⟨rfl,rfl⟩:=h;exact aj rfl
theorem D8 {G:Glo}(s:ω):ai prog G 151 [.str s] (.tuple [.int .i64 ((aC s).1:Int),.int .i64 ((aC s).2:Int)]):=by
 refine aw func151 call151 λC hC hGL=> ?_;repeat' (first|(conv=>whnf);first|refine .w ?_|refine .v ?_|refine ez ?_ ?_<;>(intro hb;try exact dd hb)|apply aT|apply bP|(apply cR<;>intro hb)|(apply cX;intro hbd)|(apply bG;exact pK _)|(apply aV (i:=0) rfl;exact pK _)|(apply cY;intro bl)|(apply dv;intro va vk vc hva)|(apply du;intro v)|(apply dw;intro bl cap hcap)|apply dP|(apply dq<;>intro hnx)|apply ef mixed hC hGL be|(apply cq;assumption;exact pK _;exact rfl)|(show Rt _ _ _;exact cP)|fail)
 all_goals try conv=>whnf
 any_goals (refine rds hC hGL 4 ?_)
 repeat' (first|(conv=>whnf);first|refine .w ?_|refine .v ?_|refine ez ?_ ?_<;>(intro hb;try exact dd hb)|apply aT|apply bP|(apply cR<;>intro hb)|(apply cX;intro hbd)|(apply bG;exact pK _)|(apply aV (i:=0) rfl;exact pK _)|(apply cY;intro bl)|(apply dv;intro va vk vc hva)|(apply du;intro v)|(apply dw;intro bl cap hcap)|apply dP|(apply dq<;>intro hnx)|apply ef mixed hC hGL be|(apply cq;assumption;exact pK _;exact rfl)|(show Rt _ _ _;exact cP)|fail)
 all_goals try conv=>whnf
 all_goals (refine L0 ?_)
 all_goals (
  try simp only[show Int.toNat 0=0 from rfl,show Int.toNat 1=1 from rfl,show Int.toNat (1+1)=2 from rfl,show Int.toNat (1+1+1)=3 from rfl,Int.ofNat_toNat,nR,WM,oo,o8] at*
  generalize hz:aC s=z
  unfold aC ca ll BC BB BA at hz
  generalize aa s 0=b0 at*
  generalize aa s 1=b1 at*
  generalize aa s 2=b2 at*
  generalize aa s 3=b3 at*
  generalize s.length=l at*)
 all_goals (
  repeat' (split at hz;try (exfalso;omega))
  all_goals (try subst z)
  all_goals (first
   |exact⟨rfl,rfl⟩
   |(simp only[l_,Wk,n_,aad] at*;first|(exfalso;omega)|omega)))
end
section
attribute [local irreducible] bJ au aa ax aR ab ad aC dm kY eY fw gp
theorem BV {G:Glo}(s:ω)(hl:s.length<=9223372036854775807):ai prog G 91 [.str s] (.int .i64 (dm s)):=by
 refine aw func91 call91 λC hC hGL=> ?_;have hle:=λk=>sm (s.drop k);have k1:=@D8;refine aH ?_;intros;refine lp hC hGL (λ(i:Nat)=>[(0,.str s),(3,.int .i64 i)]) (λ_=>[]) (λi=>i<=s.length/\kY s=(kY (s.drop i)).map (· +i)) (λi=>s.length-i) 0 ?_ ae rfl ?_
 ·exact⟨Nat.zero_le _,by simp⟩
 rintro i ⟨hi,hb0⟩;have hn:=hle i;rw[k_] at hn;have k1:=@D8;refine xw ?_;repeat' first|exact .n|apply Lc.mk
 all_goals intros
 ·apply aj;refine congrArg (AVal.int .i64) ?_;have h1:=qq (s.drop i) (by rw[k_];omega);rw[if_pos a_] at h1;rw[h1] at hb0;simp only[dm,hb0,aal,Nat.zero_add]
 ·have h1:=qq (s.drop i) (by rw[k_];omega);rw[if_neg a_] at h1;refine cQ (i+(aC (s.drop i)).2) ?_ ?_ ae rfl
  ·refine⟨a_,?_⟩;rw[hb0,h1,Q_];cases kY (s.drop (i+(aC (s.drop i)).2))<;>simp<;>omega
  ·omega
 ·apply aj;refine congrArg (AVal.int .i64) ?_;rw[GU (s.drop i) (by rw[k_];omega)] at hb0;simp only[dm,hb0,Option.map_none]
end
section
def iJ (lines:Bool)(c:Int):Bool:=decide ((c<32/\c≠9/\(c≠10\/lines=false))\/c=127)
def fo (lines:Bool)(s:ω):Bool:=decide (dm s<0/\gh (iJ lines) s<0)
end
section
theorem iA {l:List ω}{k:Nat}:(l.getD k []).length<=Lib.lens l:=by
 rw[f_];cases h:l[k]? with
 |none=>simp
 |some x=>
  have h1:=Lib.lens_take_succ l k x h;have h2:=Lib.lens_take_le l (k+1);simp only[aam];omega
end
section
theorem MS.below {C:Ctx}{R:Seal}{H:Heap}{w w':World}(h:MS C R H w)(hb:Below w.heap.size w w'):MS C R H w':=by
 have hlt:∀{b:Nat} {o:Obj},w.heap[b]? =some o->b<w.heap.size:=λ{b o} h1=>by
  rcases aaj b w.heap.size with h|h
  ·exact h
  ·rw[Array.getElem?_eq_none h] at h1;cases h1
 refine⟨λb o ho=> ?_,h.ge,h.fresh,⟨λx hx=> ?_,h.heap.nodup,h.heap.apart⟩,h.own,?_⟩
 ·have h1:=h.sealed b o ho;rw[hb.block b (hlt h1),h1]
 ·exact HEnt.holds_mono (h.heap.holds x hx) (Seal.le_refl R) (λb hbk=>hb.block b (HEnt.blk_lt (h.heap.holds x hx) hbk))
 ·exact⟨hb.os.trans h.ext.os,hb.tape.trans h.ext.tape,hb.output.trans h.ext.output,aai h.ext.size hb.size,λb hlt hn=>by
   rw[hb.block b (Nat.lt_of_lt_of_le hlt h.ext.size)];exact h.ext.block b hlt hn⟩
theorem vy {P:Program}{G:Glo}{f:FuncId}{avs:List AVal}{H:Heap}{v:AVal}(u:Value)(hu:∀R,bn R v u)(hc:∀args w,(callFunc f args).run P w= .ok (.enter f args) w)
  (h:∀C R args,dy R avs args.toList->∀w,G.p R->MS C R H w->Calls P f args w λe w'=>e= .returned u/\Below w.heap.size w w'):ad P G f avs H (λr H'=>r= .ret v/\H'=H):=by
 intro R w args hG hm ha;refine .inl ⟨hc args w,(h _ R args ha w hG hm).mono ?_⟩;rintro e w' ⟨rfl,hb⟩;exact⟨.ret v,H,R,⟨rfl,rfl⟩,⟨_,rfl,hu R⟩,hm.below hb⟩
def bu (l:List ω):List AVal:=l.map .str
def aB (l:List ω)(i:Nat):AVal:=.str (l.getD i [])
theorem gt (l:List ω):∀i,i<l.length->(aB l i).cells=((bu l).drop (i*1)).take 1/\(aB l i).plain=true:=by
 intro i hi;refine⟨?_,rfl⟩;have:i<(bu l).length:=by simpa[bu] using hi
 rw[Nat.mul_one,A_ this];simp[aB,AVal.cells,bu,List.getD,hi]
theorem cg (l:List ω)(s:ω):bu l++[.str s]=bu (l++[s]):=by simp[bu]
theorem Az (l:List ω):(bu l).length=l.length:=by simp[bu]
def XT (l:List ω):List ByteArray:=l.map λs=>⟨s.toArray⟩
theorem GV (l:List ω):(XT l).map (·.data.toList)=l:=by
 unfold XT;rw[List.map_map];refine(List.map_congr_left (g:=id) λx _=> ?_).trans (List.map_id l);simp
theorem wf (l:List ω):(XT l).length=l.length:=by simp[XT]
theorem qF {R:Seal}:∀{l:List ω} {vs:List Value},cb R (bu l) vs->vs=l.map λs=>Value.string ⟨s.toArray⟩
 |[],_,h=>h
 |s::l,_,h=>by
  obtain⟨v,t,rfl,h1,h2⟩:=h;have h1:[v]=[.string ⟨s.toArray⟩]:=h1;rw[o_] at h1
  rw[qF h2,h1.1]
  rfl
theorem L4 {R:Seal}{w:World}{bl o:Nat}{Cs:Array Value}{e:TypeId}{fz:Nat×Nat}{l:List ω}(hb:w.heap[bl]? =some (.cells Cs e fz))(hl:cb R (bu l) ((Cs.toList.drop o).take l.length)):
  ∀(j:Nat) x,(XT l)[j]? =some x->w.cell? ⟨bl,o+j,none⟩=some (.string x):=by
 intro j x hx;have hj:j<l.length:=by have:=(List.getElem?_eq_some_iff.1 hx).1;rwa [wf] at this
 have:=qF hl;simp only[World.cell?,hb];have h2:((Cs.toList.drop o).take l.length)[j]? =(l.map λs=>Value.string ⟨s.toArray⟩)[j]? :=by rw[this]
 rw[List.getElem?_take_of_lt hj,List.getElem?_drop] at h2;have hx:x=⟨(l[j]).toArray⟩:=by
  unfold XT at hx;rw[List.getElem?_map,y_ hj] at hx;simpa using hx.symm
 rw[hx];simpa[y_ hj] using h2
theorem MM {R:Seal}{w:World}(hs:fh R w){l:List ω}{v:Value}(h:bn R (.list 1 l.length (aB l)) v):∃a cap,v= .slice a l.length cap/\l.length<=cap/\(l=[]\/∃b o C e fz,a=some ⟨b,o,none⟩/\w.heap[b]? =some (.cells C e fz)/\cb R (bu l) ((C.toList.drop o).take l.length)):=by
 obtain⟨a,cap,e1,hle,h7⟩:=bC h rfl;simp only[o_,and_true] at e1;refine⟨a,cap,e1,hle,?_⟩;rcases h7 with h7|⟨b,o,C,e,fz,ha,hR,hall⟩
 ·exact .inl (s_ h7)
 ·refine .inr ⟨b,o,C,e,fz,ha,hs _ _ hR,?_⟩;have key:∀(m:Nat) (l':List ω) (o':Nat),l'.length=m->(∀i,i<m->bI R (aB l' i) ((C.toList.drop (o'+i*1)).take 1))->cb R (bu l') ((C.toList.drop o').take m):=by
   intro m;induction m with
   |zero=>intro l' o' hl _;rw[s_ hl];simp[bu,cb]
   |succ m ih=>
    intro l' o' hl hi
    match l',hl with
    |s::t,hl=>
     have h0:=hi 0 a_;have h0:(C.toList.drop (o'+0*1)).take 1=[.string ⟨s.toArray⟩]:=h0;rw[Nat.zero_mul,Nat.add_zero] at h0;have hlt:o'<C.toList.length:=by
      rcases aaj o' C.toList.length with h|h
      ·exact h
      ·rw[List.drop_eq_nil_of_le h] at h0;cases h0
     rw[A_ hlt] at h0 ⊢;simp only[aac,aaa,o_,and_true] at h0;rw[aac,h0];refine⟨_,_,rfl,rfl,ih t (o'+1) (by simpa using hl) (λi h=> ?_)⟩;have:=hi (i+1) a_;rw[show o'+(i+1)*1=o'+1+i*1 by omega] at this;exact this
  exact key _ l o rfl hall
theorem yp {l:List ω}{sep:ω}{w:World}{b o cap:Nat}{C:Array Value}{e:TypeId}{fz:Nat×Nat}{R:Seal}(hb:w.heap[b]? =some (.cells C e fz))(hl:cb R (bu l) ((C.toList.drop o).take l.length))(hcap:l.length<=cap)(hN:l.length<=140737488355328)(hlen:(Lib.join l sep).length<=140737488355328):
  Calls prog 196 #[.slice (some ⟨b,o,none⟩) l.length cap,.string ⟨sep.toArray⟩] w λe w'=>e= .returned (.string ⟨(Lib.join l sep).toArray⟩)/\Below w.heap.size w w':=by
 have hlt:b<w.heap.size:=by
  rcases aaj b w.heap.size with h|h
  ·exact h
  ·rw[Array.getElem?_eq_none h] at hb;cases hb
 have:=Tryz.strings_Join b o cap (XT l) ⟨sep.toArray⟩ w (L4 hb hl) hlt (by rw[wf];exact hN) (by rw[wf];exact hcap) (by rw[GV];simpa using hlen);rw[wf,GV] at this;simpa using this
theorem Bb {sep:ω}{w:World}{a:Option Addr}{cap:Nat}:Calls prog 196 #[.slice a 0 cap,.string ⟨sep.toArray⟩] w λe w'=>e= .returned (.string ⟨#[]⟩)/\Below w.heap.size w w':=by
 refine(strings_Join_none a cap ⟨sep.toArray⟩ w).mono ?_;rintro e w' ⟨rfl,rfl⟩;exact⟨rfl,Below.refl _ _⟩
theorem ft {G:Glo}{eT:Option TypeId}(l:List ω)(sep:ω)(v:Value)(hN:l.length<=140737488355328)(hlen:(Lib.join l sep).length<=140737488355328):
  ad prog G 196 [.raw v,.str sep] [.row v eT 1 l.length (bu l)] (λr H=>r= .ret (.str (Lib.join l sep))/\H=[.row v eT 1 l.length (bu l)]):=by
 refine vy (.string ⟨(Lib.join l sep).toArray⟩) (λR=>aD.2 rfl) call196 ?_;rintro C R args ⟨x,t,e,hx,y,t',e',hy,rfl⟩ w hG hm;obtain rfl:=aq.1 hx;obtain rfl:=aD.1 hy;subst e';obtain rfl:=fR e;obtain⟨hlen',hx'⟩:=hm.heap.holds _ (List.mem_singleton.2 rfl);rcases hx' with⟨rfl,h0⟩|⟨bl,cap,Cs,el,fz,rfl,hb,hcs,hnc,hl,hfz⟩
 ·have:l=[]:=s_ h0;subst this;exact Bb
 ·exact yp (o:=0) hb (by simpa using hl) hnc hN hlen
theorem strings_Join {G:Glo}(l:List ω)(sep:ω)(hN:l.length<=140737488355328)(hlen:(Lib.join l sep).length<=140737488355328):
  ai prog G 196 [.list 1 l.length (aB l),.str sep] (.str (Lib.join l sep)):=by
 refine bO rfl call196 ?_;rintro R args ⟨x,t,e,hx,y,t',e',hy,rfl⟩ w hG hs;obtain rfl:=aD.1 hy;subst e';obtain⟨a,cap,rfl,hcap,h7⟩:=MM hs hx;obtain rfl:=fR e;rcases h7 with rfl|⟨b,o,C,e,fz,rfl,hb,hl⟩
 ·exact Bb
 ·exact yp hb hl hcap hN hlen
end
section
theorem FA (v:Value)(n:Nat):(madeCells #[v] n).toList=List.replicate n v:=by
 unfold madeCells;refine List.ext_getElem (by simp) (λi h1 h2=> ?_);simp[Nat.mod_one]
section
variable {P:Program} [Tab P] {C:Ctx} {n:Nat} {env:Env} {H:Heap} {Q:aL->Env->Heap->Prop} {ops:Array Oper} {rest:List Oper} {G:Glo} {GL:List (Nat×List AVal)}
variable {d:Nat} {t:TypeId} {p:String} {af:Array Edge} {g:Option (Nat×Bool)} {b:Bool}
variable {x y:Operand} {T e:TypeId} {xT xe:TI}
theorem oQ {ρ:Operand->Value}{w w':World}{a c u:Value}(ha:ρ x=a)(hc:ρ y=c)(hr:(Instr.makeSlice T a c).run P w= .ok u w'):
  (execOp ρ {dst:=some d,op:=.makeSlice T x y,type:=t,pos:=p,after:=af,guard:=g}).run P w= .ok (.value u) w':=by
 simp only[execOp,ha,hc,e_,hr,c_,h_]
theorem p6 {k1 k2:IntKind}{m:Nat}(hC:C.G=G)(hGL:ab G GL)(hx:ah env x=some (.int k1 (m:Int)))(hy:ah env y=some (.int k2 (m:Int)))(hm0:m<=1000000000000)(ht:bj P T=some xT)(hd:xT.desc= .slice e)(he:bj P e=some xe)(hz:xe.zero=some (.int .u8 0))(hs:xe.size=1)(hb:xe.bytes=1)
  (hg:aQ ops env g=some (b,b)) (hdn:Nat.ble (d+1) n=true)
  (k:∀bl,mN P C n G GL ops Q rest ((d,.own H.length (.slice (some ⟨bl,0,none⟩) m m))::env) (H++[.buf bl (List.replicate m 0) m])):
  uD P C n ops ({dst:=some d,op:=.makeSlice T x y,type:=t,pos:=p,after:=af,guard:=g}::rest) env H Q:=by
 refine⟨gR (X:=Nat) (av:=λbl=>.raw (.slice (some ⟨bl,0,none⟩) m m)) (H':=λbl=>.buf bl (List.replicate m 0) m::H) hg rfl hdn (λR ρ w hm hf=> ?_)
  (λbl=>mQ (fS (i:=H.length) rfl (fm hC hGL _ _ _ (k bl))))⟩
 obtain⟨i,hi,his,hib,hiz,_⟩:=ii he
 have hr:=run_make (P:=P) w T e i (.int .u8 0) (by rw[bR ht,hd]) hi (by rw[hiz,hz]) k1 k2 (m:Int) (m:Int) a_ a_ (by rw[hib,hb];omega) a_
 simp only[B_] at hr
 have hrun:=oQ (d:=d) (t:=t) (p:=p) (af:=af) (g:=g) (ap.1 (hf _ _ hx)) (ap.1 (hf _ _ hy)) hr
 refine⟨w.heap.size,_,_,R,hrun,Seal.le_refl R,aq.2 rfl,?_⟩
 ·rw[lT]
  refine hm.alloc _ _ rfl ⟨by simp,_,_,_,gn w _,?_,.inl (Nat.le_refl _)⟩
  rw[his,hs,Nat.mul_one,show(Value.int .u8 0).cells=#[.int .u8 0] from rfl,FA]
  have:gp (List.replicate m 0) m=List.replicate m (.int .u8 0):=by simp[gp,byteA]
  rw[this]
  exact jq (show bI R (.int .u8 0) [.int .u8 0] from rfl) _
theorem tQ {k1 k2:IntKind}{m:Nat}(hC:C.G=G)(hGL:ab G GL)(hx:ah env x=some (.int k1 0))(hy:ah env y=some (.int k2 (m:Int)))(hm0:m<=1000000000)(ht:bj P T=some xT)(hd:xT.desc= .slice e)(he:bj P e=some xe){z:Value}(hz:xe.zero=some z)(hb:Nat.ble xe.bytes 1024=true)
  (hg:aQ ops env g=some (b,b)) (hdn:Nat.ble (d+1) n=true)
  (k:∀bl,mN P C n G GL ops Q rest ((d,.own H.length (.slice (some ⟨bl,0,none⟩) 0 m))::env) (H++[.row (.slice (some ⟨bl,0,none⟩) 0 m) (some e) xe.size 0 []])):
  uD P C n ops ({dst:=some d,op:=.makeSlice T x y,type:=t,pos:=p,after:=af,guard:=g}::rest) env H Q:=by
 refine⟨gR (X:=Nat) (av:=λbl=>.raw (.slice (some ⟨bl,0,none⟩) 0 m)) (H':=λbl=>.row (.slice (some ⟨bl,0,none⟩) 0 m) (some e) xe.size 0 []::H) hg rfl hdn (λR ρ w hm hf=> ?_)
  (λbl=>mQ (fS (i:=H.length) rfl (fm hC hGL _ _ _ (k bl))))⟩
 obtain⟨i,hi,his,hib,hiz,_⟩:=ii he;have hb:=v_ hb;have hmul:xe.bytes*m<=1024*1000000000:=Nat.mul_le_mul hb hm0;have hr:=run_make (P:=P) w T e i z (by rw[bR ht,hd]) hi (by rw[hiz,hz]) k1 k2 0 (m:Int) a_ a_ (by rw[hib,<-Int.natCast_mul];omega) a_;simp only[B_,Int.toNat_zero] at hr;have hrun:=oQ (d:=d) (t:=t) (p:=p) (af:=af) (g:=g) (ap.1 (hf _ _ hx)) (ap.1 (hf _ _ hy)) hr;refine⟨w.heap.size,_,_,R,hrun,Seal.le_refl R,aq.2 rfl,?_⟩
 ·rw[lT];refine hm.alloc _ _ rfl ⟨by simp,.inr ⟨_,_,_,_,_,rfl,gn w _,?_,Nat.zero_le _,?_,.inl (Nat.le_refl _),λt ht=>by cases ht;rfl⟩⟩
  ·rw[size_madeCells,his]
  ·simp[cb]
end
end
section
section
variable {P:Program} [Tab P] {C:Ctx} {n:Nat} {env:Env} {H:Heap} {Q:aL->Env->Heap->Prop} {ops:Array Oper} {rest:List Oper} {G:Glo} {GL:List (Nat×List AVal)}
variable {d:Nat} {t:TypeId} {p:String} {af:Array Edge} {g:Option (Nat×Bool)} {b:Bool}
variable {x y:Operand} {T T2 e:TypeId} {xT xe:TI}
theorem Pz {s s2:ω}{cap o:Nat}(ho:o+s2.length<=s.length)(hc:s.length<=cap):
  gp (s.take o++s2++s.drop (o+s2.length)) cap=(gp s cap).take o++s2.map byteA++(gp s cap).drop (o+s2.length):=by
 have e:(s.take o++s2++s.drop (o+s2.length)).length=s.length:=by
  simp only[d_,i_,k_];omega
 unfold gp;rw[e,Nm,Nm,List.map_take,List.map_drop];rw[List.take_append_of_le_length (by simp;omega),List.drop_append_of_le_length (by simp;omega),<-An]
theorem EK {ρ:Operand->Value}{ty:TypeId}{w w':World}{a c u:Value}(ha:ρ x=a)(hc:ρ y=c)(hr:(Builtin.copy_ #[T,T2] t #[a,c]).run P w= .ok u w'):
  (execOp ρ {dst:=some d,op:=.call {callee:=.builtin .copy,args:=#[x,y],argTypes:=#[T,T2]},type:=t,pos:=p,after:=af,guard:=g}).run P w= .ok (.value u) w':=by
 simp only[execOp,resolve,e_,h_,c_,invoke,X_,S_,Z_,ha,hc];simp only[builtin,e_,hr,c_,h_]
theorem Im {i bl l c o:Nat}{k0:IntKind}(hC:C.G=G)(hGL:ab G GL)(hx:ah env x=some (.own i (.slice (some ⟨bl,0,none⟩) l c)))(hy:ah env y=some (.int k0 (o:Int)))(ho:o<=l)(hoc:o<c)(ht:bj P T=some xT)(hd:xT.desc= .slice e)(he:bj P e=some xe)(hs:xe.size=1)
  (hg:aQ ops env g=some (b,b)) (hdn:Nat.ble (d+1) n=true)
  (k:mN P C n G GL ops Q rest ((d,.own i (.slice (some ⟨bl,o,none⟩) (l-o) (c-o)))::env) H):
  uD P C n ops ({dst:=some d,op:=.slice T x (some y) none none,type:=t,pos:=p,after:=af,guard:=g}::rest) env H Q:=by
 refine⟨uz hg rfl hdn (av:=.own i (.slice (some ⟨bl,o,none⟩) (l-o) (c-o))) (H':=H) (λR ρ w hm hf=> ?_) (fm hC hGL _ _ _ k)⟩;have hel:P.elem T=e:=by simp[Program.elem,bR ht,hd]
 have hr:=run_slice_l (P:=P) w T (some ⟨bl,0,none⟩) l c (by rw[bR ht,hd,hel]) k0 (o:Int) a_ a_;have hsz:=aM he w;refine⟨.slice (some ⟨bl,o,none⟩) (l-o) (c-o),w,R,?_,Seal.le_refl R,aE.2 ⟨rfl,rfl⟩,hm⟩;simp only[execOp,(aE.1 (hf _ _ hx)).1,aal,Option.map_none,ap.1 (hf _ _ hy),e_,run_sliceAt_slice w T _ _ _ _ (show P.underlying T=some (.slice (P.elem T)) by rw[bR ht,hd,hel]),hr,hel,hsz,c_,h_];simp only[sliced,B_];rw[if_neg a_];simp[hs,Addr.add];by_cases h0:o=0
 ·simp[h0]
 ·simp[h0]
end
end
section
def Ru:AVal->Option Value
 |.own _ v=>some v
 |.raw v=>some v
 |.int k n=>some (.int k n)
 |.bool b=>some (.bool b)
 |_=>none
def yZ:List AVal->Option (List Value)
 |[]=>some []
 |a::t=>match Ru a,yZ t with
  |some v,some r=>some (v::r)
  |_,_=>none
theorem Ux {R:Seal}{a:AVal}{v x:Value}(h:Ru a=some v)(hr:bn R a x):x=v:=by
 cases a<;>simp only[Ru,g_,reduceCtorEq] at h<;>subst h
 ·exact aO.1 hr
 ·exact ap.1 hr
 ·exact aq.1 hr
 ·exact(aE.1 hr).1
theorem sU {R:Seal}:∀{l:List AVal} {vs xs:List Value},yZ l=some vs->dy R l xs->xs=vs
 |[],vs,xs,h,hr=>by
  simp only[yZ,g_] at h
  subst h;simpa[dy] using hr
 |a::t,vs,xs,h,hr=>by
  simp only[yZ] at h;split at h
  ·rename_i v r hv ht;simp only[g_] at h;subst h;obtain⟨x,ys,rfl,h1,h2⟩:=hr;rw[Ux hv h1,sU ht h2]
  ·cases h
def Ra (env:Env)(fv:Operand)(args:List Operand):Option Deferred:=
 match ah env fv with
 |some (.func (.func f) l1 l2)=>match yZ l1,kH env args,yZ l2 with
  |some x1,some avs,some x2=>match yZ avs with
   |some xs=>some {target:=.fn (.func f) x2.toArray,args:=(x1++xs).toArray}
   |none=>none
  |_,_,_=>none
 |_=>none
theorem D9 {P:Program}{o:Oper}{a:Act}{next next':Act->World->Prop}{Q Q':Exit->Act->World->Prop}{r:Result Next}(hn:∀a w,next a w->next' a w)
  (hp:∀ch a w,Q (.panic ch) a w->Q' (.panic ch) a w) (ho:LetsOut Q->LetsOut Q') (hh:o.upon P a next Q r):o.upon P a next' Q' r:=by
 cases r with
 |ok n w'=>
  cases n<;>simp only[Oper.upon] at hh ⊢ <;>
   first
    |exact hn _ _ hh
    |exact Calls.mono hh (λe w'' he=>by cases e<;>first|exact hn _ _ he|exact hp _ _ _ he|exact ho he)
    |exact Rows.mono hh (λ_ _ he=>hn _ _ he)
 |halt x w'=>cases x<;>simp only[Oper.upon] at hh ⊢ <;>exact hp _ _ _ hh
def OG (P:Program)(ops:Array Oper)(l:List Oper)(Q:Exit->Act->World->Prop):Exit->Act->World->Prop
 |.normal,a,w=>wpList P ops Q l a w
 |e,a,w=>Q e a w
theorem qW {P:Program}{ops:Array Oper}{l:List Oper}{Q:Exit->Act->World->Prop}:∀{pre:List Oper} {a:Act} {w:World},wpList P ops (OG P ops l Q) pre a w->wpList P ops Q (pre++l) a w
 |[],a,w,h=>h
 |o::pre,a,w,h=>by
  simp only[Lu,wpList] at h ⊢;split
  ·rename_i hw;rw[if_pos hw] at h;rcases h with h|⟨h1,h2⟩
   ·exact .inl (D9 (λ_ _=>qW) (λ_ _ _=>id) (λ⟨a,w,q⟩=>⟨a,w,q⟩) h)
   ·exact .inr ⟨h1,h2⟩
  ·rename_i hw;rw[if_neg hw] at h;exact qW h
def withD (C:Ctx)(D:List Deferred):Ctx:=⟨C.w0,C.R0,C.B0,C.G,C.hG,D⟩
theorem MS.withD {C:Ctx}{R:Seal}{H:Heap}{w:World}(h:MS C R H w)(D:List Deferred):MS (withD C D) R H w:=⟨h.sealed,h.ge,h.fresh,h.heap,h.own,h.ext⟩
theorem MS.ofD {C:Ctx}{R:Seal}{H:Heap}{w:World}{D:List Deferred}(h:MS (Proofs.YtgpjhbhdbjdlgaaGreatDoor.withD C D) R H w):MS C R H w:=⟨h.sealed,h.ge,h.fresh,h.heap,h.own,h.ext⟩
def Se (C:Ctx)(n:Nat)(Q:List Deferred->aL->Env->Heap->Prop)(e:Exit)(a:Act)(w:World):Prop:=
 ∃D x env H R,Q D x env H/\aG R x e/\MS C R H w/\FS D n R env a
def gj (P:Program)(C:Ctx)(n:Nat)(c:Code)(env:Env)(H:Heap)(Q:List Deferred->aL->Env->Heap->Prop):Prop:=
 ∀R a w,MS C R H w->FS C.D n R env a->c.wp P (Se C n Q) a w
section
variable {P:Program} {C:Ctx} {n:Nat} {env:Env} {H:Heap} {Q:List Deferred->aL->Env->Heap->Prop} {G:Glo} {GL:List (Nat×List AVal)}
theorem RS {c:Code}(h:bJ P C n c env H (Q C.D)):gj P C n c env H Q:=
 λR a w hm hf=>wp_mono (h R a w hm hf) λ_ _ _ ⟨x,en,H',R',q,r⟩=>⟨C.D,x,en,H',R',q,r⟩
theorem dQ [Tab P](hC:C.G=G)(hGL:ab G GL){c:Code}(h:gV P C n G GL c env H (Q C.D)):gj P C n c env H Q:=RS (dg hC hGL _ _ _ _ h)
def Yz (K:List Deferred->Env->Heap->Prop)(Q:List Deferred->aL->Env->Heap->Prop):List Deferred->aL->Env->Heap->Prop
 |D,.normal,e,h=>K D e h
 |D,x,e,h=>Q D x e h
theorem fq {x y:Code}(h:gj P C n x env H (Yz (λD e h=>gj P (withD C D) n y e h Q) Q)):gj P C n (.seq x y) env H Q:=by
 intro R a w hm hf;refine wp_seq (wp_mono (h R a w hm hf) ?_);rintro e a' w' ⟨D,x,en,H',R',q,er,hm',hf'⟩;cases x with
 |normal=>
  simp only[aG] at er;subst er;exact wp_mono (q R' a' w' (hm'.withD D) hf') λ_ _ _ ⟨D2,x,en,H',R',q,er,hm2,hf2⟩=>⟨D2,x,en,H',R',q,er,hm2.ofD,hf2⟩
 |exit i=>simp only[aG] at er;subst er;exact⟨D,.exit i,en,H',R',q,rfl,hm',hf'⟩
 |goto i=>simp only[aG] at er;subst er;exact⟨D,.goto i,en,H',R',q,rfl,hm',hf'⟩
 |ret=>simp only[aG] at er;subst er;exact⟨D,.ret,en,H',R',q,rfl,hm',hf'⟩
 |panic v=>obtain⟨y,rfl,hr⟩:=er;exact⟨D,.panic v,en,H',R',q,⟨y,rfl,hr⟩,hm',hf'⟩
theorem GY {c:Operand}{x y:Code}{b:Bool}(hc:ah env c=some (.bool b))(ht:b=true->gj P C n x env H Q)(hf:b=false->gj P C n y env H Q):gj P C n (.cond c x y) env H Q:=by
 intro R a w hm hfs;refine wp_cond (aO.1 (hfs.eval hc)) ?_;cases b with
 |true=>exact ht rfl R a w hm hfs
 |false=>exact hf rfl R a w hm hfs
structure Df (d:Option Deferred) (K:Deferred->Prop):Prop where
 h:∃x,d=some x/\K x
def Xt (C:Ctx)(fv:Operand)(args:List Operand)(Q:List Deferred->aL->Env->Heap->Prop):aL->Env->Heap->Prop
 |.normal,e,h=>Df (Ra e fv args) λd=>Q (d::C.D) .normal e h
 |x,e,h=>Q C.D x e h
theorem j5 [Tab P]{id:Nat}{ops:Array Oper}{fv:Operand}{args:Array Operand}{ts:Array TypeId}{ty:TypeId}{pos:String}{af:Array Edge}(hC:C.G=G)(hGL:ab G GL)
  (hl:ops.toList=ops.toList.dropLast++[{dst:=none,op:=.defer {callee:=.value fv,args:=args,argTypes:=ts},type:=ty,pos:=pos,after:=af,guard:=none}])
  (h:mN P C n G GL ops (Xt C fv args.toList Q) ops.toList.dropLast env H):gj P C n (.region id ops false) env H Q:=by
 intro R a w hm hf;refine wp_region_list ?_;rw[hl];refine qW ?_;have h1:=fm (C:=C) hC hGL _ _ _ h R a w hm hf;have key:∀{l:List Oper} {a w},wpList P ops (mg C n (Xt C fv args.toList Q)) l a w->wpList P ops (OG P ops [{dst:=none,op:=.defer {callee:=.value fv,args:=args,argTypes:=ts},type:=ty,pos:=pos,after:=af,guard:=none}] (Se C n Q)) l a w:=by
  have hq:∀e a w,mg C n (Xt C fv args.toList Q) e a w->OG P ops [{dst:=none,op:=.defer {callee:=.value fv,args:=args,argTypes:=ts},type:=ty,pos:=pos,after:=af,guard:=none}] (Se C n Q) e a w:=by
   rintro e a' w' ⟨x,en,H',R',q,er,hm',hf'⟩;cases x with
   |normal=>
    simp only[aG] at er;subst er;obtain⟨d,hd,q⟩:=Df.h q;refine wpList_plain rfl λK hK=> ?_;have hrun:(execOp a'.eval {dst:=none,op:=.defer {callee:=.value fv,args:=args,argTypes:=ts},type:=ty,pos:=pos,after:=af,guard:=none:Oper}).run P w'= .ok (.defer d) w':=by
     unfold Ra at hd;split at hd
     ·rename_i f l1 l2 hfv;split at hd
      ·rename_i x1 avs x2 h1 h2 h3;split at hd
       ·rename_i xs h4;simp only[g_] at hd;subst hd;obtain⟨⟨y1,y2,ey,r1,r2⟩,_⟩:=bC (hf'.eval hfv) rfl,trivial;simp only[o_,and_true] at ey;have e1:=sU h1 r1;have e2:=sU h3 r2;have e3:=sU h4 (i6 (λx av h=>hf'.eval h) h2);have e3':(args.map a'.eval)=xs.toArray:=by
         apply Array.ext';simpa using e3
        have e1':y1=x1.toArray:=by apply Array.ext';simpa using e1
        have e2':y2=x2.toArray:=by apply Array.ext';simpa using e2
        simp only[execOp,resolve,ey,e3',e1',e2',Deferred.ofValue,e_,h_,c_];simp
       ·cases hd
      ·cases hd
     ·cases hd
    rw[Oper.wp,hrun,Oper.upon_defer];refine hK _ _ (wpList_nil ⟨_,.normal,en,H',R',q,rfl,hm',?_⟩);exact⟨λk v x=>hf'.fr k v x,hf'.size,by show _::a'.defers=_;rw[hf'.defers]⟩
   |exit i=>simp only[aG] at er;subst er;exact⟨C.D,.exit i,en,H',R',q,rfl,hm',hf'⟩
   |goto i=>simp only[aG] at er;subst er;exact⟨C.D,.goto i,en,H',R',q,rfl,hm',hf'⟩
   |ret=>simp only[aG] at er;subst er;exact⟨C.D,.ret,en,H',R',q,rfl,hm',hf'⟩
   |panic v=>obtain⟨y,rfl,hr⟩:=er;exact⟨C.D,.panic v,en,H',R',q,⟨y,rfl,hr⟩,hm',hf'⟩
  intro l;induction l with
  |nil=>exact λ{a w} h=>hq _ _ _ h
  |cons o r ih=>
   intro a w h;simp only[wpList] at h ⊢;split
   ·rename_i hw;rw[if_pos hw] at h;rcases h with h|⟨h1,b,w2,x,en,H',R',q,er,_⟩
    ·exact .inl (D9 (λ_ _=>ih) (λ_ _ _=>hq _ _ _) (λ⟨a,w,q⟩=>⟨a,w,hq _ _ _ q⟩) h)
    ·exact .inr ⟨h1,b,w2,hq _ _ _ ⟨x,en,H',R',q,er,by assumption⟩⟩
   ·rename_i hw;rw[if_neg hw] at h;exact ih h
 exact key h1
end
end
section
inductive fL where
 |ret
 |pan (v:AVal)
 |rcv (v:AVal)
def fT (R:Seal):fL->FrameMode->Prop
 |.ret,u=>u= .returning
 |.pan v,u=>∃x,u= .panicking [{v:=x,recovered:=false}]/\bn R v x
 |.rcv v,u=>∃x,u= .panicking [{v:=x,recovered:=true}]/\bn R v x
theorem fT.mono {R R':Seal}(h:R.le R'):∀{m:fL} {u:FrameMode},fT R m u->fT R' m u
 |.ret,_,x=>x
 |.pan _,_,⟨y,e,r⟩=>⟨y,e,fx h r⟩
 |.rcv _,_,⟨y,e,r⟩=>⟨y,e,fx h r⟩
def fL.settle:fL->fL
 |.ret=>.ret
 |.pan v=>.pan v
 |.rcv _=>.ret
theorem HL {R:Seal}:∀{m:fL} {u:FrameMode},fT R m u->fT R m.settle (Go.settle u)
 |.ret,_,rfl=>rfl
 |.pan _,_,⟨y,rfl,r⟩=>⟨y,rfl,r⟩
 |.rcv _,_,⟨y,rfl,_⟩=>rfl
theorem Fv {R:Seal}:∀{m:fL} {u:FrameMode},fT R m u->u≠ .run
 |.ret,_,rfl=>by simp
 |.pan _,_,⟨_,rfl,_⟩=>by simp
 |.rcv _,_,⟨_,rfl,_⟩=>by simp
def dS (P:Program)(G:Glo)(f:FuncId)(avs:List AVal)(m:fL)(H:Heap)(Qd:co->fL->Heap->Prop):Prop:=
 ∀R w args u (hG:G.p R),MS ⟨w,R,eR H,G,hG,[]⟩ R H w->dy R avs args.toList->fT R m u->
  CallsD P f args u w λe u' w'=>∃res m' H' R',Qd res m' H'/\iQ R' res e/\fT R' m' u'/\MS ⟨w,R,eR H,G,hG,[]⟩ R' H' w'
section
variable {P:Program} [Tab P] {G:Glo} {GL:List (Nat×List AVal)} {n:Nat} {H:Heap} {m:fL}
theorem DE {R:Seal}{avs:List AVal}{args:Array Value}{n:Nat}(hlen:Nat.ble avs.length n=true)(ha:dy R avs args.toList):
  FS [] n R (fg 0 avs) {tmps:=args++Array.replicate (n-args.size) undef,defers:=[]}:=by
 have hl:=mq ha;have hlen:=v_ hlen;simp only[r_] at hl;refine⟨λk v hk=> ?_,?_,rfl⟩
 ·obtain⟨_,x,hx,hr⟩:=rC ha hk;refine⟨x,?_,hr⟩;simp only[Nat.sub_zero,Array.getElem?_toList] at hx;have:=Array.getElem?_eq_some_iff.1 hx;rw[Array.getElem?_append_left this.1];exact hx
 ·simp only[Array.size_append,Array.size_replicate];omega
theorem vY {f:FuncId}{fn:Func}{c:Code}{avs:List AVal}{Qf:co->Heap->Prop}{rs:List ResultVar}(hf:P.funcs[f]? =some fn)
  (hb:fn.body=some c) (hn:fn.ntmps=n) (hrs:fn.results=rs.toArray) (hlen:Nat.ble avs.length n=true) (hGL:ab G GL)
  (h:∀C:Ctx,C.G=G->gV P C n G GL c (fg 0 avs) H (uC P rs Qf)):dS P G f avs m H (λres m' H'=>m'=m/\Qf res H'):=by
 intro R w args u hG hm ha hu;have h1:=(dg (C:=⟨w,R,eR H,G,hG,[]⟩) rfl hGL _ _ _ _ (h ⟨w,R,eR H,G,hG,[]⟩ rfl)).mono λ_ _ _ q=>kh q;have h2:c.wp P (bodyPost P fn (λe w'=>∃res H' R',Qf res H'/\iQ R' res e/\R.le R'/\MS ⟨w,R,eR H,G,hG,[]⟩ R' H' w')) {tmps:=args++Array.replicate (fn.ntmps-args.size) undef,defers:=[]} w:=by
  subst hn;refine wp_mono (h1 R _ w hm (DE hlen ha)) ?_;have hrs':fn.results.toList=rs:=by rw[hrs]
  rintro e a' w' ⟨x,env',H',R',q,er,hm',hf'⟩;cases x with
  |normal=>
   simp only[aG] at er;subst er;obtain⟨vs,H'',hv,hs,q⟩:=q;obtain⟨y,hy,hr⟩:=dZ (fn:=fn) hm' hf' (by rw[hrs'];exact hv);exact⟨hf'.defers,y,hy,_,H'',R',q,⟨y,rfl,hr⟩,hm'.ge,hm'.drop hs⟩
  |ret=>
   simp only[aG] at er;subst er;obtain⟨vs,H'',hv,hs,q⟩:=q;obtain⟨y,hy,hr⟩:=dZ (fn:=fn) hm' hf' (by rw[hrs'];exact hv);exact⟨hf'.defers,y,hy,_,H'',R',q,⟨y,rfl,hr⟩,hm'.ge,hm'.drop hs⟩
  |panic v=>
   obtain⟨y,rfl,hr⟩:=er;obtain⟨H'',hs,q⟩:=q;exact⟨hf'.defers,_,H'',R',q,⟨y,rfl,hr⟩,hm'.ge,hm'.drop hs⟩
  |exit i=>exact q.elim
  |goto i=>exact q.elim
 refine(callsD_of_wp (u:=u) hf hb h2).mono ?_;rintro e u' w' ⟨rfl,res,H',R',q,er,hle,hm'⟩;exact⟨res,m,H',R',⟨rfl,q⟩,er,hu.mono hle,hm'⟩
def Tm:fL->AVal
 |.pan v=>v
 |_=>.raw .nilIface
def My:fL->fL
 |.ret=>.ret
 |.pan v=>.rcv v
 |.rcv v=>.rcv v
theorem Dk {f:FuncId}{fn:Func}{c:Code}{avs:List AVal}{Qf:co->Heap->Prop}{rs:List ResultVar}{id d0 d1:Nat}{ts:Array TypeId}{t0 t1:TypeId}{p0 p1:String}{a0 a1:Array Edge}(hf:P.funcs[f]? =some fn)
  (hb:fn.body=some (.seq (.region id #[{dst:=some d0,op:=.call {callee:=.builtin .recover,args:=#[],argTypes:=ts},type:=t0,pos:=p0,after:=a0,guard:=none},{dst:=some d1,op:=.assign (.tmp d0),type:=t1,pos:=p1,after:=a1,guard:=none}] false) c))
  (hn:fn.ntmps=n) (hrs:fn.results=rs.toArray) (hlen:Nat.ble avs.length n=true) (hd0:Nat.ble (d0+1) n=true) (hd1:Nat.ble (d1+1) n=true) (hGL:ab G GL)
  (h:∀C:Ctx,C.G=G->gV P C n G GL c ((d1,Tm m)::(d0,Tm m)::fg 0 avs) H (uC P rs Qf)):dS P G f avs m H (λres m' H'=>m'=My m/\Qf res H'):=by
 intro R w args u hG hm ha hu;have h1:=(dg (C:=⟨w,R,eR H,G,hG,[]⟩) rfl hGL _ _ _ _ (h ⟨w,R,eR H,G,hG,[]⟩ rfl)).mono λ_ _ _ q=>kh q;refine callsD_of_wpS hf hb λc₀ cs hc=> ?_;subst hn;have hfs:=DE hlen ha;have main:∀(x:Value) (u':FrameMode),bn R (Tm m) x->fT R (My m) u'->c.wpS P (bodyPostS P fn c₀ cs (λe u' w'=>∃res m' H' R',(m'=My m/\Qf res H')/\iQ R' res e/\fT R' m' u'/\MS ⟨w,R,eR H,G,hG,[]⟩ R' H' w'))
   ((({tmps:=args++Array.replicate (fn.ntmps-args.size) undef,defers:=[]}:Act).put (some d0) x).put (some d1) x) ({c₀ with mode:=u'}::cs) w:=by
  intro x u' hx hu';refine wpS_of_wp ?_;refine wp_mono (h1 R _ w hm ((hfs.put hd0 hx).put hd1 hx)) ?_;have hrs':fn.results.toList=rs:=by rw[hrs]
  rintro e a' w' ⟨x,env',H',R',q,er,hm',hf'⟩;cases x with
  |normal=>
   simp only[aG] at er;subst er;obtain⟨vs,H'',hv,hs,q⟩:=q;obtain⟨y,hy,hr⟩:=dZ (fn:=fn) hm' hf' (by rw[hrs'];exact hv);exact⟨hf'.defers,u',rfl,y,hy,_,_,H'',R',⟨rfl,q⟩,⟨y,rfl,hr⟩,hu'.mono hm'.ge,hm'.drop hs⟩
  |ret=>
   simp only[aG] at er;subst er;obtain⟨vs,H'',hv,hs,q⟩:=q;obtain⟨y,hy,hr⟩:=dZ (fn:=fn) hm' hf' (by rw[hrs'];exact hv);exact⟨hf'.defers,u',rfl,y,hy,_,_,H'',R',⟨rfl,q⟩,⟨y,rfl,hr⟩,hu'.mono hm'.ge,hm'.drop hs⟩
  |panic v=>
   obtain⟨y,rfl,hr⟩:=er;obtain⟨H'',hs,q⟩:=q;exact⟨hf'.defers,u',rfl,_,_,H'',R',⟨rfl,q⟩,⟨y,rfl,hr⟩,hu'.mono hm'.ge,hm'.drop hs⟩
  |exit i=>exact q.elim
  |goto i=>exact q.elim
 refine wpS_seq (wpS_region ?_);have hev:∀(x:Value),(({tmps:=args++Array.replicate (fn.ntmps-args.size) undef,defers:=[]}:Act).put (some d0) x).eval (.tmp d0)=x:=by
  intro x;have hsz:(args++Array.replicate (fn.ntmps-args.size) undef).size=fn.ntmps:=hfs.size;have:=v_ hd0;simp only[Act.eval,Act.put];rw[Array.getD_eq_getD_getElem?,Array.getElem?_setIfInBounds_self_of_lt a_];rfl
 have run0:∀ρ,(execOp ρ {dst:=some d0,op:=.call {callee:=.builtin .recover,args:=#[],argTypes:=ts},type:=t0,pos:=p0,after:=a0,guard:=none:Oper}).run P w= .ok .recover w:=λρ=>rfl;have wanted:∀(o:Oper) y,o.guard=none->Region.wanted o y=true:=λo y h=>by simp[Region.wanted,h]
 show wpOpsS P _ _ [0,1] _ _ _;have tail:∀(x:Value) (u':FrameMode),bn R (Tm m) x->fT R (My m) u'->wpOpsS P #[{dst:=some d0,op:=.call {callee:=.builtin .recover,args:=#[],argTypes:=ts},type:=t0,pos:=p0,after:=a0,guard:=none},{dst:=some d1,op:=.assign (.tmp d0),type:=t1,pos:=p1,after:=a1,guard:=none}]
   (Exit.thenS (c.wpS P (bodyPostS P fn c₀ cs (λe u' w'=>∃res m' H' R',(m'=My m/\Qf res H')/\iQ R' res e/\fT R' m' u'/\MS ⟨w,R,eR H,G,hG,[]⟩ R' H' w'))) (bodyPostS P fn c₀ cs (λe u' w'=>∃res m' H' R',(m'=My m/\Qf res H')/\iQ R' res e/\fT R' m' u'/\MS ⟨w,R,eR H,G,hG,[]⟩ R' H' w'))) [1]
   (({tmps:=args++Array.replicate (fn.ntmps-args.size) undef,defers:=[]}:Act).put (some d0) x) ({c₀ with mode:=u'}::cs) w:=by
  intro x u' hx hu';simp only[wpOpsS,Wm,J_,I_];rw[if_pos (wanted _ _ rfl)];simp only[execOp,hev,h_,Oper.upon];exact main x u' hx hu'
 rw[wpOpsS];simp only[Wm,I_];rw[if_pos (wanted _ _ rfl),run0];simp only[recoverD,hc];cases m with
 |ret=>
  obtain rfl:u= .returning:=hu;have e:c₀={c₀ with mode:=FrameMode.returning}:=by rw[<-hc]
  rw[e];exact tail .nilIface .returning (aq.2 rfl) rfl
 |pan v=>
  obtain⟨x,rfl,hx⟩:=hu;exact tail x _ hx ⟨x,rfl,hx⟩
 |rcv v=>
  obtain⟨x,rfl,hx⟩:=hu;have e:c₀={c₀ with mode:=FrameMode.panicking [{v:=x,recovered:=true}]}:=by rw[<-hc]
  rw[e];exact tail .nilIface _ (aq.2 rfl) ⟨x,rfl,hx⟩
omit [Tab P] in
theorem Gv {f:FuncId}{avs:List AVal}{H1:Heap}(H2:Heap){Qd:co->fL->Heap->Prop}(h:dS P G f avs m H1 Qd):dS P G f avs m (H1++H2) (λr m' H'=>∃H1',Qd r m' H1'/\H'=H1'++H2):=by
 intro R w args u hG hm ha hu
 exact(h R w args u hG hm.enter ha hu).mono λe u' w' ⟨res,m',H',R',q,er,hu',hm'⟩=>⟨res,m',H'++H2,R',⟨H',q,rfl⟩,er,hu',MS.call hm hm'⟩
omit [Tab P] in
theorem Uq {f:FuncId}{avs:List AVal}{H1 H2:Heap}{Qd:co->fL->Heap->Prop}(hp:H1.Perm H2)(h:dS P G f avs m H1 Qd):dS P G f avs m H2 Qd:=by
 have hb:∀k,k∈eR H2↔k∈eR H1:=λk=>by
  have:=(hp.filterMap HEnt.blk).mem_iff (a:=k)
  exact this.symm
 intro R w args u hG hm ha hu;exact(h R w args u hG ((hm.perm hp.symm).blks_iff hb) ha hu).mono λe u' w' ⟨res,m',H',R',q,er,hu',hm'⟩=>⟨res,m',H',R',q,er,hu',hm'.blks_iff λk=>(hb k).symm⟩
omit [Tab P] in
theorem Lq {f:FuncId}{avs:List AVal}{Qd Qd':co->fL->Heap->Prop}(h:dS P G f avs m H Qd)(hq:∀r m' H',Qd r m' H'->∃H'',H'.Perm H''/\Qd' r m' H''):dS P G f avs m H Qd':=by
 intro R w args u hG hm ha hu
 exact(h R w args u hG hm ha hu).mono λe u' w' ⟨res,m',H',R',q,er,hu',hm'⟩=>let ⟨H'',hp,q'⟩:=hq _ _ _ q;⟨res,m',H'',R',q',er,hu',hm'.perm hp⟩
omit [Tab P] in
theorem Lr {f:FuncId}{avs:List AVal}{i:Nat}{x y:HEnt}{r:co}{m':fL}(hi:H[i]? =some x)(hs:dS P G f avs m [x] (λr2 m2 H2=>m2=m'/\r2=r/\H2=[y])):
  dS P G f avs m H (λr2 m2 H2=>m2=m'/\r2=r/\H2=H.set i y):=by
 have hp:=fd hi
 refine Lq (Uq (H1:=[x]++H.eraseIdx i) (by simpa using hp.symm) (Gv (H.eraseIdx i) hs)) ?_;rintro r2 m2 H' ⟨H1',⟨rfl,rfl,rfl⟩,rfl⟩;exact⟨_,kq y hi,rfl,rfl,rfl⟩
omit [Tab P] in
theorem pr {f:FuncId}{avs:List AVal}{H1 H1':Heap}{r:co}{m':fL}(H2:Heap)(hs:dS P G f avs m H1 (λr2 m2 H2=>m2=m'/\r2=r/\H2=H1')):
  dS P G f avs m (H1++H2) (λr2 m2 H'=>m2=m'/\r2=r/\H'=H1'++H2):=by
 refine Lq (Gv H2 hs) ?_
 rintro r2 m2 H' ⟨H3,⟨rfl,rfl,rfl⟩,rfl⟩;exact⟨_,N_ _,rfl,rfl,rfl⟩
def Lv (P:Program)(G:Glo)(n:Nat)(rs:List ResultVar)(env:Env)(D:List Deferred)(m:fL)(H:Heap)(Qf:co->Heap->Prop):Prop:=
 ∀(C:Ctx) (R:Seal) (a:Act) (w:World) (fn:Func) (u:FrameMode) (D0:List Deferred),C.G=G->fn.results.toList=rs->MS C R H w->FS D0 n R env a->fT R m u->
  Leaves P fn a.tmps (λe w'=>∃res H' R',Qf res H'/\iQ R' res e/\MS C R' H' w') D u w
variable {rs:List ResultVar} {env:Env} {Qf:co->Heap->Prop} {D:List Deferred}
theorem WS (h:uC P rs Qf .ret env H):Lv P G n rs env [] .ret H Qf:=by
 rintro C R a w fn u D0 hC hrs hm hf rfl
 obtain⟨vs,H'',hv,hs,q⟩:=kh h
 obtain⟨y,hy,hr⟩:=dZ (fn:=fn) hm hf (by rw[hrs];exact hv);exact⟨y,hy,_,H'',R,q,⟨y,rfl,hr⟩,hm.drop hs⟩
omit [Tab P] in
omit [Tab P] in
theorem iz {f:FuncId}{avs:List AVal}{cap args:Array Value}{v:AVal}{m':fL}{H':Heap}(hs:dS P G f avs m H (λr2 m2 H2=>m2=m'/\r2= .ret v/\H2=H'))(ha:∀R,dy R avs (args++cap).toList)
  (hc:∀args w,(callFunc f args).run P w= .ok (.enter f args) w) (k:Lv P G n rs env D m'.settle H' Qf):Lv P G n rs env ({target:=.fn (.func f) cap,args:=args}::D) m H Qf:=by
 intro C R a w fn u D0 hC hrs hm hf hu;subst hC;refine leaves_cons (f:=f) (args:=args++cap) (Fv hu) (by simp only[invoke];exact hc _ _) ?_;refine(hs R w _ u hm.glo (MS.enter (H2:=[]) (by simpa using hm)) (ha R) hu).mono ?_;rintro e u' w' ⟨res,m2,H2,R',⟨rfl,rfl,rfl⟩,⟨y,rfl,hr⟩,hu',hm'⟩;have hm2:MS C R' H2 w':=by simpa using MS.call (H2:=[]) (by simpa using hm) hm'
 exact k C R' a w' fn _ D0 rfl hrs hm2 (hf.mono hm'.ge) (HL hu')
def LvQ (P:Program)(G:Glo)(n:Nat)(rs:List ResultVar)(Qf:co->Heap->Prop):List Deferred->aL->Env->Heap->Prop
 |D,.ret,e,H|D,.normal,e,H=>Lv P G n rs e D .ret H Qf
 |D,.panic v,e,H=>Lv P G n rs e D (.pan v) H Qf
 |_,_,_,_=>False
omit [Tab P] in
theorem Ua {f:FuncId}{fn:Func}{c:Code}{avs:List AVal}(hf:P.funcs[f]? =some fn)
  (hc:∀args w,(callFunc f args).run P w= .ok (.enter f args) w) (hb:fn.body=some c) (hn:fn.ntmps=n) (hrs:fn.results=rs.toArray) (hlen:Nat.ble avs.length n=true)
  (h:∀C:Ctx,C.G=G->C.D=[]->gj P C n c (fg 0 avs) H (LvQ P G n rs Qf)):ad P G f avs H Qf:=by
 intro R w args hG hm ha;refine .inl ⟨hc args w,calls_of_wp_defers hf hb ?_⟩;subst hn;have hrs':fn.results.toList=rs:=by rw[hrs]
 refine wp_mono (h ⟨w,R,eR H,G,hG,[]⟩ rfl rfl R _ w hm (DE hlen ha)) ?_;rintro e a' w' ⟨D,x,env',H',R',q,er,hm',hf'⟩;cases x with
 |normal=>
  simp only[aG] at er;subst er;have:=q _ R' a' w' fn .returning D rfl hrs' hm' hf' rfl;rwa [<-hf'.defers] at this
 |ret=>
  simp only[aG] at er;subst er;have:=q _ R' a' w' fn .returning D rfl hrs' hm' hf' rfl;rwa [<-hf'.defers] at this
 |panic v=>
  obtain⟨y,rfl,hr⟩:=er;have:=q _ R' a' w' fn (.panicking [{v:=y,recovered:=false}]) D rfl hrs' hm' hf' ⟨y,rfl,hr⟩;rwa [<-hf'.defers] at this
 |exit i=>exact q.elim
 |goto i=>exact q.elim
end
end
section
theorem qP {α β:Type}{f:α->Option β}{x y:α}(hf:f y=f x):∀{h:List α} {i:Nat},h[i]? =some x->(h.set i y).filterMap f=h.filterMap f
 |[],i,e=>by simp at e
 |z::h,0,e=>by
  simp only[I_,g_] at e;subst e;simp[List.filterMap_cons,hf]
 |z::h,i+1,e=>by
  simp only[J_] at e;simp only[List.set_cons_succ,List.filterMap_cons,qP hf e]
theorem MS.setEnt {C:Ctx}{R:Seal}{H:Heap}{w:World}{i:Nat}{x y:HEnt}(h:MS C R H w)(hi:H[i]? =some x)(hb:y.blk=x.blk)(hy:y.holds R w):MS C R (H.set i y) w:=by
 have hx:x∈H:=q_ hi;have hm:∀z,z∈H.set i y->z∈H\/z=y:=λz hz=>List.mem_or_eq_of_mem_set hz;refine⟨h.sealed,h.ge,h.fresh,⟨λz hz=> ?_,?_,λz hz b hzb=> ?_⟩,λz hz b hzb=> ?_,h.ext⟩
 ·rcases hm z hz with h1|rfl
  ·exact h.heap.holds z h1
  ·exact hy
 ·rw[qP hb hi];exact h.heap.nodup
 ·rcases hm z hz with h1|rfl
  ·exact h.heap.apart z h1 b hzb
  ·exact h.heap.apart x hx b (by rw[<-hb];exact hzb)
 ·rcases hm z hz with h1|rfl
  ·exact h.own z h1 b hzb
  ·exact h.own x hx b (by rw[<-hb];exact hzb)
theorem sb {R:Seal}{a a':AVal}(ht:∀v,bI R a [v]->bI R a' [v]):∀{cs:List AVal} {vs:List Value} {p:Nat},cb R cs vs->cs[p]? =some a->cb R (cs.set p a') vs
 |[],_,_,_,e=>by simp at e
 |c::cs,_,0,⟨v,t,rfl,h1,h2⟩,e=>by
  simp only[I_,g_] at e;subst e;exact⟨v,t,rfl,ht v h1,h2⟩
 |c::cs,_,p+1,⟨v,t,rfl,h1,h2⟩,e=>by
  simp only[J_] at e;exact⟨v,t,rfl,h1,sb ht h2 e⟩
inductive mh (R:Seal) (p:Nat) (a':AVal):HEnt->HEnt->Prop
 |cells {b eT cs a} (hp:cs[p]? =some a) (ht:∀v,bI R a [v]->bI R a' [v]):mh R p a' (.cells b eT cs) (.cells b eT (cs.set p a'))
 |row {v eT sz n cs a} (hp:cs[p]? =some a) (ht:∀v,bI R a [v]->bI R a' [v]):mh R p a' (.row v eT sz n cs) (.row v eT sz n (cs.set p a'))
theorem mh.holds {R:Seal}{p:Nat}{a':AVal}{x y:HEnt}{w:World}(h:mh R p a' x y)(hx:x.holds R w):y.holds R w/\y.blk=x.blk:=by
 cases h with
 |cells hp ht=>
  obtain⟨C,e,fz,hb,hl,hf⟩:=hx;exact⟨⟨C,e,fz,hb,sb ht hl hp,hf⟩,rfl⟩
 |row hp ht=>
  rename_i v eT sz n cs a;obtain⟨hlen,y⟩:=hx;refine⟨⟨by rw[F_];exact hlen,?_⟩,by cases v with|slice a l c=>cases a<;>rfl|_=>rfl⟩
  rcases y with⟨h1,h2⟩|⟨b,cap,C,e,fz,rfl,hb,hs,hn,hl,hf⟩
  ·exact .inl ⟨h1,h2⟩
  ·exact .inr ⟨b,cap,C,e,fz,rfl,hb,hs,hn,sb ht hl hp,hf⟩
def To (C:Ctx)(n:Nat)(e:Env)(h:Heap)(e':Env)(h':Heap):Prop:=
 ∀R a w,MS C R h w->FS C.D n R e a->∃R',R.le R'/\MS C R' h' w/\FS C.D n R' e' a
section
variable {C:Ctx} {n:Nat} {e e' e'':Env} {h h' h'':Heap}
theorem nB:To C n e h e h:=λR _ _ hm hf=>⟨R,Seal.le_refl R,hm,hf⟩
theorem ak (a:To C n e h e' h')(b:To C n e' h' e'' h''):To C n e h e'' h'':=λR x w hm hf=>
 let ⟨R1,l1,m1,f1⟩:=a R x w hm hf
 let ⟨R2,l2,m2,f2⟩:=b R1 x w m1 f1
 ⟨R2,Seal.le_trans l1 l2,m2,f2⟩
theorem bi (hs:Env.sub e e')(hh:h'.Sublist h):To C n e h e' h':=λR _ _ hm hf=>⟨R,Seal.le_refl R,hm.drop hh,hf.sub hs⟩
theorem Hz {k i:Nat}{v:Value}(hv:dc v=false)(hk:Env.get e k=some (.raw v)):To C n e h ((k,.own i v)::e) h:=λR _ _ hm hf=>⟨R,Seal.le_refl R,hm,uj hv hk hf⟩
theorem ep (sz:Nat):To C n e h e (h++[.row (.slice none 0 0) none sz 0 []]):=λR a w hm hf=>by
 refine⟨R,Seal.le_refl R,MS.perm (H:=.row (.slice none 0 0) none sz 0 []::h) ?_ (List.perm_append_singleton _ h).symm,hf⟩
 refine⟨hm.sealed,hm.ge,hm.fresh,⟨λz hz=> ?_,hm.heap.nodup,λz hz b hb=> ?_⟩,λz hz b hb=> ?_,hm.ext⟩
 ·rcases List.mem_cons.1 hz with rfl|hz
  ·exact⟨by simp,.inl ⟨rfl,rfl⟩⟩
  ·exact hm.heap.holds z hz
 ·rcases List.mem_cons.1 hz with rfl|hz
  ·cases hb
  ·exact hm.heap.apart z hz b hb
 ·rcases List.mem_cons.1 hz with rfl|hz
  ·cases hb
  ·exact hm.own z hz b hb
theorem iq {i p:Nat}{a':AVal}{x y:HEnt}(hi:h[i]? =some x)(hc:∀R,mh R p a' x y):To C n e h e (h.set i y):=λR a w hm hf=>by
 obtain⟨h1,h2⟩:=(hc R).holds (hm.heap.holds x (q_ hi));exact⟨R,Seal.le_refl R,hm.setEnt hi h2 h1,hf⟩
theorem ji {i k p sz m:Nat}{v:Value}{eT:Option TypeId}{cs:List AVal}{x y:HEnt}(f:Nat->AVal)(hi:h[i]? =some (.row v eT sz m cs))(hk:(h.eraseIdx i)[k]? =some x)
  (hf:∀j,j<m->(f j).cells=(cs.drop (j*sz)).take sz/\(f j).plain=true) (hc:∀R,bn R (.list sz m f) v->mh R p (.list sz m f) x y):To C n e h e ((h.eraseIdx i).set k y):=λR a w hm hfs=>by
 obtain⟨R',hle,hm',hr⟩:=MS.seal_row (hm.perm (fd hi)) hf;obtain⟨h1,h2⟩:=(hc R' hr).holds (hm'.heap.holds x (q_ hk));exact⟨R',hle,hm'.setEnt hk h2 h1,hfs.mono hle⟩
theorem ck {R:Seal}{j sz m:Nat}{u v:Value}{f:Nat->AVal}(hr:bn R (.list sz m f) v):bI R (.own j v) [u]->bI R (.list sz m f) [u]:=by
 rintro⟨e,_⟩;simp only[o_,and_true] at e;subst e;exact bC hr rfl
theorem iy {R:Seal}{j:Nat}{u:Value}:bI R (.raw (.slice none 0 0)) [u]->bI R (.own j (.slice none 0 0)) [u]:=by
 intro e;have e:[u]=[.slice none 0 0]:=e;exact⟨e,rfl⟩
theorem lN {R:Seal}{sz:Nat}{f:Nat->AVal}{u:Value}:bI R (.raw (.slice none 0 0)) [u]->bI R (.list sz 0 f) [u]:=by
 intro e;have e:[u]=[.slice none 0 0]:=e;exact⟨none,0,e,Nat.le_refl _,.inl rfl⟩
end
section
variable {P:Program} [Tab P] {C:Ctx} {n:Nat} {env:Env} {H:Heap} {Q:aL->Env->Heap->Prop} {G:Glo} {GL:List (Nat×List AVal)}
structure ZY {X:Type} (C:Ctx) (n:Nat) (I:X->Env) (J:X->Heap) (Inv:X->Prop) (μ:X->Nat) (x:X) (e:Env) (h:Heap):Prop where
 h:∃x',Inv x'/\μ x'<μ x/\To C n e h (I x') (J x')
theorem DT {X:Type}{I:X->Env}{J:X->Heap}{Inv:X->Prop}{μ:X->Nat}{x:X}{e:Env}{h:Heap}(x':X)(h1:Inv x')(h2:μ x'<μ x)(h3:To C n e h (I x') (J x')):ZY C n I J Inv μ x e h:=⟨⟨x',h1,h2,h3⟩⟩
theorem WT {c:Code}{X:Type}(hC:C.G=G)(hGL:ab G GL)(I:X->Env)(J:X->Heap)(Inv:X->Prop)(μ:X->Nat)(x0:X)(h0:Inv x0)(hto:To C n env H (I x0) (J x0))
  (round:∀x,Inv x->gV P C n G GL c (I x) (J x) (iT (λe h=>ZY C n I J Inv μ x e h) Q)):Lp P C n c env H Q:=by
 refine⟨λR a w hm hf=> ?_⟩;obtain⟨R0,_,hm,hf⟩:=hto R a w hm hf;refine wp_loop_ghost (λm a w=>∃x R,Inv x/\μ x=m/\MS C R (J x) w/\FS C.D n R (I x) a) (μ x0) ⟨x0,R0,h0,rfl,hm,hf⟩ ?_;rintro m a w ⟨x,R,hx,rfl,hm,hf⟩;refine wp_mono (dg hC hGL _ _ _ _ (round x hx) R a w hm hf) ?_;rintro e a' w' ⟨x',en,H',R',q,er,hm',hf'⟩;cases x' with
 |normal=>
  simp only[aG] at er;subst er;obtain⟨x',hx',hlt,hto⟩:=ZY.h q;obtain⟨R2,_,hm2,hf2⟩:=hto R' a' w' hm' hf';exact⟨μ x',hlt,x',R2,hx',rfl,hm2,hf2⟩
 |exit i=>simp only[aG] at er;subst er;exact⟨.exit i,en,H',R',q,rfl,hm',hf'⟩
 |goto i=>simp only[aG] at er;subst er;exact⟨.goto i,en,H',R',q,rfl,hm',hf'⟩
 |ret=>simp only[aG] at er;subst er;exact⟨.ret,en,H',R',q,rfl,hm',hf'⟩
 |panic v=>obtain⟨y,rfl,hr⟩:=er;exact⟨.panic v,en,H',R',q,⟨y,rfl,hr⟩,hm',hf'⟩
omit [Tab P] in
theorem FD {c:Code}{e':Env}{h':Heap}(hto:To C n env H e' h')(k:Lp P C n c e' h' Q):Lp P C n c env H Q:=by
 refine⟨λR a w hm hf=> ?_⟩;obtain⟨R0,_,hm,hf⟩:=hto R a w hm hf;exact k.h R0 a w hm hf
omit [Tab P] in
theorem dC {id:Nat}{ops:Array Oper}{e':Env}{h':Heap}(hto:To C n env H e' h')(k:Dw P C n id ops e' h' Q):Dw P C n id ops env H Q:=by
 refine⟨λR a w hm hf=> ?_⟩;obtain⟨R0,_,hm,hf⟩:=hto R a w hm hf;exact k.h R0 a w hm hf
def BO (res:co)(H:Heap)(v:AVal):Prop:=∀(C:Ctx) (R:Seal) (w:World) (e:Ending),MS C R H w->iQ R res e->∃R',MS C R' [] w/\iQ R' (.ret v) e
omit [Tab P] in
theorem dB {f:FuncId}{avs:List AVal}{H:Heap}{Qf:co->Heap->Prop}{v:AVal}(h:ad P G f avs H Qf)(hq:∀r H',Qf r H'->BO r H' v):ad P G f avs H (λr H'=>r= .ret v/\H'=[]):=by
 intro R w args hG hm ha;rcases h R w args hG hm ha with⟨h1,h2⟩|⟨x,w',h1,res,H',R',q,er,hm'⟩
 ·exact .inl ⟨h1,h2.mono λe w' ⟨res,H',R',q,er,hm'⟩=>let ⟨R2,m2,e2⟩:=hq _ _ q _ _ _ _ hm' er;⟨.ret v,[],R2,⟨rfl,rfl⟩,e2,m2⟩⟩
 ·obtain⟨R2,m2,e2⟩:=hq _ _ q _ _ _ _ hm' er;exact .inr ⟨x,w',h1,.ret v,[],R2,⟨rfl,rfl⟩,e2,m2⟩
end
end
section
theorem MS.seal_cells {C:Ctx}{R:Seal}{w:World}{H:Heap}{b:Nat}{eT:Option TypeId}{cs:List AVal}(h:MS C R (.cells b eT cs::H) w):
  ∃R',R.le R'/\MS C R' H w/\bn R' (.rop cs 0) (.pointer (some ⟨b,0,none⟩)):=by
 obtain⟨Cs,el,fz,hb,hl,hfz⟩:=h.heap.holds _ (z_ ..);obtain⟨h1,h2⟩:=h.fixed (b:=b) rfl hb;refine⟨_,h2,h1,⟨b,0,Cs,el,fz,rfl,Nat.le_refl _,Seal.put_at _ _ _,?_⟩,rfl⟩;have hlen:=aJ hl;rw[Nat.sub_self,aa_,u_ a_];exact ec h2 _ _ hl
abbrev eB:HEnt:=.row (.slice none 0 0) none 1 0 []
section
variable {P:Program} [Tab P] {C:Ctx} {n:Nat} {G:Glo} {GL:List (Nat×List AVal)} {e:Env} {h:Heap} {env:Env} {H:Heap} {Q:aL->Env->Heap->Prop}
theorem az {i k j b:Nat}{eT:Option TypeId}{cs:List AVal}(hi:h[i]? =some (.cells b eT cs))(hk:Env.get e k=some (.own j (.pointer (some ⟨b,0,none⟩)))):
  To C n e h ((k,.rop cs 0)::e) (h.set i eB):=λR a w hm hf=>by
 obtain⟨R',hle,hm',hr⟩:=MS.seal_cells (hm.perm (fd hi));refine⟨R',hle,(hm'.ghost 1).perm (kq eB hi),?_⟩;have hf':=hf.mono hle;refine⟨λt x ht=> ?_,hf'.size,hf'.defers⟩;simp only[Env.get] at ht;split at ht
 ·rename_i hb
  have:=m_ hb
  subst this
  simp only[g_] at ht
  subst ht
  obtain⟨y,hy,hr'⟩:=hf'.fr k _ hk
  refine⟨y,hy,?_⟩
  rw[(aE.1 hr').1]
  exact hr
 ·exact hf'.fr t x ht
omit [Tab P] in
theorem RT {c:Code}{e':Env}{h':Heap}(hto:To C n env H e' h')(k:bJ P C n c e' h' Q):bJ P C n c env H Q:=λR a w hm hf=>by
 obtain⟨R0,_,hm,hf⟩:=hto R a w hm hf;exact k R0 a w hm hf
def Ts:List (Nat×Nat×Value)->Env->Env
 |[],e=>e
 |(s,i,v)::t,e=>(s,.own i v)::Ts t e
def JO:List (Nat×Nat×Value)->Env->Prop
 |[],_=>True
 |(s,_,v)::t,e=>(Env.get (Ts t e) s=some (.raw v)/\dc v=false)/\JO t e
theorem Lb {D:List Deferred}{R:Seal}{a:Act}:∀{os:List (Nat×Nat×Value)} {e:Env},JO os e->FS D n R e a->FS D n R (Ts os e) a
 |[],_,_,h=>h
 |(_,_,_)::_,_,⟨⟨h1,h2⟩,h3⟩,h=>uj h2 h1 (Lb h3 h)
theorem lU (os:List (Nat×Nat×Value)){f:FuncId}{fn:Func}{c:Code}{avs:List AVal}{Qf:co->Heap->Prop}{rs:List ResultVar}(hf:P.funcs[f]? =some fn)
  (hc:∀args w,(callFunc f args).run P w= .ok (.enter f args) w) (hb:fn.body=some c) (hn:fn.ntmps=n) (hrs:fn.results=rs.toArray) (hlen:Nat.ble avs.length n=true) (ho:JO os (fg 0 avs))
  (h:∀C:Ctx,C.G=G->bJ P C n c (Ts os (fg 0 avs)) H (uC P rs Qf)):ad P G f avs H Qf:=
 qk hf hb hc hn hrs hlen λw0 R0 hG=>bJ.mono (DC (λ_ _ hf=>Lb ho hf) (h ⟨w0,R0,eR H,G,hG,[]⟩ rfl)) λ_ _ _ q=>kh q
end
end
section
theorem IA {R:Seal}{sz n:Nat}{f g:Nat->AVal}{u:Value}(h:∀i,i<n->f i=g i):bI R (.list sz n f) [u]->bI R (.list sz n g) [u]:=by
 rintro⟨a,cap,e,hle,y⟩;refine⟨a,cap,e,hle,?_⟩;rcases y with y|⟨b,o,C,el,fz,ha,hR,hi⟩
 ·exact .inl y
 ·exact .inr ⟨b,o,C,el,fz,ha,hR,λi hn=>by rw[<-h i hn];exact hi i hn⟩
theorem ML {R:Seal}{sz n:Nat}{f g:Nat->AVal}{u:Value}(h:∀i,i<n->∀vs,bI R (f i) vs->bI R (g i) vs):bI R (.list sz n f) [u]->bI R (.list sz n g) [u]:=by
 rintro⟨a,cap,e,hle,y⟩;refine⟨a,cap,e,hle,?_⟩;rcases y with y|⟨b,o,C,el,fz,ha,hR,hi⟩
 ·exact .inl y
 ·exact .inr ⟨b,o,C,el,fz,ha,hR,λi hn=>h i hn _ (hi i hn)⟩
theorem Mn {R:Seal}{sz n:Nat}{f g:Nat->AVal}(h:∀i,i<n->∀vs,bI R (f i) vs->bI R (g i) vs){k:Nat}:∀{l:List AVal} {vs:List Value},l[k]? =some (.list sz n f)->dy R l vs->dy R (l.set k (.list sz n g)) vs:=by
 induction k with
 |zero=>
  intro l vs hk ha;cases l with
  |nil=>cases hk
  |cons a l=>
   simp only[I_,g_] at hk;subst hk;obtain⟨u,us,rfl,hu,k⟩:=ha;have r:=q8 (ML h (bC (show bn R _ u from hu) rfl)) rfl (by have:=hu.2;exact this.symm);exact⟨u,us,rfl,⟨r.1,r.2⟩,k⟩
 |succ k ih=>
  intro l vs hk ha;cases l with
  |nil=>cases hk
  |cons a l=>
   obtain⟨u,us,rfl,hu,k⟩:=ha;exact⟨u,us,rfl,hu,ih hk k⟩
theorem BX {C:Ctx}{n:Nat}{e:Env}{h h':Heap}(hp:h.Perm h'):To C n e h e h':=λR _ _ hm hf=>⟨R,Seal.le_refl R,hm.perm hp,hf⟩
theorem SD {C:Ctx}{n:Nat}{e:Env}{h:Heap}{k:Nat}{a a':AVal}(hk:Env.get e k=some a)(ht:∀R u,bn R a u->bn R a' u):To C n e h ((k,a')::e) h:=λR x w hm hf=>by
 refine⟨R,Seal.le_refl R,hm,λt y hy=> ?_,hf.size,hf.defers⟩;simp only[Env.get] at hy;split at hy
 ·rename_i hb;have:=m_ hb;subst this;simp only[g_] at hy;subst hy;obtain⟨u,hu,hr⟩:=hf.fr k _ hk;exact⟨u,hu,ht _ _ hr⟩
 ·exact hf.fr t y hy
theorem Tt {i j:Nat}{v:Value}(R:Seal)(u:Value)(h:bn R (.own i v) u):bn R (.own j v) u:=aE.2 (aE.1 h)
structure Z0 {X:Type} (C:Ctx) (n:Nat) (I:X->Env) (J:X->Heap) (Inv:X->Prop) (e:Env) (h:Heap):Prop where
 h:∃x,Inv x/\To C n e h (I x) (J x)
section
variable {P:Program} [Tab P] {C:Ctx} {n:Nat} {env:Env} {H:Heap} {Q:aL->Env->Heap->Prop}
omit [Tab P] in
theorem Hf {X:Type}{I:X->Env}{J:X->Heap}{Inv:X->Prop}{e:Env}{h:Heap}(x:X)(hp:Inv x)(ht:To C n e h (I x) (J x)):Z0 C n I J Inv e h:=⟨⟨x,hp,ht⟩⟩
theorem Dp {a b:Code}{X:Type}(I:X->Env)(J:X->Heap)(Inv:X->Prop)(h1:bJ P C n a env H (iT (λe h=>Z0 C n I J Inv e h) Q))(h2:∀x,Inv x->bJ P C n b (I x) (J x) Q):bJ P C n (.seq a b) env H Q:=
 j7 (h1.mono λx e h q=>by
  cases x with
  |normal=>
   obtain⟨y,hy,ht⟩:=Z0.h q;exact RT ht (h2 y hy)
  |exit i=>exact q
  |goto i=>exact q
  |ret=>exact q
  |panic v=>exact q)
variable {G:Glo} {GL:List (Nat×List AVal)}
theorem lpA {c:Code}{X:Type}(_:C.G=G)(_:ab G GL)(I:X->Env)(J:X->Heap)(Inv:X->Prop)(μ:X->Nat)(x0:X)(h0:Inv x0)(hs:Env.sub env (I x0))(hH:H=J x0)
  (round:∀x,Inv x->bJ P C n c (I x) (J x) (iT (λe h=>Yi I J Inv μ x e h) Q)):Lp P C n c env H Q:=
 ⟨pC I J Inv μ x0 h0 hs (hH▸At _) λx hx=>(round x hx).mono λex e h q=>by
  cases ex with
  |normal=>exact Yi.h q
  |exit i=>exact q
  |goto i=>exact q
  |ret=>exact q
  |panic v=>exact q⟩
end
section
variable {P:Program} [Tab P] {C:Ctx} {H:Heap} {env:Env}
theorem jR {sz m:Nat}{f:Nat->AVal}{x:Operand}{T ty e:TypeId}{xT:TI}(hx:ah env x=some (.list sz (m+1) f))(h1:bj P T=some xT)(h2:xT.desc= .slice e):bE P C H env (.binOp .neq T x (.const (.slice none 0 0)) ty) (.bool true):=by
 intro R ρ w hm hf dst t p af g;refine⟨_,?_,aO.2 rfl⟩;obtain⟨a,cap,e1,_,y⟩:=bC (hf _ _ hx) rfl;have e1:ρ x= .slice a (m+1) cap:=(List.cons.inj e1).1;obtain⟨b,o,C0,el,fz,rfl,_⟩:=y.resolve_left (Nat.succ_ne_zero m);have hc:ρ (.const (.slice none 0 0))= .slice none 0 0:=aq.1 (hf (.const (.slice none 0 0)) _ (gE env (.slice none 0 0)));obtain⟨h3,h4,h5⟩:=uq (R:=R) (x:=x) (w:=w) (av:=.raw (ρ x)) (c:=false) (z:=.slice none 0 0) (aq.2 rfl) h1 (by rw[h2,e1];rfl) (by rw[h2];rfl);have h6:=h5 .neq (.inr rfl);rw[if_neg b_] at h6
 simp only[execOp,hc,e_,h4,c_,h6,h3,h_,Bool.not_false]
end
end
section
def kX (s:ω)(i:Nat):AVal:=byteA (s.getD i 0)
structure U1 (F:UInt8->ω) (ks:ω) (cs:List AVal):Prop where
 yes:∀c,c∈ks->cs[c.toNat]? =some (.list 1 2 (kX (F c)))/\(F c).length=2
 no:∀c,c∉ks->cs[c.toNat]? =some (.raw (.slice none 0 0))/\F c=[c]
 last:cs[256]? =some (.list 1 ks.length (λi=>.str [ks.getD i 0]))
 nd:ks.Nodup
def qv (ks:ω)(s:ω)(i:Nat):Nat:=s.countP λc=>decide (c∈ks.take i)
theorem XK (ks s:ω):qv ks s 0=0:=by simp[qv]
theorem Ns {ks s:ω}{i:Nat}(hi:i<ks.length)(hn:ks.Nodup):qv ks s (i+1)=qv ks s i+s.countP (· ==ks.getD i 0):=by
 have hx:ks[i]∉ks.take i:=by
  intro h;obtain⟨j,hj,he⟩:=D_ h;rw[List.getElem_take] at he;have hj2:j<i:=by rw[i_] at hj;omega
  exact List.pairwise_iff_getElem.1 hn j i a_ hi hj2 he
 have e:∀c:UInt8,c∈ks.take (i+1)↔c∈ks.take i\/c=ks[i]:=λc=>by rw[x_ hi,List.mem_append,List.mem_singleton]
 unfold qv;rw[f_,y_ hi,aam];induction s with
 |nil=>rfl
 |cons c s ih=>
  rw[List.countP_cons,List.countP_cons,List.countP_cons,ih];by_cases h1:c=ks[i]
  ·subst h1;have h2:=(e ks[i]).2 (.inr rfl);simp only[h2,hx,decide_true,decide_false,aap,Bu,aaq,beq_self_eq_true];omega
  ·by_cases h2:c∈ks.take i
   ·have h3:=(e c).2 (.inl h2);have h4:(c==ks[i])=false:=by simpa using h1
    simp only[h2,h3,h4,decide_true,aap,Bu,aaq];omega
   ·have h3:¬c∈ks.take (i+1):=λh=>((e c).1 h).elim h2 h1;have h4:(c==ks[i])=false:=by simpa using h1
    simp only[h2,h3,h4,decide_false,Bu,aaq];omega
section
variable {F:UInt8->ω} {ks:ω} {cs:List AVal}
theorem XM (h:U1 F ks cs)(s:ω):(s.flatMap F).length=s.length+s.countP λc=>decide (c∈ks):=by
 induction s with
 |nil=>rfl
 |cons c s ih=>
  rw[O_,d_,ih,List.countP_cons,j_];by_cases hc:c∈ks
  ·rw[(h.yes c hc).2];simp[hc];omega
  ·rw[(h.no c hc).2];simp[hc];omega
theorem Zg (h:U1 F ks cs){s:ω}(h0:(s.countP λc=>decide (c∈ks))=0):s.flatMap F=s:=by
 induction s with
 |nil=>rfl
 |cons c s ih=>
  rw[List.countP_cons] at h0;have hc:c∉ks:=λhc=>by simp[hc] at h0
  rw[O_,(h.no c hc).2,ih a_];rfl
theorem UF {s:ω}{i:Nat}(h:i<s.length):(s.take (i+1)).flatMap F=(s.take i).flatMap F++F s[i]:=by
 rw[x_ h,List.flatMap_append,List.flatMap_singleton]
theorem XN {s:ω}{i:Nat}(h:i<s.length):((s.take (i+1)).countP λc=>decide (c∈ks))=((s.take i).countP λc=>decide (c∈ks))+if s[i]∈ks then 1 else 0:=by
 rw[x_ h,List.countP_append,List.countP_singleton];simp
theorem VK {s:ω}{i:Nat}:((s.take i).flatMap F).length+((s.drop i).flatMap F).length=(s.flatMap F).length:=by
 rw[<-d_,<-List.flatMap_append,List.take_append_drop]
end
theorem MS.seal_buf {C:Ctx}{R:Seal}{w:World}{H:Heap}{b cap:Nat}{s:ω}(h:MS C R (.buf b s cap::H) w):
  ∃R',R.le R'/\MS C R' H w/\bn R' (.list 1 s.length (kX s)) (.slice (some ⟨b,0,none⟩) s.length cap):=by
 obtain⟨hcap,Cs,e1,fz,hb,hrel,hfz⟩:=h.heap.holds _ (z_ ..);obtain⟨h1,h2⟩:=h.fixed (b:=b) rfl hb;refine⟨_,h2,h1,⟨⟨_,cap,rfl,hcap,.inr ⟨b,0,Cs,e1,fz,rfl,Seal.put_at _ _ _,λi hi=> ?_⟩⟩,rfl⟩⟩;have h3:=di 1 (dz i (ec h2 _ _ hrel));have h4:((gp s cap).drop i).take 1=[kX s i]:=by
  unfold gp kX
  rw[List.drop_append_of_le_length (by simp;omega),List.take_append_of_le_length (by simp;omega),<-List.map_drop,<-List.map_take]
  rw[A_ hi,aac,aaa,f_,y_ hi]
  rfl
 rw[h4] at h3
 rw[Nat.zero_add,Nat.mul_one]
 obtain⟨v,t,e,hr,ht⟩:=h3
 have ht:t=[]:=ht
 rw[e,ht]
 exact hr
theorem jA {R:Seal}{p b:Nat}{eT:Option TypeId}{a a':AVal}{cs cs':List AVal}(h:cs.set p a'=cs')(hp:cs[p]? =some a)(ht:∀v,bI R a [v]->bI R a' [v]):mh R p a' (.cells b eT cs) (.cells b eT cs'):=h▸ .cells hp ht
section
variable {C:Ctx} {n:Nat} {e:Env} {h:Heap}
theorem lH {i k p b cap:Nat}{s:ω}{x y:HEnt}(hi:h[i]? =some (.buf b s cap))(hk:(h.eraseIdx i)[k]? =some x)
  (hc:∀R,bn R (.list 1 s.length (kX s)) (.slice (some ⟨b,0,none⟩) s.length cap)->mh R p (.list 1 s.length (kX s)) x y):To C n e h e ((h.eraseIdx i).set k y):=λR a w hm hfs=>by
 obtain⟨R',hle,hm',hr⟩:=MS.seal_buf (hm.perm (fd hi));obtain⟨h1,h2⟩:=(hc R' hr).holds (hm'.heap.holds x (q_ hk));exact⟨R',hle,hm'.setEnt hk h2 h1,hfs.mono hle⟩
end
section
variable {P:Program} [Tab P] {C:Ctx} {n:Nat} {env:Env} {H:Heap} {Q:aL->Env->Heap->Prop} {ops:Array Oper} {rest:List Oper} {G:Glo} {GL:List (Nat×List AVal)}
variable {d:Nat} {t:TypeId} {p:String} {af:Array Edge} {g:Option (Nat×Bool)} {b:Bool}
variable {x y:Operand} {T T2 e:TypeId} {xT xe:TI}
theorem MI {i bl o l c cap:Nat}{s s2:ω}(hC:C.G=G)(hGL:ab G GL)(hx:ah env x=some (.own i (.slice (some ⟨bl,o,none⟩) l c)))(hy:ah env y=some (.list 1 s2.length (kX s2)))(h0:0<s2.length)
  (hi:H[i]? =some (.buf bl s cap)) (ho:o+s2.length<=s.length) (hl:s2.length<=l) (ht:bj P T=some xT) (hd:xT.desc= .slice e) (he:bj P e=some xe) (hs:xe.size=1)
  (hg:aQ ops env g=some (b,b)) (hdn:Nat.ble (d+1) n=true)
  (k:mN P C n G GL ops Q rest ((d,.int .i64 s2.length)::env) (H.set i (.buf bl (s.take o++s2++s.drop (o+s2.length)) cap))):
  uD P C n ops ({dst:=some d,op:=.call {callee:=.builtin .copy,args:=#[x,y],argTypes:=#[T,T2]},type:=t,pos:=p,after:=af,guard:=g}::rest) env H Q:=by
 refine⟨uz hg rfl hdn (av:=.int .i64 s2.length) (H':=H.set i (.buf bl (s.take o++s2++s.drop (o+s2.length)) cap)) (λR ρ w hm hf=> ?_) (fm hC hGL _ _ _ k)⟩;obtain⟨hcap,Cs,e1,fz,hb,hrel,hfz⟩:=hm.heap.holds _ (q_ hi);obtain⟨a2,c2,hv2,hle2,hz⟩:=bC (hf _ _ hy) rfl;have hv2:ρ y= .slice a2 s2.length c2:=by simpa using hv2
 rcases hz with hz|⟨b2,o2,C2,e2,fz2,rfl,hR2,hin⟩
 ·omega
 have hb2:=hm.sealed _ _ hR2;have hlen:=aJ hrel;have hown:(gp s cap).length=cap:=by simp[gp];omega
 rw[hown,r_] at hlen;obtain⟨ti,hti,his,_,_,_⟩:=ii he;have hn1:(s2.map λc=>Value.int .u8 (c.toNat:Int)).length=s2.length:=by simp
 have hone:∀v∈s2.map (λc=>Value.int .u8 (c.toNat:Int)),v.oneCell'=true:=by
  intro v hv;obtain⟨c,_,rfl⟩:=List.mem_map.1 hv;rfl
 have hcell:∀j,j<(s2.map λc=>Value.int .u8 (c.toNat:Int)).length->(w.cell? ⟨bl,o+j,none⟩).isSome=true:=by
  intro j hj;rw[hn1] at hj;simp only[World.cell?,hb];simp;omega
 have hfro:∀j,j<(s2.map λc=>Value.int .u8 (c.toNat:Int)).length->w.frozen? ⟨bl,o+j,none⟩=false:=by
  intro j hj;rw[hn1] at hj;obtain⟨lo,hi'⟩:=fz;simp only[World.frozen?,hb,ow] at hfz ⊢;simp;omega
 have hsrc:∀j v,(s2.map λc=>Value.int .u8 (c.toNat:Int))[j]? =some v->w.cell? ((⟨b2,o2,none⟩:Addr).add j)=some v:=by
  intro j v hv;have hj2:j<s2.length:=by
   have:=(List.getElem?_eq_some_iff.1 hv).1;simpa using this
  rw[List.getElem?_map,y_ hj2] at hv;simp only[aal,g_] at hv;have hr:=hin j hj2;unfold kX at hr;rw[f_,y_ hj2,Nat.mul_one] at hr;have hr:(C2.toList.drop (o2+j)).take 1=[Value.int .u8 (s2[j].toNat:Int)]:=hr;have hg2:C2.toList[o2+j]? =some (Value.int .u8 (s2[j].toNat:Int)):=by
   have h4:=congrArg (λl=>l[0]?) hr;simpa using h4
  subst hv;have hadd:(⟨b2,o2,none⟩:Addr).add j=⟨b2,o2+j,none⟩:=by
   simp only[Addr.add];by_cases h0:j=0
   ·simp[h0]
   ·simp[h0]
  rw[hadd];simp only[World.cell?,hb2];simpa using hg2
 have hr:=run_copy_cells (P:=P) w T T2 t e bl o l c ⟨b2,o2,none⟩ s2.length c2 _ (by rw[bR ht,hd]) (by rw[hti];simp[his,hs]) (by rw[hn1];exact(Nat.min_eq_left hl).symm) hsrc hcell hfro hone;have hrun:=EK (ty:=t) (d:=d) (p:=p) (af:=af) (g:=g) (aE.1 (hf _ _ hx)).1 hv2 hr;obtain⟨w',hw',ho'⟩:=fu (P:=P) (s2.map λc=>Value.int .u8 (c.toNat:Int)) o 0 Cs w hb (by rw[hn1];omega) hfz (λu hu=>by
  obtain⟨c,_,rfl⟩:=List.mem_map.1 hu;exact⟨rfl,λa h=>by cases h⟩)
 have hst:=run_storeCells_cells (P:=P) bl o (s2.map λc=>Value.int .u8 (c.toNat:Int)) 0 w (by simpa using hcell) (by simpa using hfro) hone;rw[hst] at hw';simp only[Result.ok.injEq,true_and] at hw';simp only[Nat.add_zero] at hw' ho';refine⟨_,_,R,hrun,Seal.le_refl R,?_,?_⟩
 ·rw[hn1];exact ap.2 rfl
 ·rw[hw'];refine hm.write hi rfl ho' rfl ⟨?_,_,_,_,ho'.at_,?_,?_⟩
  ·simp only[d_,i_,k_];omega
  ·rw[Pz ho hcap,hn1];exact cp (cp (di _ hrel) (q9 R s2)) (dz _ hrel)
  ·have:((Cs.toList.take o++(s2.map λc=>Value.int .u8 (c.toNat:Int))++Cs.toList.drop (o+(s2.map λc=>Value.int .u8 (c.toNat:Int)).length)).toArray).size=Cs.size:=by
    simp only[Y_,d_,i_,k_,r_,hn1];omega
   rw[this];exact hfz
end
end
end Go.Proofs.YtgpjhbhdbjdlgaaGreatDoor
