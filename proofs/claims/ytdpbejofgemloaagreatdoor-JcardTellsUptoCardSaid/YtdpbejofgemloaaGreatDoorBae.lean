/- Parts of the proof of jcardTells_card: Wk, Tell, Telb, Plc, Nm, Shelf, Zon, Whp. -/
import Derived.Stop.Asserts
import Derived.Shelf.Strings.Builder1
import Derived.Shelf.Strings.Builder2
import Derived.Shelf.Strings.OnBuilder
import Derived.Shelf.Small.Utf8
import Derived.Shelf.Small.Strs
import Derived.Shelf.Strings.BuilderF
import Derived.Shelf.Strings.BuilderK
import Derived.Shelf.Strings.BuilderRune
import Derived.Shelf.Utf8.RuneCount
import Derived.Shelf.Strings.Builder2Cap
import Derived.Shelf.Strconv.Atoi
import Derived.Shelf.Strconv.Itoa0
import Derived.Shelf.Strconv.Itoa1
import Derived.Shelf.LaysM
import Derived.Shelf.Strconv.Itoa2
import Derived.Shelf.Strconv.Itoa3
import Derived.Shelf.Strconv.Itoa4
import Derived.Shelf.Strconv.AtoiErrFast
import Derived.Shelf.Strconv.ParseIntEmpty
import Derived.Shelf.Strconv.AtoiFail
import Derived.Shelf.Strconv.Clone
import Derived.Shelf.Strconv.SyntaxError
import Derived.Shelf.LaysC
import Derived.Shelf.Strconv.ToError
import Derived.Shelf.Strconv.AtoiErr
import Derived.Shelf.Strconv.Lower
import Derived.Shelf.Strconv.ParseUint10
import Derived.Shelf.Strconv.ParseUint10Empty
import Derived.Shelf.Strconv.ParseUint10Any
import Derived.Shelf.Strconv.ParseInt10
import Derived.Shelf.Strconv.AtoiLong
import Derived.Shelf.Strconv.AtoiInnerAll
import Derived.Shelf.Strconv.RangeError
import Derived.Shelf.Strconv.ToErrorRange
import Derived.Shelf.Strconv.AtoiAll
import Derived.Shelf.Strconv.ErrVarAll
import Derived.Shelf.Strconv.ParseUintEmpty
import Derived.Shelf.Strings.Search1
import Derived.Shelf.Strings.Search2
import Derived.Shelf.Strings.Search3
import Derived.Shelf.Strings.Cut
import Derived.Shelf.Strings.Count
import Derived.Shelf.Strings.Shaped
import Derived.Shelf.Strings.Prefix
import Derived.Shelf.Strings.Split
import Derived.Shelf.Strings.Fields
import Derived.Shelf.Strings.SplitShaped
import Derived.Shelf.Unicode.Latin
import Derived.Shelf.Unicode.Decode
import Derived.Shelf.Strings.Runes
import Derived.Shelf.Strings.RuneCount
import Derived.Shelf.Strings.IndexAny
import Derived.Shelf.Strings.AsciiSet
import Derived.Shelf.Strings.IndexAnyAll
import Derived.Shelf.Strings.Explode
import Derived.Shelf.Unicode.DecodeSlow
import Derived.Shelf.Unicode.DecodeAny
import Derived.Shelf.Unicode.Is16White
import Derived.Shelf.Unicode.IsSpaceAny
import Derived.Shelf.Unicode.CaseLookup
import Derived.Shelf.Unicode.CaseConvert
import Derived.Shelf.Unicode.CaseTo
import Derived.Shelf.Unicode.CaseLaid
import Derived.Shelf.Strings.MapAny
import Derived.Shelf.Unicode.Is16Any
import Derived.Shelf.Unicode.Is32Any
import Derived.Shelf.Unicode.ExclAny
import Derived.Shelf.Strings.BuilderCap
import Derived.Shelf.Strings.MapGrows
import Derived.Test.YtdpbejofgemloaaGreatDoorProg
import Derived.Lib.ItoaNum
import Derived.Test.YtdpbejofgemloaaGreatDoorBad
set_option linter.unusedVariables false
set_option linter.unusedSimpArgs false
set_option linter.unusedSectionVars false
namespace Go.Proofs.YtdpbejofgemloaaGreatDoor
set_option maxRecDepth 20000
set_option maxHeartbeats 4000000
section
open Go
structure Lf (Q:Prop):Prop where
 h:Q
structure Lc (a b:Prop):Prop where
 l:a
 r:b
inductive Le:Prop
 |n
inductive Lz:Prop→Prop
 |n:Lz Le
 |c {a b:Prop}:Lz b→Lz (Lc a b)
theorem Lf.l {a b:Prop}(q:Lf (Lc a b)):a:=q.h.l
theorem Lf.r {a b:Prop}(q:Lf (Lc a b)):Lf b:=⟨q.h.r⟩
structure Ct (I:Env) (J:Heap) (p:Prop) (e:Env) (h:Heap):Prop where
 p:p
 s:Env.sub e I
 j:h=J
theorem Ct.w {I:Env}{J:Heap}{p:Prop}{e:Env}{h:Heap}(hp:p:=by first|exact True.intro|assumption|omega)(hs:Env.sub e I:=by repeat (first|exact trivial|refine And.intro rfl ?_))(hj:h=J:=by rfl):Ct I J p e h:=⟨hp,hs,hj⟩
structure Cy {X:Type} (I:X→Env) (J:X→Heap) (Inv:X→Prop) (e:Env) (h:Heap):Prop where
 h:∃x,Inv x∧Env.sub e (I x)∧h=J x
theorem cy {X:Type}{I:X→Env}{J:X→Heap}{Inv:X→Prop}{e:Env}{h:Heap}(x:X)(hp:Inv x)(hs:Env.sub e (I x):=by repeat (first|exact trivial|refine And.intro rfl ?_))(hj:h=J x:=by rfl):Cy I J Inv e h:=⟨⟨x,hp,hs,hj⟩⟩
section
variable {P:Program} [Tab P] {C:Ctx} {n:Nat} {G:Glo} {GL:List (Nat×List AVal)} {env:Env} {H:Heap} {Q:AExit→Env→Heap→Prop}
theorem fn_a {f:FuncId}{fn:Func}{c:Code}{avs:List AVal}{Qf:ARes→Heap→Prop}{rs:List ResultVar}(hf:P.funcs[f]? =some fn)
  (hc:∀args w,(callFunc f args).run P w= .ok (.enter f args) w) (hb:fn.body=some c) (hn:fn.ntmps=n) (hrs:fn.results=rs.toArray) (hlen:Nat.ble avs.length n=true)
  (h:∀C:Ctx,C.G=G→AWp P C n c (di 0 avs) H (RetX P rs Qf)):ah P G f avs H Qf:=
 k8 hf hb hc hn hrs hlen fun w0 R0 hG=>(h ⟨w0,R0,blks H,G,hG,[]⟩ rfl).mono fun _ _ _ q=>fI q
theorem ap {c:Code}(hC:C.G=G)(hGL:ad G GL)(h:dG P C n G GL c env H Q):AWp P C n c env H Q:=bI hC hGL _ _ _ _ h
theorem cuty {a b:Code}{X:Type}(hC:C.G=G)(hGL:ad G GL)(I:X→Env)(J:X→Heap)(Inv:X→Prop)(h1:dG P C n G GL a env H (cR (fun e h=>Cy I J Inv e h) Q))(h2:∀x,Inv x→AWp P C n b (I x) (J x) Q):AWp P C n (.seq a b) env H Q:=
 bq ((bI hC hGL _ _ _ _ h1).mono fun x e h q=>by
  cases x with
  |normal=>
   obtain⟨y,hy,hs,rfl⟩:=q.h
   exact C8 hs (h2 y hy)
  |exit i=>exact q
  |goto i=>exact q
  |ret=>exact q
  |panic v=>exact q)
theorem cut {a b:Code}(hC:C.G=G)(hGL:ad G GL)(I:Env)(J:Heap)(p:Prop)(h1:dG P C n G GL a env H (cR (fun e h=>Ct I J p e h) Q))(h2:p→AWp P C n b I J Q):AWp P C n (.seq a b) env H Q:=
 bq ((bI hC hGL _ _ _ _ h1).mono fun x e h q=>by
  cases x with
  |normal=>
   obtain⟨hp,hs,rfl⟩:=q
   exact C8 hs (h2 hp)
  |exit i=>exact q
  |goto i=>exact q
  |ret=>exact q
  |panic v=>exact q)
end
theorem xw0 {P:Prop}(h:P:=by
  repeat' (first
   |(conv=>whnf);first
    |refine .w ?_|refine .v ?_|apply cY|apply aX
    |(first|apply kB|apply gz|apply kC|apply gB|apply gA|apply eE|apply gy|apply eD)<;>(intro wb;try exact dd wb)
    |apply ao|apply aG|(apply sc_i<;>intro wb)
    |(apply bx_i;intro wb)|(apply gt_i;assumption;exact rfl)
    |(apply ax;first|assumption|(apply k1<;>omega)|(apply k2<;>omega)|(apply k3<;>omega))|(apply aw (i:=0) rfl;assumption)|(apply aw (i:=1) rfl;assumption)|(apply aw (i:=2) rfl;assumption)
    |(apply ab_i;intro wl)|(apply as_i;intro wa wk wc wh)|(apply av_i;intro wv)|(apply ac_i;intro wl wq wb)
    |apply bo_l|(apply nx_i<;>intro wb)|(apply Ia.hit;assumption)|(apply Ia.miss;assumption)
    |(apply ak;exact rfl)|(show Rt _ _ _;exact rt_w)|(show Ct _ _ _ _ _;exact Ct.w)|(apply iv;assumption)
    |exact True.intro|(apply bc_i;intro wC whC)|apply bt_i|apply og_n|(apply og_a;exact rfl)|apply dw_q mixed whC hGL (by kernel_rfl)|apply dw_q mixed hC hGL (by kernel_rfl)|(apply cq;assumption;(first|assumption|(apply k1<;>omega)|(apply k2<;>omega));exact rfl))
  all_goals (try conv=>whnf)):P:=h
theorem xw1 {P Q:Prop}(hQ:Q)(h:Lf Q→P:=by
  intro ww
  repeat' (first
   |(conv=>whnf);first
    |refine .w ?_|refine .v ?_|apply cY|apply aX
    |(first|apply kB|apply gz|apply kC|apply gB|apply gA|apply eE|apply gy|apply eD)<;>(intro wb;try exact dd wb)
    |apply ao|apply aG|(apply sc_i<;>intro wb)
    |(apply bx_i;intro wb)|(apply gt_i;assumption;exact rfl)
    |(apply ax;first|assumption|(apply k1<;>omega)|(apply k2<;>omega)|(apply k3<;>omega))|(apply aw (i:=0) rfl;assumption)|(apply aw (i:=1) rfl;assumption)|(apply aw (i:=2) rfl;assumption)
    |(apply ab_i;intro wl)|(apply as_i;intro wa wk wc wh)|(apply av_i;intro wv)|(apply ac_i;intro wl wq wb)
    |apply bo_l|(apply nx_i<;>intro wb)|(apply Ia.hit;assumption)|(apply Ia.miss;assumption)
    |(apply ak;exact rfl)|(show Rt _ _ _;exact rt_w)|(show Ct _ _ _ _ _;exact Ct.w)|(apply iv;assumption)
    |exact True.intro|(apply bc_i;intro wC whC)|apply bt_i|apply og_n|(apply og_a;exact rfl)|apply dw_q mixed whC hGL (by kernel_rfl)|apply dw_q mixed hC hGL (by kernel_rfl)|(apply cq;assumption;(first|assumption|(apply k1<;>omega)|(apply k2<;>omega));exact rfl))
  all_goals (try conv=>whnf)
  all_goals (repeat (first|revert wb|revert wh|revert wc|revert wk|revert wa|revert wq|revert wl|revert wv|revert whC|revert wC))
  all_goals (apply Lf.h;apply ww)):P:=h ⟨hQ⟩
theorem xw {P Q:Prop}(hQ:Q)(h:Lf Q→P:=by
  intro ww
  repeat' (first
   |(conv=>whnf);first
    |refine .w ?_|refine .v ?_|apply cY|apply aX
    |(first|apply kB|apply gz|apply kC|apply gB|apply gA|apply eE|apply gy|apply eD)<;>(intro wb;try exact dd wb)
    |apply ao|apply aG|(apply sc_i<;>intro wb)
    |(apply bx_i;intro wb)|(apply gt_i;assumption;exact rfl)
    |(apply ax;first|assumption|(apply k1<;>omega)|(apply k2<;>omega)|(apply k3<;>omega))|(apply aw (i:=0) rfl;assumption)|(apply aw (i:=1) rfl;assumption)|(apply aw (i:=2) rfl;assumption)
    |(apply ab_i;intro wl)|(apply as_i;intro wa wk wc wh)|(apply av_i;intro wv)|(apply ac_i;intro wl wq wb)
    |apply bo_l|(apply nx_i<;>intro wb)|(apply Ia.hit;assumption)|(apply Ia.miss;assumption)
    |(apply ak;exact rfl)|(show Rt _ _ _;exact rt_w)|(show Ct _ _ _ _ _;exact Ct.w)|(apply iv;assumption)
    |exact True.intro|(apply bc_i;intro wC whC)|apply bt_i|apply og_n|(apply og_a;exact rfl)|apply dw_q mixed whC hGL (by kernel_rfl)|apply dw_q mixed hC hGL (by kernel_rfl)|(apply cq;assumption;(first|assumption|(apply k1<;>omega)|(apply k2<;>omega));exact rfl))
  all_goals (try conv=>whnf)
  all_goals (repeat (first|revert wb|revert wh|revert wc|revert wk|revert wa|revert wq|revert wl|revert wv|revert whC|revert wC))
  all_goals (apply Lf.l;with_reducible (repeat (first|apply ww|apply Lf.r)))) (e:Lz Q:=by repeat (first|exact Lz.n|apply Lz.c)):P:=h ⟨hQ⟩
theorem xn0 {P:Prop}(h:P:=by
  repeat' (first
   |(conv=>whnf);first
    |refine .w ?_|refine .v ?_|apply cY|apply aX
    |(first|apply kB|apply gz|apply kC|apply gB|apply gA|apply eE|apply gy|apply eD)<;>(intro wb;try exact dd wb)
    |apply ao|apply aG|(apply sc_i<;>intro wb)
    |(apply bx_i;intro wb)|(apply gt_i;assumption;exact rfl)
    |(apply ax;first|assumption|(apply k1<;>omega)|(apply k2<;>omega)|(apply k3<;>omega))|(apply aw (i:=0) rfl;assumption)|(apply aw (i:=1) rfl;assumption)|(apply aw (i:=2) rfl;assumption)
    |(apply ab_i;intro wl)|(apply as_i;intro wa wk wc wh)|(apply av_i;intro wv)|(apply ac_i;intro wl wq wb)
    |apply bo_l|(apply nx_i<;>intro wb)|(apply Ia.hit;assumption)|(apply Ia.miss;assumption)
    |(apply ak;exact rfl)|(show Rt _ _ _;exact rt_w)|(show Ct _ _ _ _ _;exact Ct.w)|(apply iv;assumption)
    |exact True.intro|(apply bc_i;intro wC whC)|apply bt_i|apply og_n|(apply og_a;exact rfl))
  all_goals (try conv=>whnf)):P:=h
theorem xn1 {P Q:Prop}(hQ:Q)(h:Lf Q→P:=by
  intro ww
  repeat' (first
   |(conv=>whnf);first
    |refine .w ?_|refine .v ?_|apply cY|apply aX
    |(first|apply kB|apply gz|apply kC|apply gB|apply gA|apply eE|apply gy|apply eD)<;>(intro wb;try exact dd wb)
    |apply ao|apply aG|(apply sc_i<;>intro wb)
    |(apply bx_i;intro wb)|(apply gt_i;assumption;exact rfl)
    |(apply ax;first|assumption|(apply k1<;>omega)|(apply k2<;>omega)|(apply k3<;>omega))|(apply aw (i:=0) rfl;assumption)|(apply aw (i:=1) rfl;assumption)|(apply aw (i:=2) rfl;assumption)
    |(apply ab_i;intro wl)|(apply as_i;intro wa wk wc wh)|(apply av_i;intro wv)|(apply ac_i;intro wl wq wb)
    |apply bo_l|(apply nx_i<;>intro wb)|(apply Ia.hit;assumption)|(apply Ia.miss;assumption)
    |(apply ak;exact rfl)|(show Rt _ _ _;exact rt_w)|(show Ct _ _ _ _ _;exact Ct.w)|(apply iv;assumption)
    |exact True.intro|(apply bc_i;intro wC whC)|apply bt_i|apply og_n|(apply og_a;exact rfl))
  all_goals (try conv=>whnf)
  all_goals (repeat (first|revert wb|revert wh|revert wc|revert wk|revert wa|revert wq|revert wl|revert wv|revert whC|revert wC))
  all_goals (apply Lf.h;apply ww)):P:=h ⟨hQ⟩
theorem xn {P Q:Prop}(hQ:Q)(h:Lf Q→P:=by
  intro ww
  repeat' (first
   |(conv=>whnf);first
    |refine .w ?_|refine .v ?_|apply cY|apply aX
    |(first|apply kB|apply gz|apply kC|apply gB|apply gA|apply eE|apply gy|apply eD)<;>(intro wb;try exact dd wb)
    |apply ao|apply aG|(apply sc_i<;>intro wb)
    |(apply bx_i;intro wb)|(apply gt_i;assumption;exact rfl)
    |(apply ax;first|assumption|(apply k1<;>omega)|(apply k2<;>omega)|(apply k3<;>omega))|(apply aw (i:=0) rfl;assumption)|(apply aw (i:=1) rfl;assumption)|(apply aw (i:=2) rfl;assumption)
    |(apply ab_i;intro wl)|(apply as_i;intro wa wk wc wh)|(apply av_i;intro wv)|(apply ac_i;intro wl wq wb)
    |apply bo_l|(apply nx_i<;>intro wb)|(apply Ia.hit;assumption)|(apply Ia.miss;assumption)
    |(apply ak;exact rfl)|(show Rt _ _ _;exact rt_w)|(show Ct _ _ _ _ _;exact Ct.w)|(apply iv;assumption)
    |exact True.intro|(apply bc_i;intro wC whC)|apply bt_i|apply og_n|(apply og_a;exact rfl))
  all_goals (try conv=>whnf)
  all_goals (repeat (first|revert wb|revert wh|revert wc|revert wk|revert wa|revert wq|revert wl|revert wv|revert whC|revert wC))
  all_goals (apply Lf.l;with_reducible (repeat (first|apply ww|apply Lf.r)))) (e:Lz Q:=by repeat (first|exact Lz.n|apply Lz.c)):P:=h ⟨hQ⟩
theorem xb1 {P Q:Prop}(hQ:Q)(h:Lf Q→P:=by
  intro ww
  repeat' (first
   |(conv=>whnf);first
    |refine .w ?_|refine .v ?_|apply cY|apply aX
    |(first|apply kB|apply gz|apply kC|apply gB|apply gA|apply eE|apply gy|apply eD)<;>(intro wb;try exact dd wb)
    |apply ao|apply aG|(apply sc_i<;>intro wb)
    |(apply bx_i;intro wb)|(apply gt_i;assumption;exact rfl)
    |(apply ax;first|assumption|(apply k1<;>omega)|(apply k2<;>omega)|(apply k3<;>omega))|(apply aw (i:=0) rfl;assumption)|(apply aw (i:=1) rfl;assumption)|(apply aw (i:=2) rfl;assumption)
    |(apply ab_i;intro wl)|(apply as_i;intro wa wk wc wh)|(apply av_i;intro wv)|(apply ac_i;intro wl wq wb)
    |apply bo_r|(apply nx_i<;>intro wb)|(apply Ia.hit;assumption)|(apply Ia.miss;assumption)
    |(apply ak;exact rfl)|(show Rt _ _ _;exact rt_w)|(show Ct _ _ _ _ _;exact Ct.w)|(apply iv;assumption)
    |exact True.intro|(apply bc_i;intro wC whC)|apply bt_i|apply og_n|(apply og_a;exact rfl))
  all_goals (try conv=>whnf)
  all_goals (repeat (first|revert wb|revert wh|revert wc|revert wk|revert wa|revert wq|revert wl|revert wv|revert whC|revert wC))
  all_goals (apply Lf.h;apply ww)):P:=h ⟨hQ⟩
theorem xb {P Q:Prop}(hQ:Q)(h:Lf Q→P:=by
  intro ww
  repeat' (first
   |(conv=>whnf);first
    |refine .w ?_|refine .v ?_|apply cY|apply aX
    |(first|apply kB|apply gz|apply kC|apply gB|apply gA|apply eE|apply gy|apply eD)<;>(intro wb;try exact dd wb)
    |apply ao|apply aG|(apply sc_i<;>intro wb)
    |(apply bx_i;intro wb)|(apply gt_i;assumption;exact rfl)
    |(apply ax;first|assumption|(apply k1<;>omega)|(apply k2<;>omega)|(apply k3<;>omega))|(apply aw (i:=0) rfl;assumption)|(apply aw (i:=1) rfl;assumption)|(apply aw (i:=2) rfl;assumption)
    |(apply ab_i;intro wl)|(apply as_i;intro wa wk wc wh)|(apply av_i;intro wv)|(apply ac_i;intro wl wq wb)
    |apply bo_r|(apply nx_i<;>intro wb)|(apply Ia.hit;assumption)|(apply Ia.miss;assumption)
    |(apply ak;exact rfl)|(show Rt _ _ _;exact rt_w)|(show Ct _ _ _ _ _;exact Ct.w)|(apply iv;assumption)
    |exact True.intro|(apply bc_i;intro wC whC)|apply bt_i|apply og_n|(apply og_a;exact rfl))
  all_goals (try conv=>whnf)
  all_goals (repeat (first|revert wb|revert wh|revert wc|revert wk|revert wa|revert wq|revert wl|revert wv|revert whC|revert wC))
  all_goals (apply Lf.l;with_reducible (repeat (first|apply ww|apply Lf.r)))) (e:Lz Q:=by repeat (first|exact Lz.n|apply Lz.c)):P:=h ⟨hQ⟩
end
section
open Go Go.Extern
attribute [local irreducible] AWp AOps aa aA OrOk ad ah
/-! ### Types as the model's externs hand them about -/
noncomputable def hdl (t:TypeId):Value:=typeHandle Tryz.prog t
theorem mP (t:Addr)(w:World):(ReflectliteValue.unpack (.iface 164 (.pointer (some t)))).run Tryz.prog w
  = .ok (.agg #[hdl 164,.pointer (some ⟨w.heap.size,0,none⟩),.int .u64 150]) (w.alloc (.cells #[.pointer (some t)] 164)):=by kernel_rfl
theorem kE (e:Int)(w:World):(ReflectliteValue.unpack (.iface 30 (.int .i64 e))).run Tryz.prog w
  = .ok (.agg #[hdl 30,.pointer (some ⟨w.heap.size,0,none⟩),.int .u64 130]) (w.alloc (.cells #[.int .i64 e] 30)):=by kernel_rfl
theorem eF {R:Seal}{a:AVal}{args:Array Value}(h:RelV R [a] args.toList):∃v,args=#[v]∧Rel R a v:=by
 obtain⟨x,t,e,hx,rfl⟩:=h
 exact⟨x,by cases args;simp_all,hx⟩
theorem ko {R:Seal}{a b:AVal}{args:Array Value}(h:RelV R [a,b] args.toList):∃v u,args=#[v,u]∧Rel R a v∧Rel R b u:=by
 obtain⟨x,t,e,hx,y,t',e',hy,rfl⟩:=h
 exact⟨x,y,by cases args;simp_all,hx,hy⟩
theorem gf {R:Seal}{t:TypeId}{a:AVal}{v:Value}(h:Rel R (.iface t a) v):∃u,v= .iface t u∧Rel R a u:=by
 obtain⟨u,e,h1,h2⟩:=aP h rfl
 simp only[List.cons.injEq,and_true] at e
 exact⟨u,e,h1,h2⟩
theorem sL {G:Glo}(bl:Nat):FnIs Tryz.prog G 150 [.iface 164 (.raw (.pointer (some ⟨bl,0,none⟩)))]
  (.agg [.raw (hdl 164),.rop [.raw (.pointer (some ⟨bl,0,none⟩))] 0,.int .u64 150]):=by
 refine ib Tryz.func150 (by kernel_rfl) (by kernel_rfl) (by kernel_rfl) (e:=fun args=>ReflectliteValue.unpack (args.getD 0 (.tuple #[]))) (by kernel_rfl) ?_
 intro R args w ha
 obtain⟨v,rfl,hv⟩:=eF ha
 obtain⟨u,rfl,hu⟩:=gf hv
 obtain rfl:=an.1 hu
 refine⟨_,_,_,mP _ w,fun R' _ hR=>⟨⟨_,_,rfl,rfl,_,_,rfl,?_,_,_,rfl,rfl,rfl⟩,rfl⟩⟩
 exact(cS (R:=R') (cs:=[.raw (.pointer (some ⟨bl,0,none⟩))]) (off:=0) (Nat.le_refl _) ⟨_,_,_,hR,⟨_,_,rfl,rfl,rfl⟩⟩).1
theorem jx {G:Glo}(e:Int):FnIs Tryz.prog G 150 [.iface 30 (.int .i64 e)]
  (.agg [.raw (hdl 30),.rop [.int .i64 e] 0,.int .u64 130]):=by
 refine ib Tryz.func150 (by kernel_rfl) (by kernel_rfl) (by kernel_rfl) (e:=fun args=>ReflectliteValue.unpack (args.getD 0 (.tuple #[]))) (by kernel_rfl) ?_
 intro R args w ha
 obtain⟨v,rfl,hv⟩:=eF ha
 obtain⟨u,rfl,hu⟩:=gf hv
 obtain rfl:=am.1 hu
 refine⟨_,_,_,kE _ w,fun R' _ hR=>⟨⟨_,_,rfl,rfl,_,_,rfl,?_,_,_,rfl,rfl,rfl⟩,rfl⟩⟩
 exact(cS (R:=R') (cs:=[.int .i64 e]) (off:=0) (Nat.le_refl _) ⟨_,_,_,hR,⟨_,_,rfl,rfl,rfl⟩⟩).1
/-! ### Types -/
noncomputable abbrev rty (t:TypeId):AVal:=.iface 253 (.agg [.raw (hdl t)])
theorem kK {R:Seal}(t:TypeId):Rel R (rty t) (.iface 253 (.agg #[hdl t])):=⟨⟨_,rfl,⟨_,_,rfl,rfl,rfl⟩,rfl⟩,rfl⟩
theorem dE {R:Seal}{x:Value}{v:Value}(hx:vAgg x=false)(h:Rel R (.agg [.raw x]) v):v= .agg #[x]:=by
 obtain⟨h1,h2⟩:=h
 cases v<;>simp only[AVal.isAgg,vAgg,Bool.true_eq_false] at h2
 rename_i cs
 obtain⟨a,t,e,ha,rfl⟩:=h1
 simp only[Value.cells] at e
 have ha:[a]=x.cells.toList:=ha
 have:x.cells.toList=[x]:=by cases x<;>first|rfl|(simp[vAgg] at hx)
 rw[this] at ha
 simp only[List.cons.injEq,and_true] at ha
 subst ha
 have:cs=#[a]:=by cases cs;simp_all
 rw[this]
theorem rl {R:Seal}{t:TypeId}{v:Value}(h:Rel R (rty t) v):v= .iface 253 (.agg #[hdl t]):=by
 obtain⟨u,rfl,hu⟩:=gf h
 rw[dE rfl hu]
theorem ly {R:Seal}{x:Value}{k:IntKind}{n:Int}{c:AVal}{v:Value}(hx:vAgg x=false)(h:Rel R (.agg [.raw x,.rop [c] 0,.int k n]) v):
  ∃b o,v= .agg #[x,.pointer (some ⟨b,o,none⟩),.int k n]∧bX R b o [c]:=by
 obtain⟨h1,h2⟩:=h
 cases v<;>simp only[AVal.isAgg,vAgg,Bool.true_eq_false] at h2
 rename_i cs
 obtain⟨a,t,e,ha,a',t',e',ha',a'',t'',e'',ha'',rfl⟩:=h1
 simp only[Value.cells] at e
 have ha:[a]=x.cells.toList:=ha
 have hxl:x.cells.toList=[x]:=by cases x<;>first|rfl|(simp[vAgg] at hx)
 rw[hxl] at ha
 simp only[List.cons.injEq,and_true] at ha
 subst ha
 have ha'':[a'']=[Value.int k n]:=ha''
 simp only[List.cons.injEq,and_true] at ha''
 subst ha''
 obtain⟨b,o,e2,ho,hs⟩:=cZ (bH ha' rfl)
 subst e2
 refine⟨b,o,?_,by simpa using hs⟩
 have:cs=#[a,.pointer (some ⟨b,o,none⟩),.int k n]:=by cases cs;simp_all
 rw[this]
theorem kj {G:Glo}(e:Int):FnIs Tryz.prog G 182 [.iface 30 (.int .i64 e)] (rty 30):=by
 refine bM Tryz.func182 (by kernel_rfl) (by kernel_rfl) (by kernel_rfl) (e:=ReflectliteType.typeOf) (by kernel_rfl) ?_
 intro R args ha w
 obtain⟨v,rfl,hv⟩:=eF ha
 obtain⟨u,rfl,hu⟩:=gf hv
 exact⟨.iface 253 (.agg #[hdl 30]),by kernel_rfl,kK _⟩
theorem zb {G:Glo}(a:AVal):FnIs Tryz.prog G 182 [.iface 69 a] (rty 69):=by
 refine bM Tryz.func182 (by kernel_rfl) (by kernel_rfl) (by kernel_rfl) (e:=ReflectliteType.typeOf) (by kernel_rfl) ?_
 intro R args ha w
 obtain⟨v,rfl,hv⟩:=eF ha
 obtain⟨u,rfl,hu⟩:=gf hv
 exact⟨.iface 253 (.agg #[hdl 69]),by kernel_rfl,kK _⟩
theorem AP {G:Glo}(c:AVal):FnIs Tryz.prog G 151 [.agg [.raw (hdl 164),.rop [c] 0,.int .u64 150]] (rty 164):=by
 refine bM Tryz.func151 (by kernel_rfl) (by kernel_rfl) (by kernel_rfl)
  (e:=ReflectliteValue.methodAny (ReflectliteValue.valueError "reflectlite.Value.Type" 0) fun t _ _ _=>ReflectliteType.toType t) (by kernel_rfl) ?_
 intro R args ha w
 obtain⟨v,rfl,hv⟩:=eF ha
 obtain⟨b,o,rfl,_⟩:=ly rfl hv
 exact⟨.iface 253 (.agg #[hdl 164]),by kernel_rfl,kK _⟩
theorem vr {G:Glo}(t:TypeId)(k:Int)(h:∀w,(((ReflectliteType.abiMethod fun t=>do pure (.int .u8 (←Rtype.kind t))) #[hdl t]).run Tryz.prog w)= .ok (.int .u8 k) w):FnIs Tryz.prog G 263 [.raw (hdl t)] (.int .u8 k):=by
 refine bM Tryz.func263 (by kernel_rfl) (by kernel_rfl) (by kernel_rfl)
  (e:=ReflectliteType.abiMethod fun t=>do pure (.int .u8 (←Rtype.kind t))) (by kernel_rfl) ?_
 intro R args ha w
 obtain⟨v,rfl,hv⟩:=eF ha
 obtain rfl:=an.1 hv
 exact⟨.int .u8 k,h w,am.2 rfl⟩
theorem Ca {G:Glo}:FnIs Tryz.prog G 263 [.raw (hdl 164)] (.int .u8 22):=vr _ _ (fun w=>by kernel_rfl)
theorem wz {G:Glo}:FnIs Tryz.prog G 263 [.raw (hdl 30)] (.int .u8 2):=vr _ _ (fun w=>by kernel_rfl)
theorem CB {G:Glo}:FnIs Tryz.prog G 279 [.agg [.raw (hdl 164)]] (rty 30):=by
 refine bM Tryz.func279 (by kernel_rfl) (by kernel_rfl) (by kernel_rfl) (e:=ReflectliteType.method ReflectliteType.elem) (by kernel_rfl) ?_
 intro R args ha w
 obtain⟨v,rfl,hv⟩:=eF ha
 obtain rfl:=dE rfl hv
 exact⟨.iface 253 (.agg #[hdl 30]),by kernel_rfl,kK _⟩
theorem lY {G:Glo}:FnIs Tryz.prog G 280 [.agg [.raw (hdl 30)],rty 36] (.bool true):=by
 refine bM Tryz.func280 (by kernel_rfl) (by kernel_rfl) (by kernel_rfl) (e:=ReflectliteType.relation "Implements" ReflectliteType.implements_) (by kernel_rfl) ?_
 intro R args ha w
 obtain⟨v,u,rfl,hv,hu⟩:=ko ha
 obtain rfl:=dE rfl hv
 obtain rfl:=rl hu
 exact⟨.bool true,by kernel_rfl,aH.2 rfl⟩
theorem gn {G:Glo}:FnIs Tryz.prog G 277 [.agg [.raw (hdl 30)],rty 30] (.bool true):=by
 refine bM Tryz.func277 (by kernel_rfl) (by kernel_rfl) (by kernel_rfl) (e:=ReflectliteType.relation "AssignableTo" ReflectliteType.assignableTo) (by kernel_rfl) ?_
 intro R args ha w
 obtain⟨v,u,rfl,hv,hu⟩:=ko ha
 obtain rfl:=dE rfl hv
 obtain rfl:=rl hu
 exact⟨.bool true,by kernel_rfl,aH.2 rfl⟩
theorem pD {G:Glo}:FnIs Tryz.prog G 277 [.agg [.raw (hdl 69)],rty 30] (.bool false):=by
 refine bM Tryz.func277 (by kernel_rfl) (by kernel_rfl) (by kernel_rfl) (e:=ReflectliteType.relation "AssignableTo" ReflectliteType.assignableTo) (by kernel_rfl) ?_
 intro R args ha w
 obtain⟨v,u,rfl,hv,hu⟩:=ko ha
 obtain rfl:=dE rfl hv
 obtain rfl:=rl hu
 exact⟨.bool false,by kernel_rfl,aH.2 rfl⟩
/-! ### What reads or writes memory -/
theorem rlm (z:Sem Value)(f:TypeId→Addr→Nat→Nat→Sem Value)(v:Value):
  ReflectliteValue.method z f #[v]=(do match ←ReflectliteValue.parts v with|none=>z|some (t,a,fl)=>f t a fl (fl%32)):=rfl
theorem p7 (a:Addr)(w:World):(ReflectliteValue.parts (.agg #[hdl 164,.pointer (some a),.int .u64 150])).run Tryz.prog w= .ok (some (164,a,150)) w:=by kernel_rfl
theorem zI (a:Addr)(w:World):(ReflectliteValue.parts (.agg #[hdl 30,.pointer (some a),.int .u64 386])).run Tryz.prog w= .ok (some (30,a,386)) w:=by kernel_rfl
theorem tN (a:Addr)(w:World):(ReflectliteValue.parts (.agg #[hdl 30,.pointer (some a),.int .u64 130])).run Tryz.prog w= .ok (some (30,a,130)) w:=by kernel_rfl
theorem w9 (w:World):(Rtype.elem? 164).run Tryz.prog w= .ok (some 30) w:=by kernel_rfl
theorem FU (p:Addr)(w:World):(ReflectliteValue.mk 30 p ReflectliteValue.flagAddr).run Tryz.prog w= .ok (.agg #[hdl 30,.pointer (some p),.int .u64 386]) w:=by kernel_rfl
theorem zX {G:Glo}(bl:Nat):FnIs Tryz.prog G 152 [.agg [.raw (hdl 164),.rop [.raw (.pointer (some ⟨bl,0,none⟩))] 0,.int .u64 150]] (.bool false):=by
 refine dU Tryz.func152 (by kernel_rfl) (by kernel_rfl) (by kernel_rfl) (e:=ReflectliteValue.method (ReflectliteValue.valueError "reflectlite.Value.IsNil" 0) ReflectliteValue.isNil) (by kernel_rfl) ?_
 intro C R args w hm ha
 obtain⟨v,rfl,hv⟩:=eF ha
 obtain⟨b,o,rfl,hs⟩:=ly rfl hv
 obtain⟨u,hu,hr⟩:=hs.cell hm.sealed (i:=0) rfl
 rw[Nat.add_zero] at hu
 have hr:[u]=[Value.pointer (some ⟨bl,0,none⟩)]:=hr
 simp only[List.cons.injEq,and_true] at hr
 subst hr
 refine⟨.bool false,w,R,?_,Seal.le_refl R,aH.2 rfl,hm⟩
 rw[rlm]
 simp only[Sem.run_bind,p7,Result.andThen]
 simp[ReflectliteValue.isNil,loadVar,isAgg,underlying,Tryz.underlying164,hu,Result.andThen]
theorem qC {G:Glo}(bl:Nat):FnIs Tryz.prog G 183 [.agg [.raw (hdl 164),.rop [.raw (.pointer (some ⟨bl,0,none⟩))] 0,.int .u64 150]] (.agg [.raw (hdl 30),.raw (.pointer (some ⟨bl,0,none⟩)),.int .u64 386]):=by
 refine dU Tryz.func183 (by kernel_rfl) (by kernel_rfl) (by kernel_rfl) (e:=ReflectliteValue.method (ReflectliteValue.valueError "reflectlite.Value.Elem" 0) ReflectliteValue.elem) (by kernel_rfl) ?_
 intro C R args w hm ha
 obtain⟨v,rfl,hv⟩:=eF ha
 obtain⟨b,o,rfl,hs⟩:=ly rfl hv
 obtain⟨u,hu,hr⟩:=hs.cell hm.sealed (i:=0) rfl
 rw[Nat.add_zero] at hu
 have hr:[u]=[Value.pointer (some ⟨bl,0,none⟩)]:=hr
 simp only[List.cons.injEq,and_true] at hr
 subst hr
 refine⟨.agg #[hdl 30,.pointer (some ⟨bl,0,none⟩),.int .u64 386],w,R,?_,Seal.le_refl R,⟨⟨_,_,rfl,rfl,_,_,rfl,rfl,_,_,rfl,rfl,rfl⟩,rfl⟩,hm⟩
 rw[rlm]
 simp only[Sem.run_bind,p7,Result.andThen]
 simp[ReflectliteValue.elem,loadVar,isAgg,underlying,Tryz.underlying164,hu,Result.andThen,w9,FU]
end
section
open Go Go.Extern
attribute [local irreducible] AWp AOps aa aA OrOk ad ah
theorem rls (v x:Value):ReflectliteValue.set #[v,x]=(do
  let (some (dst,a,fl),some (src,b,_)):=(←ReflectliteValue.parts v,←ReflectliteValue.parts x)
   |unsupported (.noEntry "extern/(internal/reflectlite.Value).Set.zeroValue")
  if fl/ReflectliteValue.flagAddr%2==0 then unsupported (.noEntry "extern/(internal/reflectlite.Value).Set.unaddressable")
  let val ←loadVar src b
  if ←Rtype.directlyAssignable dst src then storeVar dst a val
  else if ←Rtype.implements dst src then
   if(←Rtype.kind src)==20 then
    match val with
    |.nilIface=>unsupported (.noEntry "extern/reflectlite: a nil value of one interface type handed on as a value of another")
    |_=>storeVar dst a val
   else storeVar dst a (.iface src val)
  else panicString ("reflectlite.Set: value of type " ++(←Rtype.spelt src)++ " is not assignable to type " ++(←Rtype.spelt dst))
  pure (.tuple #[])):=rfl
theorem sh (w:World):(Rtype.directlyAssignable 30 30).run Tryz.prog w= .ok true w:=by kernel_rfl
theorem Dk {R:Seal}{x y:Value}{k:IntKind}{n:Int}{v:Value}(hx:vAgg x=false)(hy:vAgg y=false)(h:Rel R (.agg [.raw x,.raw y,.int k n]) v):v= .agg #[x,y,.int k n]:=by
 obtain⟨h1,h2⟩:=h
 cases v<;>simp only[AVal.isAgg,vAgg,Bool.true_eq_false] at h2
 rename_i cs
 obtain⟨a,t,e,ha,a',t',e',ha',a'',t'',e'',ha'',rfl⟩:=h1
 simp only[Value.cells] at e
 have key:∀{z:Value},vAgg z=false→z.cells.toList=[z]:=by intro z hz;cases z<;>first|rfl|(simp[vAgg] at hz)
 have ha:[a]=x.cells.toList:=ha
 have ha':[a']=y.cells.toList:=ha'
 rw[key hx] at ha
 rw[key hy] at ha'
 have ha'':[a'']=[Value.int k n]:=ha''
 simp only[List.cons.injEq,and_true] at ha ha' ha''
 subst ha ha' ha''
 have:cs=#[a,a',.int k n]:=by cases cs;simp_all
 rw[this]
theorem pS {G:Glo}(bl:Nat)(e old:Int):ah Tryz.prog G 184 [.agg [.raw (hdl 30),.raw (.pointer (some ⟨bl,0,none⟩)),.int .u64 386],.agg [.raw (hdl 30),.rop [.int .i64 e] 0,.int .u64 130]]
  [.cells bl (some 30) [.int .i64 old]] (fun r H=>r= .ret (.tuple [])∧H=[.cells bl (some 30) [.int .i64 e]]):=by
 refine dU Tryz.func184 (by kernel_rfl) (by kernel_rfl) (by kernel_rfl) (e:=ReflectliteValue.set) (by kernel_rfl) ?_
 intro C R args w hm ha
 obtain⟨v,u,rfl,hv,hu⟩:=ko ha
 obtain rfl:=Dk rfl rfl hv
 obtain⟨b,o,rfl,hs⟩:=ly rfl hu
 obtain⟨u,hu,hr⟩:=hs.cell hm.sealed (i:=0) rfl
 rw[Nat.add_zero] at hu
 have hr:[u]=[Value.int .i64 e]:=hr
 simp only[List.cons.injEq,and_true] at hr
 subst hr
 obtain⟨Cs,el,fz,hb,hl,hfz⟩:=eR hm (i:=0) rfl
 have hlen:=ay hl
 simp only[Array.length_toList,List.length_cons,List.length_nil] at hlen
 obtain⟨w',hst,ho⟩:=cd (P:=Tryz.prog) [Value.int .i64 e] 0 0 Cs w hb (by simp only[List.length_cons,List.length_nil];omega) hfz.1 (by intro v hv;simp only[List.mem_singleton] at hv;subst hv;exact⟨rfl,fun _=>by simp⟩)
 refine⟨.tuple #[],w',R,?_,Seal.le_refl R,⟨⟨#[],rfl,rfl⟩,rfl⟩,?_⟩
 ·rw[rls]
  simp only[Sem.run_bind,zI,tN,Result.andThen]
  simp[ReflectliteValue.flagAddr,loadVar,isAgg,underlying,Tryz.underlying30,hu,Result.andThen,sh,storeVar,Value.cells]
  rw[hst]
 ·have hd:Cs.toList.drop (0+0+[Value.int .i64 e].length)=[]:=List.drop_eq_nil_of_le (by simp;omega)
  refine hm.write (i:=0) rfl rfl ho rfl ⟨_,_,_,ho.at_,?_,?_⟩
  ·rw[hd];exact⟨_,_,rfl,rfl,rfl⟩
  ·rw[hd]
   have:Cs.size=1:=by omega
   rw[this] at hfz
   exact hfz
/-! ### Methods -/
section
variable (t:TypeId)
theorem BZ:∀R v,Rel R (.agg [.raw (hdl t)]) v→∀w,∃u,(Go.method (Tryz.prog.types.size+Made.depth) 253 v "Kind").run Tryz.prog w= .ok (263,u) w∧Rel R (.raw (hdl t)) u:=by
 intro R v h w
 obtain rfl:=dE rfl h
 exact⟨hdl t,by kernel_rfl,an.2 rfl⟩
theorem FX:∀R v,Rel R (.agg [.raw (hdl t)]) v→∀w,∃u,(Go.method (Tryz.prog.types.size+Made.depth) 253 v "Elem").run Tryz.prog w= .ok (279,u) w∧Rel R (.agg [.raw (hdl t)]) u:=by
 intro R v h w
 obtain rfl:=dE rfl h
 exact⟨.agg #[hdl t],by kernel_rfl,h⟩
theorem FW:∀R v,Rel R (.agg [.raw (hdl t)]) v→∀w,∃u,(Go.method (Tryz.prog.types.size+Made.depth) 253 v "Implements").run Tryz.prog w= .ok (280,u) w∧Rel R (.agg [.raw (hdl t)]) u:=by
 intro R v h w
 obtain rfl:=dE rfl h
 exact⟨.agg #[hdl t],by kernel_rfl,h⟩
theorem wo:∀R v,Rel R (.agg [.raw (hdl t)]) v→∀w,∃u,(Go.method (Tryz.prog.types.size+Made.depth) 253 v "AssignableTo").run Tryz.prog w= .ok (277,u) w∧Rel R (.agg [.raw (hdl t)]) u:=by
 intro R v h w
 obtain rfl:=dE rfl h
 exact⟨.agg #[hdl t],by kernel_rfl,h⟩
end
theorem BY (a:AVal):∀R v,Rel R a v→∀w,∃u,(Go.method (Tryz.prog.types.size+Made.depth) 69 v "Unwrap").run Tryz.prog w= .ok (268,u) w∧Rel R a u:=by
 intro R v h w
 exact⟨v,by kernel_rfl,h⟩
theorem Eb:∀v w,(Instr.typeAssert (.iface 69 v) 36 258 true).run Tryz.prog w= .ok (.tuple #[.nilIface,.bool false]) w:=fun v w=>run_typeAssert_lacksB (z:=.nilIface) Tryz.underlying258 (by kernel_rfl) (by kernel_rfl) v _ w
theorem uv:∀v w,(Instr.typeAssert (.iface 69 v) 36 108 true).run Tryz.prog w= .ok (.tuple #[.iface 69 v,.bool true]) w:=by intro v w;kernel_rfl
theorem oz:∀v w,(Instr.typeAssert (.iface 30 v) 36 108 true).run Tryz.prog w= .ok (.tuple #[.nilIface,.bool false]) w:=fun v w=>run_typeAssert_lacksB (z:=.nilIface) Tryz.underlying108 (by kernel_rfl) (by kernel_rfl) v _ w
/-! ### The walks -/
abbrev errA (e:Int):AVal:=.iface 30 (.int .i64 e)
abbrev atA (e p:Int):AVal:=.iface 69 (.rop [.int .i64 e,.int .i64 p] 0)
noncomputable abbrev tgtV (bl:Nat):AVal:=.agg [.raw (hdl 164),.rop [.raw (.pointer (some ⟨bl,0,none⟩))] 0,.int .u64 150]
abbrev tgtA (bl:Nat):AVal:=.iface 164 (.raw (.pointer (some ⟨bl,0,none⟩)))
theorem AF {G:Glo}(e p:Int):FnIs Tryz.prog G 268 [.rop [.int .i64 e,.int .i64 p] 0] (errA e):=by
 have hGL:ad G []:=ab
 refine fn_x Tryz.func268 Tryz.call268 rfl rfl rfl rfl hGL ?_
 intro C hC
 exact xw0
theorem ez {G:Glo}(bl:Nat)(e old:Int):ah Tryz.prog G 153 [errA e,tgtA bl,tgtV bl,rty 30] [.cells bl (some 30) [.int .i64 old]] (fun r H=>r= .ret (.bool true)∧H=[.cells bl (some 30) [.int .i64 e]]):=by
 have hGL:ad G []:=ab
 refine fn_x Tryz.func153 Tryz.call153 rfl rfl rfl rfl hGL ?_
 intro C hC
 have h1:=kj (G:=G) e
 have h2:=qC (G:=G) bl
 have h3:=jx (G:=G) e
 have h4:=pS (G:=G) bl e old
 have h5:=gn (G:=G)
 have m1:=wo 30
 refine xw1 ?_
 intros
 refine rds hC hGL 1 ?_
 exact xw0
theorem gP {G:Glo}(bl:Nat)(e p old:Int):ah Tryz.prog G 153 [atA e p,tgtA bl,tgtV bl,rty 30] [.cells bl (some 30) [.int .i64 old]] (fun r H=>r= .ret (.bool true)∧H=[.cells bl (some 30) [.int .i64 e]]):=by
 have hGL:ad G []:=ab
 refine fn_x Tryz.func153 Tryz.call153 rfl rfl rfl rfl hGL ?_
 intro C hC
 have h1:=kj (G:=G) e
 have h2:=qC (G:=G) bl
 have h3:=jx (G:=G) e
 have h4:=pS (G:=G) bl e old
 have h5:=gn (G:=G)
 have h6:=pD (G:=G)
 have h7:=zb (G:=G) (.rop [.int .i64 e,.int .i64 p] 0)
 have h8:=AF (G:=G) e p
 have m1:=wo 30
 have m2:=wo 69
 have m3:=BY (.rop [.int .i64 e,.int .i64 p] 0)
 have i1:=Eb
 have i2:=uv
 refine xw1 ?_
 intros
 refine rds hC hGL 2 ?_
 exact xw0
noncomputable abbrev errTy:List (Nat×List AVal):=[(3,[rty 36])]
theorem eW {G:Glo}(hGL:ad G errTy)(bl:Nat)(e:Int){ty:TypeId}{a:AVal}(hs:ah Tryz.prog G 153 [.iface ty (fW a),tgtA bl,tgtV bl,rty 30] [.cells bl (some 30) [.int .i64 0]] (fun r H=>r= .ret (.bool true)∧H=[.cells bl (some 30) [.int .i64 e]])):
  ah Tryz.prog G 106 [.iface ty a,tgtA bl] [.cells bl (some 30) [.int .i64 0]] (fun r H=>r= .ret (.bool true)∧H=[.cells bl (some 30) [.int .i64 e]]):=by
 refine fn_x Tryz.func106 Tryz.call106 rfl rfl rfl rfl hGL ?_
 intro C hC
 have h1:=sL (G:=G) bl
 have h2:=AP (G:=G) (.raw (.pointer (some ⟨bl,0,none⟩)))
 have h3:=zX (G:=G) bl
 have h4:=Ca (G:=G)
 have h5:=CB (G:=G)
 have h6:=wz (G:=G)
 have h7:=lY (G:=G)
 have m1:=BZ 164
 have m2:=FX 164
 have m3:=BZ 30
 have m4:=FW 30
 exact xw0
theorem eO {G:Glo}:FnIs Tryz.prog G 58 [.raw .nilIface] (.int .i64 0):=by
 have hGL:ad G []:=ab
 refine fn_x Tryz.func58 Tryz.call58 rfl rfl rfl rfl hGL ?_
 intro C hC
 exact xw0
theorem dD {G:Glo}(hGL:ad G errTy)(e:Int):FnIs Tryz.prog G 58 [errA e] (.int .i64 e):=by
 refine fn_x Tryz.func58 Tryz.call58 rfl rfl rfl rfl hGL ?_
 intro C hC
 repeat' (first|(conv=>whnf);first|refine .w ?_|refine .v ?_|refine sc_c ?_ ?_<;>(intro hb;try exact dd hb)|apply ao|apply aG|(apply sc_i<;>intro hb)|(apply bx_i;intro hbd)|(apply ax;first|exact eW hGL _ e (ez _ e 0))|(apply aw (i:=0) rfl;first|exact eW hGL _ e (ez _ e 0))|(apply ab_i;intro bl)|(apply as_i;intro va vk vc hva)|(apply av_i;intro v)|(apply ac_i;intro bl cap hcap)|apply bo_l|(apply nx_i<;>intro hnx)|apply dw_q mixed hC hGL (by kernel_rfl)|(apply cq;assumption;(first|exact eW hGL _ e (ez _ e 0));exact rfl)|(show Rt _ _ _;exact rt_w)|fail)
 all_goals try conv=>whnf
theorem fG {G:Glo}(hGL:ad G errTy)(e p:Int):FnIs Tryz.prog G 58 [atA e p] (.int .i64 e):=by
 refine fn_x Tryz.func58 Tryz.call58 rfl rfl rfl rfl hGL ?_
 intro C hC
 repeat' (first|(conv=>whnf);first|refine .w ?_|refine .v ?_|refine sc_c ?_ ?_<;>(intro hb;try exact dd hb)|apply ao|apply aG|(apply sc_i<;>intro hb)|(apply bx_i;intro hbd)|(apply ax;first|exact eW hGL _ e (gP _ e p 0))|(apply aw (i:=0) rfl;first|exact eW hGL _ e (gP _ e p 0))|(apply ab_i;intro bl)|(apply as_i;intro va vk vc hva)|(apply av_i;intro v)|(apply ac_i;intro bl cap hcap)|apply bo_l|(apply nx_i<;>intro hnx)|apply dw_q mixed hC hGL (by kernel_rfl)|(apply cq;assumption;(first|exact eW hGL _ e (gP _ e p 0));exact rfl)|(show Rt _ _ _;exact rt_w)|fail)
 all_goals try conv=>whnf
inductive Err
 |none
 |errno (e:Int)
 |at (e p:Int)
def Err.A:Err→AVal
 |.none=>.raw .nilIface
 |.errno e=>errA e
 |.at e p=>atA e p
def Err.e:Err→Int
 |.none=>0
 |.errno e=>e
 |.at e _=>e
def Err.p:Err→Int
 |.none=> -1
 |.errno _=> -1
 |.at _ p=>p
theorem o5 {G:Glo}(hGL:ad G errTy)(x:Err):FnIs Tryz.prog G 58 [x.A] (.int .i64 x.e):=by
 cases x with
 |none=>exact eO
 |errno e=>exact dD hGL e
 | «at» e p=>exact fG hGL e p
theorem mS {G:Glo}:FnIs Tryz.prog G 32 [.raw .nilIface] (.tuple [.int .i64 0,.int .i64 (-1)]):=by
 have hGL:ad G []:=ab
 refine fn_x Tryz.func32 Tryz.call32 rfl rfl rfl rfl hGL ?_
 intro C hC
 repeat' (first|(conv=>whnf);first|refine .w ?_|refine .v ?_|refine sc_c ?_ ?_<;>(intro hb;try exact dd hb)|apply ao|apply aG|(apply sc_i<;>intro hb)|(apply bx_i;intro hbd)|(apply ax;first|exact eO)|(apply aw (i:=0) rfl;first|exact eO)|(apply ab_i;intro bl)|(apply as_i;intro va vk vc hva)|(apply av_i;intro v)|(apply ac_i;intro bl cap hcap)|apply bo_l|(apply nx_i<;>intro hnx)|apply dw_q mixed hC hGL (by kernel_rfl)|(apply cq;assumption;(first|exact eO);exact rfl)|(show Rt _ _ _;exact rt_w)|fail)
 all_goals try conv=>whnf
 refine rds hC hGL 1 ?_
 exact xw0
theorem kP {G:Glo}(hGL:ad G errTy)(e:Int):FnIs Tryz.prog G 32 [errA e] (.tuple [.int .i64 e,.int .i64 (-1)]):=by
 refine fn_x Tryz.func32 Tryz.call32 rfl rfl rfl rfl hGL ?_
 intro C hC
 have i1:=oz
 repeat' (first|(conv=>whnf);first|refine .w ?_|refine .v ?_|refine sc_c ?_ ?_<;>(intro hb;try exact dd hb)|apply ao|apply aG|(apply sc_i<;>intro hb)|(apply bx_i;intro hbd)|(apply ax;first|exact dD hGL e)|(apply aw (i:=0) rfl;first|exact dD hGL e)|(apply ab_i;intro bl)|(apply as_i;intro va vk vc hva)|(apply av_i;intro v)|(apply ac_i;intro bl cap hcap)|apply bo_l|(apply nx_i<;>intro hnx)|apply dw_q mixed hC hGL (by kernel_rfl)|(apply cq;assumption;(first|exact dD hGL e);exact rfl)|(show Rt _ _ _;exact rt_w)|fail)
 all_goals try conv=>whnf
 refine rds hC hGL 1 ?_
 exact xw0
theorem nX {G:Glo}(hGL:ad G errTy)(e p:Int):FnIs Tryz.prog G 32 [atA e p] (.tuple [.int .i64 e,.int .i64 p]):=by
 refine fn_x Tryz.func32 Tryz.call32 rfl rfl rfl rfl hGL ?_
 intro C hC
 repeat' (first|(conv=>whnf);first|refine .w ?_|refine .v ?_|refine sc_c ?_ ?_<;>(intro hb;try exact dd hb)|apply ao|apply aG|(apply sc_i<;>intro hb)|(apply bx_i;intro hbd)|(apply ax;first|exact fG hGL e p)|(apply aw (i:=0) rfl;first|exact fG hGL e p)|(apply ab_i;intro bl)|(apply as_i;intro va vk vc hva)|(apply av_i;intro v)|(apply ac_i;intro bl cap hcap)|apply bo_l|(apply nx_i<;>intro hnx)|apply dw_q mixed hC hGL (by kernel_rfl)|(apply cq;assumption;(first|exact fG hGL e p);exact rfl)|(show Rt _ _ _;exact rt_w)|fail)
 all_goals try conv=>whnf
 refine rds hC hGL 1 ?_
 exact xw0
theorem tM {G:Glo}(hGL:ad G errTy)(x:Err):FnIs Tryz.prog G 32 [x.A] (.tuple [.int .i64 x.e,.int .i64 x.p]):=by
 cases x with
 |none=>exact mS
 |errno e=>exact kP hGL e
 | «at» e p=>exact nX hGL e p
theorem wy {G:Glo}(hGL:ad G errTy)(x:Err)(e p:Int):FnIs Tryz.prog G 7 [x.A,.agg [.int .i64 e,.int .i64 p]] (.bool (eqB x.e e&&eqB x.p p)):=by
 have hP:=tM hGL x
 cases x
 all_goals (
  refine fn_x Tryz.func7 Tryz.call7 rfl rfl rfl rfl hGL ?_
  intro C hC
  repeat' (first|(conv=>whnf);first|refine .w ?_|refine .v ?_|refine sc_c ?_ ?_<;>(intro hb;try exact dd hb)|apply ao|apply aG|(apply sc_i<;>intro hb)|(apply bx_i;intro hbd)|(apply ax;first|exact hP)|(apply aw (i:=0) rfl;first|exact hP)|(apply ab_i;intro bl)|(apply as_i;intro va vk vc hva)|(apply av_i;intro v)|(apply ac_i;intro bl cap hcap)|apply bo_l|(apply nx_i<;>intro hnx)|apply dw_q mixed hC hGL (by kernel_rfl)|(apply cq;assumption;(first|exact hP);exact rfl)|(show Rt _ _ _;exact rt_w)|fail)
  all_goals try conv=>whnf
  all_goals (apply ak;refine congrArg AVal.bool ?_;first|(rw[dp.2 hb,Bool.true_and];done)|(rw[ic.2 hb];rfl)|(rw[dp.2 hb,Bool.true_and];rfl)))
end
section
open Go
theorem bp {s:List UInt8}{j:Nat}(h:j<s.length):aa s j=s[j].toNat:=by
 simp[aa,List.getD,h]
theorem fE {s:List UInt8}{n j:Nat}(h:j<n):aa (s.take n) j=aa s j:=by
 unfold aa
 simp[List.getD,List.getElem?_take,h]
attribute [local irreducible] AWp AOps aa aA OrOk ad ah
theorem fb {G:Glo}(e:Int):FnIs Tryz.prog G 13 [.int .i64 e] (.agg [.int .i64 e,.int .i64 (-1)]):=by
 have hGL:ad G []:=ab
 refine fn_x Tryz.func13 Tryz.call13 rfl rfl rfl rfl hGL ?_
 intro C hC
 repeat' (first|(conv=>whnf);first|refine .w ?_|refine .v ?_|refine sc_c ?_ ?_<;>(intro hb;try exact dd hb)|apply ao|apply aG|(apply sc_i<;>intro hb)|(apply bx_i;intro hbd)|(apply ax;first|fail)|(apply aw (i:=0) rfl;first|fail)|(apply ab_i;intro bl)|(apply as_i;intro va vk vc hva)|(apply av_i;intro v)|(apply ac_i;intro bl cap hcap)|apply bo_l|(apply nx_i<;>intro hnx)|apply dw_q mixed hC hGL (by kernel_rfl)|(apply cq;assumption;(first|fail);exact rfl)|(show Rt _ _ _;exact rt_w)|fail)
 all_goals try conv=>whnf
theorem fa {G:Glo}:FnIs Tryz.prog G 22 [] (.agg [.int .i64 0,.int .i64 (-1)]):=by
 have hGL:ad G []:=ab
 refine fn_x Tryz.func22 Tryz.call22 rfl rfl rfl rfl hGL ?_
 intro C hC
 repeat' (first|(conv=>whnf);first|refine .w ?_|refine .v ?_|refine sc_c ?_ ?_<;>(intro hb;try exact dd hb)|apply ao|apply aG|(apply sc_i<;>intro hb)|(apply bx_i;intro hbd)|(apply ax;first|fail)|(apply aw (i:=0) rfl;first|fail)|(apply ab_i;intro bl)|(apply as_i;intro va vk vc hva)|(apply av_i;intro v)|(apply ac_i;intro bl cap hcap)|apply bo_l|(apply nx_i<;>intro hnx)|apply dw_q mixed hC hGL (by kernel_rfl)|(apply cq;assumption;(first|fail);exact rfl)|(show Rt _ _ _;exact rt_w)|fail)
 all_goals try conv=>whnf
theorem pK (x:Err):fW x.A=x.A:=by cases x<;>rfl
theorem zH {G:Glo}(hU2:ad G errTy)(x:Err):FnIs Tryz.prog G 7 [x.A,.agg [.int .i64 x.e,.int .i64 x.p]] (.bool true):=by
 have:=wy hU2 x x.e x.p
 rwa [dp.2 rfl,dp.2 rfl] at this
end
section
open Go
attribute [local irreducible] AWp AOps aa aA OrOk ad ah
theorem wV {s t:List UInt8}(h:t.length=s.length)(hb:∀j,j<s.length→aa t j=aa s j):t=s:=by
 apply List.ext_getElem h
 intro i h1 h2
 have:=hb i h2
 simp only[aa,List.getD,List.getElem?_eq_getElem h1,List.getElem?_eq_getElem h2,Option.getD_some] at this
 exact UInt8.toNat_inj.1 this
def bO (low high by_:Int)(c:Nat):Int:=if low≤c∧(c:Int)≤high then c+by_ else c
def aj (low high by_:Int)(s:List UInt8):List UInt8:=s.map fun c=>UInt8.ofNat (bO low high by_ c.toNat).toNat
theorem uY {low high by_:Int}(h1:0≤low+by_)(h2:high+by_≤255){s:List UInt8}{j:Nat}(h:j<s.length):(aa (aj low high by_ s) j:Int)=bO low high by_ (aa s j):=by
 have e:(aa (aj low high by_ s) j)=(UInt8.ofNat (bO low high by_ s[j].toNat).toNat).toNat:=by
  simp[aa,aj,List.getD,h]
 have e2:aa s j=s[j].toNat:=by simp[aa,List.getD,h]
 rw[e,e2,UInt8.toNat_ofNat']
 have:=UInt8.toNat_lt s[j]
 unfold bO
 split<;>omega
def fR (low high by_:Int)(s:List UInt8)(x:Nat×List UInt8):Prop:=
 x.1≤s.length∧x.2.length=s.length∧∀j,j<s.length→(aa x.2 j:Int)=if j<x.1 then bO low high by_ (aa s j) else aa s j
theorem nz {low high by_:Int}{s:List UInt8}:fR low high by_ s (0,s):=⟨Nat.zero_le _,rfl,fun j _=>by rw[if_neg (by simp)]⟩
theorem eP {low high by_:Int}{s:List UInt8}{i:Nat}{t:List UInt8}(h:fR low high by_ s (i,t))(hi:i<s.length):aa t i=aa s i:=by
 have:=h.2.2 i hi
 rw[if_neg (by simp)] at this
 exact Int.ofNat.inj this
theorem jS {low high by_:Int}{s:List UInt8}{i:Nat}{t:List UInt8}(h:fR low high by_ s (i,t))(hi:i<s.length){m:Int}(hm:m=bO low high by_ (aa s i))(h0:0≤m)(h1:m≤255):
  fR low high by_ s (i+1,t.set i (UInt8.ofNat m.toNat)):=by
 obtain⟨h2,h3,h4⟩:=h
 refine⟨hi,by simp only[List.length_set];exact h3,fun j hj=> ?_⟩
 dsimp only at*
 rw[xr (by omega) (by omega) (by omega)]
 by_cases e:j=i
 ·subst e
  rw[if_pos rfl,if_pos (by omega),hm]
 ·rw[if_neg e,h4 j hj]
  by_cases e2:j<i
  ·rw[if_pos e2,if_pos (by omega)]
  ·rw[if_neg e2,if_neg (by omega)]
theorem il {low high by_:Int}{s:List UInt8}{i:Nat}{t:List UInt8}(h:fR low high by_ s (i,t))(hi:i<s.length)(hm:bO low high by_ (aa s i)=aa s i):
  fR low high by_ s (i+1,t):=by
 refine⟨hi,h.2.1,fun j hj=> ?_⟩
 have:=h.2.2 j hj
 dsimp only at*
 rw[this]
 by_cases e:j=i
 ·subst e
  rw[if_neg (by omega),if_pos (by omega),hm]
 ·by_cases e2:j<i
  ·rw[if_pos e2,if_pos (by omega)]
  ·rw[if_neg e2,if_neg (by omega)]
theorem jU {low high by_:Int}(h1:0≤low+by_)(h2:high+by_≤255){s:List UInt8}{i:Nat}{t:List UInt8}(h:fR low high by_ s (i,t))(hi:s.length≤i):t=aj low high by_ s:=by
 refine wV (by simp only[aj,List.length_map];exact h.2.1) (fun j hj=> ?_)
 have hj':j<s.length:=by simpa[aj] using hj
 have:=h.2.2 j hj'
 rw[if_pos (show j<i by omega),←uY h1 h2 hj'] at this
 exact Int.ofNat.inj this
theorem qc {G:Glo}(s:List UInt8)(low high by_:Int)(h1:0≤low+by_)(h2:high+by_≤255)(h3:0≤low)(h4:high≤255)(h5: -300≤by_)(h6:by_≤300)(hl:s.length≤9223372036854775807):
  FnIs Tryz.prog G 51 [.str s,.int .u8 low,.int .u8 high,.int .i64 by_] (.str (aj low high by_ s)):=by
 have hGL:ad G []:=ab
 refine fn_x Tryz.func51 Tryz.call51 rfl rfl rfl rfl hGL ?_
 intro C hC
 repeat' (first|(conv=>whnf);first|refine .w ?_|refine .v ?_|refine sc_c ?_ ?_<;>(intro hb;try exact dd hb)|apply ao|apply aG|(apply sc_i<;>intro hb)|(apply bx_i;intro hbd)|(apply ax;first|fail)|(apply aw (i:=0) rfl;first|fail)|(apply ab_i;intro bl)|(apply as_i;intro va vk vc hva)|(apply av_i;intro v)|(apply ac_i;intro bl cap hcap)|apply bo_l|(apply nx_i<;>intro hnx)|apply dw_q mixed hC hGL (by kernel_rfl)|(apply cq;assumption;(first|fail);exact rfl)|(show Rt _ _ _;exact rt_w)|fail)
 all_goals try conv=>whnf
 refine lp hC hGL (fun(x:Nat×List UInt8)=>[(1,.int .u8 low),(2,.int .u8 high),(3,.int .i64 by_),(9,.own 0 (.slice (some ⟨bl,0,none⟩) s.length cap)),(14,.own 0 (.slice (some ⟨bl,0,none⟩) s.length cap)),(15,.int .i64 s.length),(16,.int .i64 x.1)]) (fun x=>[.buf bl x.2 cap]) (fR low high by_ s) (fun x=>s.length-x.1) (0,s) ?_ ae rfl ?_
 ·exact nz
 rintro⟨i,t⟩ hI
 have hi:=hI.1
 have ht:=hI.2.1
 dsimp only at hi ht ⊢
 refine xw ?_
 repeat' (first|exact Le.n|refine Lc.mk ?_ ?_)
 all_goals intros
 ·refine nxt (i+1,t.set i (UInt8.ofNat ((aa t i:Int)+by_).toNat)) ?_ ?_ ae rfl
  ·have e:=eP hI (by omega)
   refine jS hI (by omega) ?_ (by omega) (by omega)
   unfold bO
   rw[if_pos (by omega)]
   omega
  ·dsimp only;omega
 iterate 2
  ·refine nxt (i+1,t) ?_ ?_ ae rfl
   ·have e:=eP hI (by omega)
    refine il hI (by omega) ?_
    unfold bO
    rw[if_neg (by omega)]
   ·dsimp only;omega
 ·apply ak
  rw[jU h1 h2 hI (by omega)]
theorem dN {G:Glo}(s:List UInt8)(hl:s.length≤9223372036854775807):FnIs Tryz.prog G 48 [.str s] (.str (aj 97 122 (-32) s)):=by
 have hGL:ad G []:=ab
 refine fn_x Tryz.func48 Tryz.call48 rfl rfl rfl rfl hGL ?_
 intro C hC
 have ht:=qc (G:=G) s 97 122 (-32) (by decide) (by decide) (by decide) (by decide) (by decide) (by decide) hl
 exact xw0
theorem j3 {G:Glo}(s:List UInt8)(hl:s.length≤9223372036854775807):FnIs Tryz.prog G 27 [.str s] (.str (aj 65 90 32 s)):=by
 have hGL:ad G []:=ab
 refine fn_x Tryz.func27 Tryz.call27 rfl rfl rfl rfl hGL ?_
 intro C hC
 have ht:=qc (G:=G) s 65 90 32 (by decide) (by decide) (by decide) (by decide) (by decide) (by decide) hl
 exact xw0
theorem jb {G:Glo}(s t:List UInt8)(hl:s.length≤9223372036854775807)(hm:t.length≤9223372036854775807):FnIs Tryz.prog G 50 [.str s,.str t] (.bool (seqB (aj 97 122 (-32) s) (aj 97 122 (-32) t))):=by
 have hGL:ad G []:=ab
 refine fn_x Tryz.func50 Tryz.call50 rfl rfl rfl rfl hGL ?_
 intro C hC
 have h1:=dN (G:=G) s hl
 have h2:=dN (G:=G) t hm
 exact xw0
def bu (c:Int):Bool:=decide ((97≤c∧c≤122)∨(65≤c∧c≤90)∨(48≤c∧c≤57)∨c=45)
theorem lW {c:Int}:bu c=true↔((97≤c∧c≤122)∨(65≤c∧c≤90)∨(48≤c∧c≤57)∨c=45):=by simp[bu]
attribute [local irreducible] bu
theorem iB {G:Glo}(c:Int):FnIs Tryz.prog G 170 [.int .u8 c] (.bool (bu c)):=by
 have hGL:ad G []:=ab
 refine fn_x Tryz.func170 Tryz.call170 rfl rfl rfl rfl hGL ?_
 intro C hC
 refine xw ?_
 repeat' (first|exact Le.n|refine Lc.mk ?_ ?_)
 all_goals intros
 all_goals (apply ak;refine congrArg AVal.bool ?_;rw[Bool.eq_iff_iff];simp only[lW,dp,true_iff];omega)
def allB (f:Int→Bool)(s:List UInt8):Bool:=s.all fun c=>f (c.toNat:Int)
theorem o8 {f:Int→Bool}{s:List UInt8}:allB f s=true↔∀j,j<s.length→f (aa s j)=true:=by
 unfold allB
 rw[List.all_eq_true]
 constructor
 ·intro h j hj
  have:=h s[j] (List.getElem_mem hj)
  simpa[aa,List.getD,hj] using this
 ·intro h c hc
  obtain⟨j,hj,rfl⟩:=List.getElem_of_mem hc
  simpa[aa,List.getD,hj] using h j hj
theorem Dj {f:Int→Bool}{s:List UInt8}{j:Nat}(hj:j<s.length)(h:f (aa s j)=false):allB f s=false:=by
 rw[Bool.eq_false_iff]
 intro h2
 rw[o8.1 h2 j hj] at h
 cases h
theorem bG {p:Nat→Prop}{i:Nat}(h:∀j,j<i→p j)(k:p i):∀j,j<i+1→p j:=by
 intro j hj
 by_cases e:j=i
 ·subst e;exact k
 ·exact h j (by omega)
def isS (s:List UInt8):Bool:=allB bu s&&(decide (s.length≠0)&&decide (s.length≤40))
theorem kT {G:Glo}(s:List UInt8)(hl:s.length≤9223372036854775807):FnIs Tryz.prog G 136 [.str s] (.bool (isS s)):=by
 have hGL:ad G []:=ab
 refine fn_x Tryz.func136 Tryz.call136 rfl rfl rfl rfl hGL ?_
 intro C hC
 refine xw1 ?_
 intros
 refine lp hC hGL (fun(i:Nat)=>[(0,.str s),(5,.int .i64 s.length),(6,.int .i64 i)]) (fun _=>[]) (fun i=>i≤s.length∧∀j,j<i→bu (aa s j)=true) (fun i=>s.length-i) 0 ?_ ae rfl ?_
 ·exact⟨Nat.zero_le _,by intro j hj;omega⟩
 rintro i ⟨hi,hb0⟩
 repeat' (first|(conv=>whnf);first|refine .w ?_|refine .v ?_|refine sc_c ?_ ?_<;>(intro hb;try exact dd hb)|apply ao|apply aG|(apply sc_i<;>intro hb)|(apply bx_i;intro hbd)|(apply ax;first|exact iB _)|(apply aw (i:=0) rfl;first|exact iB _)|(apply ab_i;intro bl)|(apply as_i;intro va vk vc hva)|(apply av_i;intro v)|(apply ac_i;intro bl cap hcap)|apply bo_l|(apply nx_i<;>intro hnx)|apply dw_q mixed hC hGL (by kernel_rfl)|(apply cq;assumption;(first|exact iB _);exact rfl)|(show Rt _ _ _;exact rt_w)|fail)
 all_goals try conv=>whnf
 ·refine nxt (i+1) ?_ ?_ ae rfl
  ·exact⟨by omega,bG hb0 hb⟩
  ·omega
 ·apply ak
  rw[isS,Dj (by omega) hb]
  rfl
 all_goals (
  apply ak
  refine congrArg AVal.bool ?_
  have ha:allB bu s=true:=o8.2 fun j hj=>hb0 j (by omega)
  have e:isS s=true↔(s.length≠0∧s.length≤40):=by simp only[isS,ha,Bool.true_and,Bool.and_eq_true,decide_eq_true_eq]
  rw[Bool.eq_iff_iff,e]
  try simp only[Bool.not_eq_true',g8,reduceCtorEq,false_iff]
  omega)
theorem cE {G:Glo}(m low high:Int):FnIs Tryz.prog G 39 [.int .i64 m,.int .i64 low,.int .i64 high] (.bool (decide (low≤m)&&decide (m≤high))):=by
 have hGL:ad G []:=ab
 refine fn_x Tryz.func39 Tryz.call39 rfl rfl rfl rfl hGL ?_
 intro C hC
 refine xw ?_
 repeat' (first|exact Le.n|refine Lc.mk ?_ ?_)
 all_goals intros
 all_goals (apply ak;refine congrArg AVal.bool ?_;rw[Bool.eq_iff_iff];simp[g8,Bool.not_eq_true']<;>omega)
end
end Go.Proofs.YtdpbejofgemloaaGreatDoor
namespace Go.Proofs
open Go.Shelf
def Tryz.lays159_ren:Go.Shelf.Ren:=⟨fun|159=>38|165=>65|166=>66|167=>67|169=>68|230=>69|204=>70|240=>116|241=>117|197=>118|118=>119|168=>120|270=>121|262=>122|276=>159|277=>160|260=>161|242=>162|313=>163|278=>188|274=>189|275=>190|n=>n,fun|9=>9|4=>4|3=>3|5=>5|72=>123|0=>0|76=>125|75=>36|107=>130|70=>121|20=>20|37=>85|127=>169|21=>21|105=>170|164=>211|162=>230|203=>228|119=>131|46=>265|139=>268|138=>267|51=>179|160=>269|208=>307|206=>305|80=>128|n=>n,fun|13=>5|3=>6|4=>7|n=>n⟩
theorem Tryz.lays159:Go.Proofs.Lays.n159 Tryz.prog Tryz.lays159_ren:={
 mixed:=by kernel_rfl
 f118:=Tryz.func119.trans (congrArg some (by kernel_rfl))
 f159:=Tryz.func38.trans (congrArg some (by kernel_rfl))
 f165:=Tryz.func65.trans (congrArg some (by kernel_rfl))
 f166:=Tryz.func66.trans (congrArg some (by kernel_rfl))
 f167:=Tryz.func67.trans (congrArg some (by kernel_rfl))
 f168:=Tryz.func120.trans (congrArg some (by kernel_rfl))
 f169:=Tryz.func68.trans (congrArg some (by kernel_rfl))
 f197:=Tryz.func118.trans (congrArg some (by kernel_rfl))
 f204:=Tryz.func70.trans (congrArg some (by kernel_rfl))
 f230:=Tryz.func69.trans (congrArg some (by kernel_rfl))
 f240:=Tryz.func116.trans (congrArg some (by kernel_rfl))
 f241:=Tryz.func117.trans (congrArg some (by kernel_rfl))
 f242:=Tryz.func162.trans (congrArg some (by kernel_rfl))
 f260:=Tryz.func161.trans (congrArg some (by kernel_rfl))
 f262:=Tryz.func122.trans (congrArg some (by kernel_rfl))
 f270:=Tryz.func121.trans (congrArg some (by kernel_rfl))
 f274:=Tryz.func189.trans (congrArg some (by kernel_rfl))
 f275:=Tryz.func190.trans (congrArg some (by kernel_rfl))
 f276:=Tryz.func159.trans (congrArg some (by kernel_rfl))
 f277:=Tryz.func160.trans (congrArg some (by kernel_rfl))
 f278:=Tryz.func188.trans (congrArg some (by kernel_rfl))
 f313:=Tryz.func163.trans (congrArg some (by kernel_rfl))
 t0:=Tryz.underlying0
 a0:=Tryz.isAgg0
 z0:=Tryz.sizeOf0
 v0:=Tryz.zeroValue0
 t3:=Tryz.underlying3
 a3:=Tryz.isAgg3
 z3:=Tryz.sizeOf3
 v3:=Tryz.zeroValue3
 t4:=Tryz.underlying4
 a4:=Tryz.isAgg4
 z4:=Tryz.sizeOf4
 v4:=Tryz.zeroValue4
 t5:=Tryz.underlying5
 a5:=Tryz.isAgg5
 z5:=Tryz.sizeOf5
 v5:=Tryz.zeroValue5
 t9:=Tryz.underlying9
 a9:=Tryz.isAgg9
 z9:=Tryz.sizeOf9
 v9:=Tryz.zeroValue9
 t20:=Tryz.underlying20
 a20:=Tryz.isAgg20
 z20:=Tryz.sizeOf20
 v20:=Tryz.zeroValue20
 t21:=Tryz.underlying21
 a21:=Tryz.isAgg21
 z21:=Tryz.sizeOf21
 v21:=Tryz.zeroValue21
 t37:=Tryz.underlying85
 a37:=Tryz.isAgg85
 z37:=Tryz.sizeOf85
 v37:=Tryz.zeroValue85
 t46:=Tryz.underlying265
 a46:=Tryz.isAgg265
 z46:=Tryz.sizeOf265
 v46:=Tryz.zeroValue265
 t51:=Tryz.underlying179
 a51:=Tryz.isAgg179
 z51:=Tryz.sizeOf179
 v51:=Tryz.zeroValue179
 t70:=Tryz.underlying121
 a70:=Tryz.isAgg121
 z70:=Tryz.sizeOf121
 v70:=Tryz.zeroValue121
 t72:=Tryz.underlying123
 a72:=Tryz.isAgg123
 z72:=Tryz.sizeOf123
 v72:=Tryz.zeroValue123
 t75:=Tryz.underlying36
 a75:=Tryz.isAgg36
 z75:=Tryz.sizeOf36
 v75:=Tryz.zeroValue36
 t76:=Tryz.underlying125
 a76:=Tryz.isAgg125
 z76:=Tryz.sizeOf125
 v76:=Tryz.zeroValue125
 t105:=Tryz.underlying170
 a105:=Tryz.isAgg170
 z105:=Tryz.sizeOf170
 v105:=Tryz.zeroValue170
 t107:=Tryz.underlying130
 a107:=Tryz.isAgg130
 z107:=Tryz.sizeOf130
 v107:=Tryz.zeroValue130
 t119:=Tryz.underlying131
 a119:=Tryz.isAgg131
 z119:=Tryz.sizeOf131
 t127:=Tryz.underlying169
 a127:=Tryz.isAgg169
 z127:=Tryz.sizeOf169
 v127:=Tryz.zeroValue169
 t138:=Tryz.underlying267
 a138:=Tryz.isAgg267
 z138:=Tryz.sizeOf267
 v138:=Tryz.zeroValue267
 t139:=Tryz.underlying268
 a139:=Tryz.isAgg268
 z139:=Tryz.sizeOf268
 v139:=Tryz.zeroValue268
 t160:=Tryz.underlying269
 a160:=Tryz.isAgg269
 z160:=Tryz.sizeOf269
 v160:=Tryz.zeroValue269
 t162:=Tryz.underlying230
 a162:=Tryz.isAgg230
 z162:=Tryz.sizeOf230
 v162:=Tryz.zeroValue230
 t164:=Tryz.underlying211
 a164:=Tryz.isAgg211
 z164:=Tryz.sizeOf211
 v164:=Tryz.zeroValue211
 t203:=Tryz.underlying228
 a203:=Tryz.isAgg228
 z203:=Tryz.sizeOf228
 v203:=Tryz.zeroValue228
 t206:=Tryz.underlying305
 a206:=Tryz.isAgg305
 z206:=Tryz.sizeOf305
 v206:=Tryz.zeroValue305
 t208:=Tryz.underlying307
 a208:=Tryz.isAgg307
 z208:=Tryz.sizeOf307
 v208:=Tryz.zeroValue307
 g3:=by kernel_rfl
 g4:=by kernel_rfl
 g13:=by kernel_rfl}
theorem Tryz.Builder_Extra_159:Builder.Extra Tryz.prog Tryz.lays159_ren:={
 sizeBuilder:=by kernel_rfl
 liesBuilder:=by kernel_rfl
 t5:=Tryz.underlying5
 a5:=Tryz.isAgg5
 z5:=Tryz.sizeOf5
 v5:=Tryz.zeroValue5
 infoByte:=by kernel_rfl
 cellsByte:=by kernel_rfl
 sizeByte:=by kernel_rfl
 neB5:=by decide}
open Go.RowKit in
theorem Tryz.strings_ToLower_ascii (s:ByteArray)(w:World)(hs:s.size≤140737488355328)(hascii:∀(j:Nat) (b:UInt8),s.data.toList[j]? =some b→b.toNat<128):
  Calls Tryz.prog 38 #[.string s] w fun e w'=>e= .returned (.string ⟨(Lib.toLowerA s.data.toList).toArray⟩)∧Below w.heap.size w w':=Any.strings_ToLower_ascii Tryz.lays159 Tryz.Builder_Extra_159 s w hs hascii
def Tryz.lays156_ren:Go.Shelf.Ren:=⟨fun|156=>79|165=>65|166=>66|169=>68|240=>116|241=>117|276=>159|277=>160|n=>n,fun|31=>26|9=>9|3=>3|4=>4|0=>0|20=>20|72=>123|76=>125|70=>121|37=>85|75=>36|127=>169|164=>211|5=>5|80=>128|n=>n,fun|n=>n⟩
theorem Tryz.lays156:Go.Proofs.Lays.n156 Tryz.prog Tryz.lays156_ren:={
 mixed:=by kernel_rfl
 f156:=Tryz.func79.trans (congrArg some (by kernel_rfl))
 f165:=Tryz.func65.trans (congrArg some (by kernel_rfl))
 f166:=Tryz.func66.trans (congrArg some (by kernel_rfl))
 f169:=Tryz.func68.trans (congrArg some (by kernel_rfl))
 f240:=Tryz.func116.trans (congrArg some (by kernel_rfl))
 f241:=Tryz.func117.trans (congrArg some (by kernel_rfl))
 f276:=Tryz.func159.trans (congrArg some (by kernel_rfl))
 f277:=Tryz.func160.trans (congrArg some (by kernel_rfl))
 t0:=Tryz.underlying0
 a0:=Tryz.isAgg0
 z0:=Tryz.sizeOf0
 v0:=Tryz.zeroValue0
 t3:=Tryz.underlying3
 a3:=Tryz.isAgg3
 z3:=Tryz.sizeOf3
 v3:=Tryz.zeroValue3
 t4:=Tryz.underlying4
 a4:=Tryz.isAgg4
 z4:=Tryz.sizeOf4
 v4:=Tryz.zeroValue4
 t9:=Tryz.underlying9
 a9:=Tryz.isAgg9
 z9:=Tryz.sizeOf9
 v9:=Tryz.zeroValue9
 t20:=Tryz.underlying20
 a20:=Tryz.isAgg20
 z20:=Tryz.sizeOf20
 v20:=Tryz.zeroValue20
 t31:=Tryz.underlying26
 a31:=Tryz.isAgg26
 z31:=Tryz.sizeOf26
 v31:=Tryz.zeroValue26
 t37:=Tryz.underlying85
 a37:=Tryz.isAgg85
 z37:=Tryz.sizeOf85
 v37:=Tryz.zeroValue85
 t70:=Tryz.underlying121
 a70:=Tryz.isAgg121
 z70:=Tryz.sizeOf121
 v70:=Tryz.zeroValue121
 t72:=Tryz.underlying123
 a72:=Tryz.isAgg123
 z72:=Tryz.sizeOf123
 v72:=Tryz.zeroValue123
 t75:=Tryz.underlying36
 a75:=Tryz.isAgg36
 z75:=Tryz.sizeOf36
 v75:=Tryz.zeroValue36
 t76:=Tryz.underlying125
 a76:=Tryz.isAgg125
 z76:=Tryz.sizeOf125
 v76:=Tryz.zeroValue125
 t127:=Tryz.underlying169
 a127:=Tryz.isAgg169
 z127:=Tryz.sizeOf169
 v127:=Tryz.zeroValue169
 t164:=Tryz.underlying211
 a164:=Tryz.isAgg211
 z164:=Tryz.sizeOf211
 v164:=Tryz.zeroValue211}
theorem Tryz.Builder_Extra_156:Builder.Extra Tryz.prog Tryz.lays156_ren:={
 sizeBuilder:=by kernel_rfl
 liesBuilder:=by kernel_rfl
 t5:=Tryz.underlying5
 a5:=Tryz.isAgg5
 z5:=Tryz.sizeOf5
 v5:=Tryz.zeroValue5
 infoByte:=by kernel_rfl
 cellsByte:=by kernel_rfl
 sizeByte:=by kernel_rfl
 neB5:=by decide}
open Go.RowKit in
theorem Tryz.strings_Join_none (a:Option Addr)(c:Nat)(sep:ByteArray)(w:World):
  Calls Tryz.prog 79 #[.slice a 0 c,.string sep] w fun e w'=>e= .returned (.string ⟨#[]⟩)∧w'=w:=Any.strings_Join_none Tryz.lays156 Tryz.Builder_Extra_156 a c sep w
open Go.RowKit in
theorem Tryz.strings_Join (bk o c:Nat)(xs:List ByteArray)(sep:ByteArray)(w:World)(hcells:∀(j:Nat) x,xs[j]? =some x→w.cell? ⟨bk,o+j,none⟩=some (.string x))(hbk:bk<w.heap.size)(hN:xs.length≤140737488355328)(hcap:xs.length≤c)(hlen:(Lib.join (xs.map (·.data.toList)) sep.data.toList).length≤140737488355328):
  Calls Tryz.prog 79 #[.slice (some ⟨bk,o,none⟩) xs.length c,.string sep] w fun e w'=>e= .returned (.string ⟨(Lib.join (xs.map (·.data.toList)) sep.data.toList).toArray⟩)∧Below w.heap.size w w':=Any.strings_Join Tryz.lays156 Tryz.Builder_Extra_156 bk o c xs sep w hcells hbk hN hcap hlen
def Tryz.laysM171_ren:Go.Shelf.Ren:=⟨fun|171=>156|243=>185|246=>167|283=>191|284=>192|285=>193|286=>194|129=>215|317=>214|318=>216|319=>217|320=>218|337=>229|338=>230|n=>n,fun|3=>3|9=>9|2=>2|4=>4|171=>274|0=>0|53=>275|37=>85|5=>5|173=>278|212=>309|51=>179|20=>20|213=>310|46=>265|232=>343|233=>344|n=>n,fun|17=>10|18=>11|19=>12|n=>n⟩
theorem Tryz.laysM171:Go.Proofs.LaysM.n171 Tryz.prog Tryz.laysM171_ren:={
 mixed:=by kernel_rfl
 f129:=Tryz.func215.trans (congrArg some (by kernel_rfl))
 f171:=Tryz.func156.trans (congrArg some (by kernel_rfl))
 f243:=Tryz.func185.trans (congrArg some (by kernel_rfl))
 f246:=Tryz.func167.trans (congrArg some (by kernel_rfl))
 f283:=Tryz.func191.trans (congrArg some (by kernel_rfl))
 f284:=Tryz.func192.trans (congrArg some (by kernel_rfl))
 f285:=Tryz.func193.trans (congrArg some (by kernel_rfl))
 f286:=Tryz.func194.trans (congrArg some (by kernel_rfl))
 f317:=Tryz.func214.trans (congrArg some (by kernel_rfl))
 f318:=Tryz.func216.trans (congrArg some (by kernel_rfl))
 f319:=Tryz.func217.trans (congrArg some (by kernel_rfl))
 f320:=Tryz.func218.trans (congrArg some (by kernel_rfl))
 f337:=Tryz.func229.trans (congrArg some (by kernel_rfl))
 f338:=Tryz.func230.trans (congrArg some (by kernel_rfl))
 t0:=Tryz.underlying0
 a0:=Tryz.isAgg0
 z0:=Tryz.sizeOf0
 v0:=Tryz.zeroValue0
 t2:=Tryz.underlying2
 a2:=Tryz.isAgg2
 z2:=Tryz.sizeOf2
 v2:=Tryz.zeroValue2
 t3:=Tryz.underlying3
 a3:=Tryz.isAgg3
 z3:=Tryz.sizeOf3
 v3:=Tryz.zeroValue3
 t4:=Tryz.underlying4
 a4:=Tryz.isAgg4
 z4:=Tryz.sizeOf4
 v4:=Tryz.zeroValue4
 t5:=Tryz.underlying5
 a5:=Tryz.isAgg5
 z5:=Tryz.sizeOf5
 v5:=Tryz.zeroValue5
 t9:=Tryz.underlying9
 a9:=Tryz.isAgg9
 z9:=Tryz.sizeOf9
 v9:=Tryz.zeroValue9
 t20:=Tryz.underlying20
 a20:=Tryz.isAgg20
 z20:=Tryz.sizeOf20
 v20:=Tryz.zeroValue20
 t37:=Tryz.underlying85
 a37:=Tryz.isAgg85
 z37:=Tryz.sizeOf85
 v37:=Tryz.zeroValue85
 t46:=Tryz.underlying265
 a46:=Tryz.isAgg265
 z46:=Tryz.sizeOf265
 v46:=Tryz.zeroValue265
 t51:=Tryz.underlying179
 a51:=Tryz.isAgg179
 z51:=Tryz.sizeOf179
 v51:=Tryz.zeroValue179
 t53:=Tryz.underlying275
 a53:=Tryz.isAgg275
 z53:=Tryz.sizeOf275
 v53:=Tryz.zeroValue275
 t171:=Tryz.underlying274
 a171:=Tryz.isAgg274
 z171:=Tryz.sizeOf274
 v171:=Tryz.zeroValue274
 t173:=Tryz.underlying278
 a173:=Tryz.isAgg278
 z173:=Tryz.sizeOf278
 v173:=Tryz.zeroValue278
 t212:=Tryz.underlying309
 a212:=Tryz.isAgg309
 z212:=Tryz.sizeOf309
 v212:=Tryz.zeroValue309
 t213:=Tryz.underlying310
 a213:=Tryz.isAgg310
 z213:=Tryz.sizeOf310
 t232:=Tryz.underlying343
 a232:=Tryz.isAgg343
 z232:=Tryz.sizeOf343
 v232:=Tryz.zeroValue343
 t233:=Tryz.underlying344
 a233:=Tryz.isAgg344
 z233:=Tryz.sizeOf344
 v233:=Tryz.zeroValue344
 g17:=by kernel_rfl
 g18:=by kernel_rfl
 g19:=by kernel_rfl
 i0:=by kernel_rfl
 i2:=by kernel_rfl
 i3:=by kernel_rfl
 i4:=by kernel_rfl
 i5:=by kernel_rfl
 i9:=by kernel_rfl
 i20:=by kernel_rfl
 i37:=by kernel_rfl
 i46:=by kernel_rfl
 i51:=by kernel_rfl
 i53:=by kernel_rfl
 i171:=by kernel_rfl
 i173:=by kernel_rfl
 i212:=by kernel_rfl
 i232:=by kernel_rfl
 i233:=by kernel_rfl
 m17:=by kernel_rfl
 m18:=by kernel_rfl
 m19:=by kernel_rfl}
open Go.RowKit Go.Sort Go.Lib in
theorem Tryz.strconv_Itoa (n:Int)(h0: -9223372036854775808≤n)(h1:n≤9223372036854775807)(w:World)(htab:Lib.TabIs Tryz.prog w "internal/strconv.uint64pow10" .u64 Lib.pow10Tab):
  Calls Tryz.prog 156 #[.int .i64 n] w fun e w'=>e= .returned (.string ⟨(Lib.itoa n).toArray⟩)∧∃k os,w'=grow (w.drewN k) os:=Any.strconv_Itoa Tryz.laysM171 n h0 h1 w htab
def Tryz.laysM173_ren:Go.Shelf.Ren:=⟨fun|173=>133|246=>167|283=>191|284=>192|285=>193|286=>194|129=>215|317=>214|318=>216|319=>217|320=>218|337=>229|338=>230|n=>n,fun|2=>2|3=>3|9=>9|4=>4|171=>274|0=>0|53=>275|37=>85|5=>5|173=>278|212=>309|51=>179|20=>20|213=>310|46=>265|232=>343|233=>344|n=>n,fun|17=>10|18=>11|19=>12|n=>n⟩
theorem Tryz.laysM173:Go.Proofs.LaysM.n173 Tryz.prog Tryz.laysM173_ren:={
 mixed:=by kernel_rfl
 f129:=Tryz.func215.trans (congrArg some (by kernel_rfl))
 f173:=Tryz.func133.trans (congrArg some (by kernel_rfl))
 f246:=Tryz.func167.trans (congrArg some (by kernel_rfl))
 f283:=Tryz.func191.trans (congrArg some (by kernel_rfl))
 f284:=Tryz.func192.trans (congrArg some (by kernel_rfl))
 f285:=Tryz.func193.trans (congrArg some (by kernel_rfl))
 f286:=Tryz.func194.trans (congrArg some (by kernel_rfl))
 f317:=Tryz.func214.trans (congrArg some (by kernel_rfl))
 f318:=Tryz.func216.trans (congrArg some (by kernel_rfl))
 f319:=Tryz.func217.trans (congrArg some (by kernel_rfl))
 f320:=Tryz.func218.trans (congrArg some (by kernel_rfl))
 f337:=Tryz.func229.trans (congrArg some (by kernel_rfl))
 f338:=Tryz.func230.trans (congrArg some (by kernel_rfl))
 t0:=Tryz.underlying0
 a0:=Tryz.isAgg0
 z0:=Tryz.sizeOf0
 v0:=Tryz.zeroValue0
 t2:=Tryz.underlying2
 a2:=Tryz.isAgg2
 z2:=Tryz.sizeOf2
 v2:=Tryz.zeroValue2
 t3:=Tryz.underlying3
 a3:=Tryz.isAgg3
 z3:=Tryz.sizeOf3
 v3:=Tryz.zeroValue3
 t4:=Tryz.underlying4
 a4:=Tryz.isAgg4
 z4:=Tryz.sizeOf4
 v4:=Tryz.zeroValue4
 t5:=Tryz.underlying5
 a5:=Tryz.isAgg5
 z5:=Tryz.sizeOf5
 v5:=Tryz.zeroValue5
 t9:=Tryz.underlying9
 a9:=Tryz.isAgg9
 z9:=Tryz.sizeOf9
 v9:=Tryz.zeroValue9
 t20:=Tryz.underlying20
 a20:=Tryz.isAgg20
 z20:=Tryz.sizeOf20
 v20:=Tryz.zeroValue20
 t37:=Tryz.underlying85
 a37:=Tryz.isAgg85
 z37:=Tryz.sizeOf85
 v37:=Tryz.zeroValue85
 t46:=Tryz.underlying265
 a46:=Tryz.isAgg265
 z46:=Tryz.sizeOf265
 v46:=Tryz.zeroValue265
 t51:=Tryz.underlying179
 a51:=Tryz.isAgg179
 z51:=Tryz.sizeOf179
 v51:=Tryz.zeroValue179
 t53:=Tryz.underlying275
 a53:=Tryz.isAgg275
 z53:=Tryz.sizeOf275
 v53:=Tryz.zeroValue275
 t171:=Tryz.underlying274
 a171:=Tryz.isAgg274
 z171:=Tryz.sizeOf274
 v171:=Tryz.zeroValue274
 t173:=Tryz.underlying278
 a173:=Tryz.isAgg278
 z173:=Tryz.sizeOf278
 v173:=Tryz.zeroValue278
 t212:=Tryz.underlying309
 a212:=Tryz.isAgg309
 z212:=Tryz.sizeOf309
 v212:=Tryz.zeroValue309
 t213:=Tryz.underlying310
 a213:=Tryz.isAgg310
 z213:=Tryz.sizeOf310
 t232:=Tryz.underlying343
 a232:=Tryz.isAgg343
 z232:=Tryz.sizeOf343
 v232:=Tryz.zeroValue343
 t233:=Tryz.underlying344
 a233:=Tryz.isAgg344
 z233:=Tryz.sizeOf344
 v233:=Tryz.zeroValue344
 g17:=by kernel_rfl
 g18:=by kernel_rfl
 g19:=by kernel_rfl
 i0:=by kernel_rfl
 i2:=by kernel_rfl
 i3:=by kernel_rfl
 i4:=by kernel_rfl
 i5:=by kernel_rfl
 i9:=by kernel_rfl
 i20:=by kernel_rfl
 i37:=by kernel_rfl
 i46:=by kernel_rfl
 i51:=by kernel_rfl
 i53:=by kernel_rfl
 i171:=by kernel_rfl
 i173:=by kernel_rfl
 i212:=by kernel_rfl
 i232:=by kernel_rfl
 i233:=by kernel_rfl
 m17:=by kernel_rfl
 m18:=by kernel_rfl
 m19:=by kernel_rfl}
open Go.RowKit Go.Sort Go.Lib in
theorem Tryz.strconv_FormatInt_10 (n:Int)(h0: -9223372036854775808≤n)(h1:n≤9223372036854775807)(w:World)(htab:Lib.TabIs Tryz.prog w "internal/strconv.uint64pow10" .u64 Lib.pow10Tab):
  Calls Tryz.prog 133 #[.int .i64 n,.int .i64 10] w fun e w'=>e= .returned (.string ⟨(Lib.itoa n).toArray⟩)∧∃k os,w'=grow (w.drewN k) os:=Any.strconv_FormatInt_10 Tryz.laysM173 n h0 h1 w htab
def Tryz.lays173_ren:Go.Shelf.Ren:=⟨fun|173=>133|246=>167|283=>191|284=>192|285=>193|286=>194|129=>215|317=>214|318=>216|319=>217|320=>218|337=>229|338=>230|n=>n,fun|2=>2|3=>3|9=>9|4=>4|171=>274|0=>0|53=>275|37=>85|5=>5|173=>278|212=>309|51=>179|20=>20|213=>310|46=>265|232=>343|233=>344|n=>n,fun|17=>10|18=>11|19=>12|n=>n⟩
theorem Tryz.lays173:Go.Proofs.Lays.n173 Tryz.prog Tryz.lays173_ren:={
 mixed:=by kernel_rfl
 f129:=Tryz.func215.trans (congrArg some (by kernel_rfl))
 f173:=Tryz.func133.trans (congrArg some (by kernel_rfl))
 f246:=Tryz.func167.trans (congrArg some (by kernel_rfl))
 f283:=Tryz.func191.trans (congrArg some (by kernel_rfl))
 f284:=Tryz.func192.trans (congrArg some (by kernel_rfl))
 f285:=Tryz.func193.trans (congrArg some (by kernel_rfl))
 f286:=Tryz.func194.trans (congrArg some (by kernel_rfl))
 f317:=Tryz.func214.trans (congrArg some (by kernel_rfl))
 f318:=Tryz.func216.trans (congrArg some (by kernel_rfl))
 f319:=Tryz.func217.trans (congrArg some (by kernel_rfl))
 f320:=Tryz.func218.trans (congrArg some (by kernel_rfl))
 f337:=Tryz.func229.trans (congrArg some (by kernel_rfl))
 f338:=Tryz.func230.trans (congrArg some (by kernel_rfl))
 t0:=Tryz.underlying0
 a0:=Tryz.isAgg0
 z0:=Tryz.sizeOf0
 v0:=Tryz.zeroValue0
 t2:=Tryz.underlying2
 a2:=Tryz.isAgg2
 z2:=Tryz.sizeOf2
 v2:=Tryz.zeroValue2
 t3:=Tryz.underlying3
 a3:=Tryz.isAgg3
 z3:=Tryz.sizeOf3
 v3:=Tryz.zeroValue3
 t4:=Tryz.underlying4
 a4:=Tryz.isAgg4
 z4:=Tryz.sizeOf4
 v4:=Tryz.zeroValue4
 t5:=Tryz.underlying5
 a5:=Tryz.isAgg5
 z5:=Tryz.sizeOf5
 v5:=Tryz.zeroValue5
 t9:=Tryz.underlying9
 a9:=Tryz.isAgg9
 z9:=Tryz.sizeOf9
 v9:=Tryz.zeroValue9
 t20:=Tryz.underlying20
 a20:=Tryz.isAgg20
 z20:=Tryz.sizeOf20
 v20:=Tryz.zeroValue20
 t37:=Tryz.underlying85
 a37:=Tryz.isAgg85
 z37:=Tryz.sizeOf85
 v37:=Tryz.zeroValue85
 t46:=Tryz.underlying265
 a46:=Tryz.isAgg265
 z46:=Tryz.sizeOf265
 v46:=Tryz.zeroValue265
 t51:=Tryz.underlying179
 a51:=Tryz.isAgg179
 z51:=Tryz.sizeOf179
 v51:=Tryz.zeroValue179
 t53:=Tryz.underlying275
 a53:=Tryz.isAgg275
 z53:=Tryz.sizeOf275
 v53:=Tryz.zeroValue275
 t171:=Tryz.underlying274
 a171:=Tryz.isAgg274
 z171:=Tryz.sizeOf274
 v171:=Tryz.zeroValue274
 t173:=Tryz.underlying278
 a173:=Tryz.isAgg278
 z173:=Tryz.sizeOf278
 v173:=Tryz.zeroValue278
 t212:=Tryz.underlying309
 a212:=Tryz.isAgg309
 z212:=Tryz.sizeOf309
 v212:=Tryz.zeroValue309
 t213:=Tryz.underlying310
 a213:=Tryz.isAgg310
 z213:=Tryz.sizeOf310
 t232:=Tryz.underlying343
 a232:=Tryz.isAgg343
 z232:=Tryz.sizeOf343
 v232:=Tryz.zeroValue343
 t233:=Tryz.underlying344
 a233:=Tryz.isAgg344
 z233:=Tryz.sizeOf344
 v233:=Tryz.zeroValue344
 g17:=by kernel_rfl
 g18:=by kernel_rfl
 g19:=by kernel_rfl}
open Go.RowKit Go.Sort Go.Lib in
theorem Tryz.strconv_FormatInt_10_small (i:Nat)(hi:i<100)(w:World):
  Calls Tryz.prog 133 #[.int .i64 i,.int .i64 10] w fun e w'=>e= .returned (.string ⟨(Lib.decDigits i).toArray⟩)∧w'=w:=Any.strconv_FormatInt_10_small Tryz.lays173 i hi w
def Tryz.laysC172_ren:Go.Shelf.Ren:=⟨fun|172=>92|244=>142|245=>143|247=>173|279=>174|280=>175|281=>176|282=>177|287=>202|316=>203|171=>156|205=>204|321=>221|322=>222|243=>185|246=>167|283=>191|284=>192|285=>193|286=>194|129=>215|317=>214|318=>216|319=>217|320=>218|337=>229|338=>230|n=>n,fun|9=>9|3=>3|75=>36|76=>125|4=>4|5=>5|167=>244|37=>85|0=>0|85=>245|2=>2|168=>247|53=>275|175=>286|46=>265|210=>289|127=>169|145=>318|143=>316|21=>21|171=>274|173=>278|212=>309|51=>179|20=>20|213=>310|232=>343|233=>344|80=>128|n=>n,fun|15=>8|16=>9|17=>10|18=>11|19=>12|n=>n⟩
theorem Tryz.laysC172:Go.Proofs.LaysC.n172 Tryz.prog Tryz.laysC172_ren:={
 mixed:=by kernel_rfl
 f129:=Tryz.func215.trans (congrArg some (by kernel_rfl))
 f171:=Tryz.func156.trans (congrArg some (by kernel_rfl))
 f172:=Tryz.func92.trans (congrArg some (by kernel_rfl))
 f205:=Tryz.func204.trans (congrArg some (by kernel_rfl))
 f243:=Tryz.func185.trans (congrArg some (by kernel_rfl))
 f244:=Tryz.func142.trans (congrArg some (by kernel_rfl))
 f245:=Tryz.func143.trans (congrArg some (by kernel_rfl))
 f246:=Tryz.func167.trans (congrArg some (by kernel_rfl))
 f247:=Tryz.func173.trans (congrArg some (by kernel_rfl))
 f279:=Tryz.func174.trans (congrArg some (by kernel_rfl))
 f280:=Tryz.func175.trans (congrArg some (by kernel_rfl))
 f281:=Tryz.func176.trans (congrArg some (by kernel_rfl))
 f282:=Tryz.func177.trans (congrArg some (by kernel_rfl))
 f283:=Tryz.func191.trans (congrArg some (by kernel_rfl))
 f284:=Tryz.func192.trans (congrArg some (by kernel_rfl))
 f285:=Tryz.func193.trans (congrArg some (by kernel_rfl))
 f286:=Tryz.func194.trans (congrArg some (by kernel_rfl))
 f287:=Tryz.func202.trans (congrArg some (by kernel_rfl))
 f316:=Tryz.func203.trans (congrArg some (by kernel_rfl))
 f317:=Tryz.func214.trans (congrArg some (by kernel_rfl))
 f318:=Tryz.func216.trans (congrArg some (by kernel_rfl))
 f319:=Tryz.func217.trans (congrArg some (by kernel_rfl))
 f320:=Tryz.func218.trans (congrArg some (by kernel_rfl))
 f321:=Tryz.func221.trans (congrArg some (by kernel_rfl))
 f322:=Tryz.func222.trans (congrArg some (by kernel_rfl))
 f337:=Tryz.func229.trans (congrArg some (by kernel_rfl))
 f338:=Tryz.func230.trans (congrArg some (by kernel_rfl))
 t0:=Tryz.underlying0
 a0:=Tryz.isAgg0
 z0:=Tryz.sizeOf0
 v0:=Tryz.zeroValue0
 t2:=Tryz.underlying2
 a2:=Tryz.isAgg2
 z2:=Tryz.sizeOf2
 v2:=Tryz.zeroValue2
 t3:=Tryz.underlying3
 a3:=Tryz.isAgg3
 z3:=Tryz.sizeOf3
 v3:=Tryz.zeroValue3
 t4:=Tryz.underlying4
 a4:=Tryz.isAgg4
 z4:=Tryz.sizeOf4
 v4:=Tryz.zeroValue4
 t5:=Tryz.underlying5
 a5:=Tryz.isAgg5
 z5:=Tryz.sizeOf5
 v5:=Tryz.zeroValue5
 t9:=Tryz.underlying9
 a9:=Tryz.isAgg9
 z9:=Tryz.sizeOf9
 v9:=Tryz.zeroValue9
 t20:=Tryz.underlying20
 a20:=Tryz.isAgg20
 z20:=Tryz.sizeOf20
 v20:=Tryz.zeroValue20
 t21:=Tryz.underlying21
 a21:=Tryz.isAgg21
 z21:=Tryz.sizeOf21
 v21:=Tryz.zeroValue21
 t37:=Tryz.underlying85
 a37:=Tryz.isAgg85
 z37:=Tryz.sizeOf85
 v37:=Tryz.zeroValue85
 t46:=Tryz.underlying265
 a46:=Tryz.isAgg265
 z46:=Tryz.sizeOf265
 v46:=Tryz.zeroValue265
 t51:=Tryz.underlying179
 a51:=Tryz.isAgg179
 z51:=Tryz.sizeOf179
 v51:=Tryz.zeroValue179
 t53:=Tryz.underlying275
 a53:=Tryz.isAgg275
 z53:=Tryz.sizeOf275
 v53:=Tryz.zeroValue275
 t75:=Tryz.underlying36
 a75:=Tryz.isAgg36
 z75:=Tryz.sizeOf36
 v75:=Tryz.zeroValue36
 t76:=Tryz.underlying125
 a76:=Tryz.isAgg125
 z76:=Tryz.sizeOf125
 v76:=Tryz.zeroValue125
 t85:=Tryz.underlying245
 a85:=Tryz.isAgg245
 z85:=Tryz.sizeOf245
 v85:=Tryz.zeroValue245
 t127:=Tryz.underlying169
 a127:=Tryz.isAgg169
 z127:=Tryz.sizeOf169
 v127:=Tryz.zeroValue169
 t143:=Tryz.underlying316
 a143:=Tryz.isAgg316
 z143:=Tryz.sizeOf316
 v143:=Tryz.zeroValue316
 t145:=Tryz.underlying318
 a145:=Tryz.isAgg318
 z145:=Tryz.sizeOf318
 v145:=Tryz.zeroValue318
 t167:=Tryz.underlying244
 a167:=Tryz.isAgg244
 z167:=Tryz.sizeOf244
 v167:=Tryz.zeroValue244
 t168:=Tryz.underlying247
 a168:=Tryz.isAgg247
 z168:=Tryz.sizeOf247
 v168:=Tryz.zeroValue247
 t171:=Tryz.underlying274
 a171:=Tryz.isAgg274
 z171:=Tryz.sizeOf274
 v171:=Tryz.zeroValue274
 t173:=Tryz.underlying278
 a173:=Tryz.isAgg278
 z173:=Tryz.sizeOf278
 v173:=Tryz.zeroValue278
 t175:=Tryz.underlying286
 a175:=Tryz.isAgg286
 z175:=Tryz.sizeOf286
 v175:=Tryz.zeroValue286
 t210:=Tryz.underlying289
 a210:=Tryz.isAgg289
 z210:=Tryz.sizeOf289
 v210:=Tryz.zeroValue289
 t212:=Tryz.underlying309
 a212:=Tryz.isAgg309
 z212:=Tryz.sizeOf309
 v212:=Tryz.zeroValue309
 t213:=Tryz.underlying310
 a213:=Tryz.isAgg310
 z213:=Tryz.sizeOf310
 t232:=Tryz.underlying343
 a232:=Tryz.isAgg343
 z232:=Tryz.sizeOf343
 v232:=Tryz.zeroValue343
 t233:=Tryz.underlying344
 a233:=Tryz.isAgg344
 z233:=Tryz.sizeOf344
 v233:=Tryz.zeroValue344
 g15:=by kernel_rfl
 g16:=by kernel_rfl
 g17:=by kernel_rfl
 g18:=by kernel_rfl
 g19:=by kernel_rfl
 t80:=Tryz.underlying128
 a80:=Tryz.isAgg128
 z80:=Tryz.sizeOf128
 v80:=Tryz.zeroValue128
 i0:=by kernel_rfl
 i2:=by kernel_rfl
 i3:=by kernel_rfl
 i4:=by kernel_rfl
 i5:=by kernel_rfl
 i9:=by kernel_rfl
 i20:=by kernel_rfl
 i21:=by kernel_rfl
 i37:=by kernel_rfl
 i46:=by kernel_rfl
 i51:=by kernel_rfl
 i53:=by kernel_rfl
 i75:=by kernel_rfl
 i76:=by kernel_rfl
 i80:=by kernel_rfl
 i85:=by kernel_rfl
 i127:=by kernel_rfl
 i143:=by kernel_rfl
 i145:=by kernel_rfl
 i167:=by kernel_rfl
 i168:=by kernel_rfl
 i171:=by kernel_rfl
 i173:=by kernel_rfl
 i175:=by kernel_rfl
 i210:=by kernel_rfl
 i212:=by kernel_rfl
 i232:=by kernel_rfl
 i233:=by kernel_rfl
 m15:=by kernel_rfl
 m16:=by kernel_rfl
 m17:=by kernel_rfl
 m18:=by kernel_rfl
 m19:=by kernel_rfl
 c0:=by kernel_rfl
 c2:=by kernel_rfl
 c3:=by kernel_rfl
 c4:=by kernel_rfl
 c5:=by kernel_rfl
 c9:=by kernel_rfl
 c20:=by kernel_rfl
 c21:=by kernel_rfl
 c37:=by kernel_rfl
 c46:=by kernel_rfl
 c51:=by kernel_rfl
 c53:=by kernel_rfl
 c75:=by kernel_rfl
 c76:=by kernel_rfl
 c80:=by kernel_rfl
 c85:=by kernel_rfl
 c127:=by kernel_rfl
 c143:=by kernel_rfl
 c145:=by kernel_rfl
 c167:=by kernel_rfl
 c168:=by kernel_rfl
 c171:=by kernel_rfl
 c173:=by kernel_rfl
 c175:=by kernel_rfl
 c210:=by kernel_rfl
 c212:=by kernel_rfl
 c213:=by kernel_rfl
 c232:=by kernel_rfl
 c233:=by kernel_rfl}
open Go.RowKit in
theorem Tryz.strconv_Atoi_ok (s:ByteArray)(hmax:s.size≤9223372036854775806)(v:Int)(h:Lib.atoiAll s.data.toList= .ok v)(w:World):
  Calls Tryz.prog 92 #[.string s] w fun e w'=>e= .returned (.tuple #[.int .i64 v,.nilIface])∧(w'=w∨∃t,w'=Lib.bytesWorld w 5 t):=Any.strconv_Atoi_ok Tryz.laysC172 s hmax v h w
open Go.RowKit in
theorem Tryz.strconv_Atoi_syntax (s:ByteArray)(hlim:s.size≤281474976710656)(h:Lib.atoiAll s.data.toList= .«syntax»)(ev:Value)(w:World)(hv:w.cell? ⟨8,0,none⟩=some ev)(hev:ev= .nilIface∨∃te pe,ev= .iface te pe):
  Calls Tryz.prog 92 #[.string s] w fun e w'=>∃N,e= .returned (.tuple #[.int .i64 (0),.iface 247 (.pointer (some ⟨N,0,none⟩))])∧w.heap.size≤N∧w'.heap[N]? =some (.cells #[.string ⟨#[65,116,111,105]⟩,.string s,ev] 289 (0,0))∧Below w.heap.size w w':=Any.strconv_Atoi_syntax Tryz.laysC172 s hlim h ev w hv hev
open Go.RowKit in
theorem Tryz.strconv_Atoi_range (s:ByteArray)(hlim:s.size≤281474976710656)(h:Lib.atoiAll s.data.toList= .range)(ev:Value)(w:World)(hv:w.cell? ⟨9,0,none⟩=some ev)(hev:ev= .nilIface∨∃te pe,ev= .iface te pe):
  Calls Tryz.prog 92 #[.string s] w fun e w'=>∃N,e= .returned (.tuple #[.int .i64 (Lib.atoiSat s.data.toList),.iface 247 (.pointer (some ⟨N,0,none⟩))])∧w.heap.size≤N∧w'.heap[N]? =some (.cells #[.string ⟨#[65,116,111,105]⟩,.string s,ev] 289 (0,0))∧Below w.heap.size w w':=Any.strconv_Atoi_range Tryz.laysC172 s hlim h ev w hv hev
def Tryz.lays144_ren:Go.Shelf.Ren:=⟨fun|144=>111|143=>155|219=>169|217=>64|225=>195|224=>196|267=>197|266=>115|314=>219|n=>n,fun|9=>9|4=>4|3=>3|5=>5|46=>265|146=>312|51=>179|n=>n,fun|1=>4|n=>n⟩
theorem Tryz.lays144:Go.Proofs.Lays.n144 Tryz.prog Tryz.lays144_ren:={
 mixed:=by kernel_rfl
 f143:=Tryz.func155.trans (congrArg some (by kernel_rfl))
 f144:=Tryz.func111.trans (congrArg some (by kernel_rfl))
 f217:=Tryz.func64.trans (congrArg some (by kernel_rfl))
 f219:=Tryz.func169.trans (congrArg some (by kernel_rfl))
 f224:=Tryz.func196.trans (congrArg some (by kernel_rfl))
 f225:=Tryz.func195.trans (congrArg some (by kernel_rfl))
 f266:=Tryz.func115.trans (congrArg some (by kernel_rfl))
 f267:=Tryz.func197.trans (congrArg some (by kernel_rfl))
 f314:=Tryz.func219.trans (congrArg some (by kernel_rfl))
 t3:=Tryz.underlying3
 a3:=Tryz.isAgg3
 z3:=Tryz.sizeOf3
 v3:=Tryz.zeroValue3
 t4:=Tryz.underlying4
 a4:=Tryz.isAgg4
 z4:=Tryz.sizeOf4
 v4:=Tryz.zeroValue4
 t5:=Tryz.underlying5
 a5:=Tryz.isAgg5
 z5:=Tryz.sizeOf5
 v5:=Tryz.zeroValue5
 t9:=Tryz.underlying9
 a9:=Tryz.isAgg9
 z9:=Tryz.sizeOf9
 v9:=Tryz.zeroValue9
 t46:=Tryz.underlying265
 a46:=Tryz.isAgg265
 z46:=Tryz.sizeOf265
 v46:=Tryz.zeroValue265
 t51:=Tryz.underlying179
 a51:=Tryz.isAgg179
 z51:=Tryz.sizeOf179
 v51:=Tryz.zeroValue179
 t146:=Tryz.underlying312
 a146:=Tryz.isAgg312
 z146:=Tryz.sizeOf312
 v146:=Tryz.zeroValue312
 g1:=by kernel_rfl}
open Go.RowKit Go.Lib in
theorem Tryz.strings_Contains_one (s:ByteArray)(c:UInt8)(w:World):
  Calls Tryz.prog 111 #[.string s,.string ⟨#[c]⟩] w fun e w'=>e= .returned (.bool (decide (0≤Lib.indexByte s.data.toList c)))∧w'=w:=Any.strings_Contains_one Tryz.lays144 s c w
open Go.RowKit Go.Lib in
theorem Tryz.strings_Contains (s sub:ByteArray)(m:Int)(w:World)(hs:s.size<4294967281)(hm:w.cell? ⟨4,0,none⟩=some (.int .i64 m)):
  Calls Tryz.prog 111 #[.string s,.string sub] w fun e w'=>e= .returned (.bool (Lib.contains s.data.toList sub.data.toList))∧w'=w:=Any.strings_Contains Tryz.lays144 s sub m w hs hm
def Tryz.lays145_ren:Go.Shelf.Ren:=⟨fun|145=>84|220=>135|219=>169|217=>64|225=>195|224=>196|267=>197|266=>115|314=>219|n=>n,fun|9=>9|4=>4|59=>145|3=>3|5=>5|46=>265|146=>312|51=>179|n=>n,fun|1=>4|n=>n⟩
theorem Tryz.lays145:Go.Proofs.Lays.n145 Tryz.prog Tryz.lays145_ren:={
 mixed:=by kernel_rfl
 f145:=Tryz.func84.trans (congrArg some (by kernel_rfl))
 f217:=Tryz.func64.trans (congrArg some (by kernel_rfl))
 f219:=Tryz.func169.trans (congrArg some (by kernel_rfl))
 f220:=Tryz.func135.trans (congrArg some (by kernel_rfl))
 f224:=Tryz.func196.trans (congrArg some (by kernel_rfl))
 f225:=Tryz.func195.trans (congrArg some (by kernel_rfl))
 f266:=Tryz.func115.trans (congrArg some (by kernel_rfl))
 f267:=Tryz.func197.trans (congrArg some (by kernel_rfl))
 f314:=Tryz.func219.trans (congrArg some (by kernel_rfl))
 t3:=Tryz.underlying3
 a3:=Tryz.isAgg3
 z3:=Tryz.sizeOf3
 v3:=Tryz.zeroValue3
 t4:=Tryz.underlying4
 a4:=Tryz.isAgg4
 z4:=Tryz.sizeOf4
 v4:=Tryz.zeroValue4
 t5:=Tryz.underlying5
 a5:=Tryz.isAgg5
 z5:=Tryz.sizeOf5
 v5:=Tryz.zeroValue5
 t9:=Tryz.underlying9
 a9:=Tryz.isAgg9
 z9:=Tryz.sizeOf9
 v9:=Tryz.zeroValue9
 t46:=Tryz.underlying265
 a46:=Tryz.isAgg265
 z46:=Tryz.sizeOf265
 v46:=Tryz.zeroValue265
 t51:=Tryz.underlying179
 a51:=Tryz.isAgg179
 z51:=Tryz.sizeOf179
 v51:=Tryz.zeroValue179
 t59:=Tryz.underlying145
 a59:=Tryz.isAgg145
 z59:=Tryz.sizeOf145
 v59:=Tryz.zeroValue145
 t146:=Tryz.underlying312
 a146:=Tryz.isAgg312
 z146:=Tryz.sizeOf312
 v146:=Tryz.zeroValue312
 g1:=by kernel_rfl}
open Go.RowKit Go.Lib in
theorem Tryz.strings_Cut (s sep:ByteArray)(m:Int)(w:World)(hs:s.size<4294967281)(hm:w.cell? ⟨4,0,none⟩=some (.int .i64 m)):
  Calls Tryz.prog 84 #[.string s,.string sep] w fun e w'=>e= .returned (.tuple #[.string ⟨(Lib.cut s.data.toList sep.data.toList).1.toArray⟩,.string ⟨(Lib.cut s.data.toList sep.data.toList).2.1.toArray⟩,.bool (Lib.cut s.data.toList sep.data.toList).2.2])∧∃n,w'=w.drewN n:=Any.strings_Cut Tryz.lays145 s sep m w hs hm
def Tryz.lays138_ren:Go.Shelf.Ren:=⟨fun|138=>187|195=>212|218=>213|143=>155|219=>169|217=>64|225=>195|224=>196|267=>197|266=>115|314=>219|n=>n,fun|9=>9|3=>3|4=>4|5=>5|0=>0|46=>265|146=>312|51=>179|n=>n,fun|1=>4|n=>n⟩
theorem Tryz.lays138:Go.Proofs.Lays.n138 Tryz.prog Tryz.lays138_ren:={
 mixed:=by kernel_rfl
 f138:=Tryz.func187.trans (congrArg some (by kernel_rfl))
 f143:=Tryz.func155.trans (congrArg some (by kernel_rfl))
 f195:=Tryz.func212.trans (congrArg some (by kernel_rfl))
 f217:=Tryz.func64.trans (congrArg some (by kernel_rfl))
 f218:=Tryz.func213.trans (congrArg some (by kernel_rfl))
 f219:=Tryz.func169.trans (congrArg some (by kernel_rfl))
 f224:=Tryz.func196.trans (congrArg some (by kernel_rfl))
 f225:=Tryz.func195.trans (congrArg some (by kernel_rfl))
 f266:=Tryz.func115.trans (congrArg some (by kernel_rfl))
 f267:=Tryz.func197.trans (congrArg some (by kernel_rfl))
 f314:=Tryz.func219.trans (congrArg some (by kernel_rfl))
 t0:=Tryz.underlying0
 a0:=Tryz.isAgg0
 z0:=Tryz.sizeOf0
 v0:=Tryz.zeroValue0
 t3:=Tryz.underlying3
 a3:=Tryz.isAgg3
 z3:=Tryz.sizeOf3
 v3:=Tryz.zeroValue3
 t4:=Tryz.underlying4
 a4:=Tryz.isAgg4
 z4:=Tryz.sizeOf4
 v4:=Tryz.zeroValue4
 t5:=Tryz.underlying5
 a5:=Tryz.isAgg5
 z5:=Tryz.sizeOf5
 v5:=Tryz.zeroValue5
 t9:=Tryz.underlying9
 a9:=Tryz.isAgg9
 z9:=Tryz.sizeOf9
 v9:=Tryz.zeroValue9
 t46:=Tryz.underlying265
 a46:=Tryz.isAgg265
 z46:=Tryz.sizeOf265
 v46:=Tryz.zeroValue265
 t51:=Tryz.underlying179
 a51:=Tryz.isAgg179
 z51:=Tryz.sizeOf179
 v51:=Tryz.zeroValue179
 t146:=Tryz.underlying312
 a146:=Tryz.isAgg312
 z146:=Tryz.sizeOf312
 v146:=Tryz.zeroValue312
 g1:=by kernel_rfl}
open Go.RowKit Go.Lib in
theorem Tryz.strings_Count_one (s:ByteArray)(c:UInt8)(w:World):
  Calls Tryz.prog 187 #[.string s,.string ⟨#[c]⟩] w fun e w'=>e= .returned (.int .i64 (Lib.countByte s.data.toList c))∧w'=w:=Any.strings_Count_one Tryz.lays138 s c w
def Tryz.lays146_ren:Go.Shelf.Ren:=⟨fun|146=>113|221=>157|268=>186|138=>187|143=>155|195=>212|197=>118|218=>213|219=>169|260=>161|217=>64|225=>195|224=>196|267=>197|266=>115|314=>219|n=>n,fun|9=>9|31=>26|3=>3|4=>4|0=>0|105=>170|21=>21|5=>5|46=>265|119=>131|139=>268|138=>267|146=>312|51=>179|n=>n,fun|1=>4|3=>6|4=>7|n=>n⟩
theorem Tryz.lays146:Go.Proofs.Lays.n146 Tryz.prog Tryz.lays146_ren:={
 mixed:=by kernel_rfl
 f138:=Tryz.func187.trans (congrArg some (by kernel_rfl))
 f143:=Tryz.func155.trans (congrArg some (by kernel_rfl))
 f146:=Tryz.func113.trans (congrArg some (by kernel_rfl))
 f195:=Tryz.func212.trans (congrArg some (by kernel_rfl))
 f197:=Tryz.func118.trans (congrArg some (by kernel_rfl))
 f217:=Tryz.func64.trans (congrArg some (by kernel_rfl))
 f218:=Tryz.func213.trans (congrArg some (by kernel_rfl))
 f219:=Tryz.func169.trans (congrArg some (by kernel_rfl))
 f221:=Tryz.func157.trans (congrArg some (by kernel_rfl))
 f224:=Tryz.func196.trans (congrArg some (by kernel_rfl))
 f225:=Tryz.func195.trans (congrArg some (by kernel_rfl))
 f260:=Tryz.func161.trans (congrArg some (by kernel_rfl))
 f266:=Tryz.func115.trans (congrArg some (by kernel_rfl))
 f267:=Tryz.func197.trans (congrArg some (by kernel_rfl))
 f268:=Tryz.func186.trans (congrArg some (by kernel_rfl))
 f314:=Tryz.func219.trans (congrArg some (by kernel_rfl))
 t0:=Tryz.underlying0
 a0:=Tryz.isAgg0
 z0:=Tryz.sizeOf0
 v0:=Tryz.zeroValue0
 t3:=Tryz.underlying3
 a3:=Tryz.isAgg3
 z3:=Tryz.sizeOf3
 v3:=Tryz.zeroValue3
 t4:=Tryz.underlying4
 a4:=Tryz.isAgg4
 z4:=Tryz.sizeOf4
 v4:=Tryz.zeroValue4
 t5:=Tryz.underlying5
 a5:=Tryz.isAgg5
 z5:=Tryz.sizeOf5
 v5:=Tryz.zeroValue5
 t9:=Tryz.underlying9
 a9:=Tryz.isAgg9
 z9:=Tryz.sizeOf9
 v9:=Tryz.zeroValue9
 t21:=Tryz.underlying21
 a21:=Tryz.isAgg21
 z21:=Tryz.sizeOf21
 v21:=Tryz.zeroValue21
 t31:=Tryz.underlying26
 a31:=Tryz.isAgg26
 z31:=Tryz.sizeOf26
 v31:=Tryz.zeroValue26
 t46:=Tryz.underlying265
 a46:=Tryz.isAgg265
 z46:=Tryz.sizeOf265
 v46:=Tryz.zeroValue265
 t51:=Tryz.underlying179
 a51:=Tryz.isAgg179
 z51:=Tryz.sizeOf179
 v51:=Tryz.zeroValue179
 t105:=Tryz.underlying170
 a105:=Tryz.isAgg170
 z105:=Tryz.sizeOf170
 v105:=Tryz.zeroValue170
 t119:=Tryz.underlying131
 a119:=Tryz.isAgg131
 z119:=Tryz.sizeOf131
 t138:=Tryz.underlying267
 a138:=Tryz.isAgg267
 z138:=Tryz.sizeOf267
 v138:=Tryz.zeroValue267
 t139:=Tryz.underlying268
 a139:=Tryz.isAgg268
 z139:=Tryz.sizeOf268
 v139:=Tryz.zeroValue268
 t146:=Tryz.underlying312
 a146:=Tryz.isAgg312
 z146:=Tryz.sizeOf312
 v146:=Tryz.zeroValue312
 g1:=by kernel_rfl
 g3:=by kernel_rfl
 g4:=by kernel_rfl}
open Go.RowKit Go.Lib in
theorem Tryz.strings_Split (s sep:ByteArray)(m:Int)(w:World)(hs:s.size<4294967281)(hm:w.cell? ⟨4,0,none⟩=some (.int .i64 m))(h1:1≤sep.size):
  Calls Tryz.prog 113 #[.string s,.string sep] w fun e w'=>
   e= .returned (.slice (some ⟨w.heap.size,0,none⟩) (Lib.countB s sep+1) (Lib.countB s sep+1))∧w'=w.alloc (.cells ((Lib.splitB sep 0 (Lib.countB s sep) s).map Value.string).toArray 9):=Any.strings_Split Tryz.lays146 (by kernel_rfl) s sep m w hs hm h1
def Tryz.lays157_ren:Go.Shelf.Ren:=⟨fun|157=>40|229=>71|199=>72|261=>123|311=>164|312=>165|n=>n,fun|9=>9|31=>26|3=>3|5=>5|4=>4|119=>131|0=>0|40=>133|152=>176|21=>21|154=>178|51=>179|141=>181|196=>234|193=>231|198=>237|49=>235|194=>232|201=>240|226=>272|46=>265|227=>273|n=>n,fun|0=>0|6=>1|n=>n⟩
theorem Tryz.lays157:Go.Proofs.Lays.n157 Tryz.prog Tryz.lays157_ren:={
 mixed:=by kernel_rfl
 f157:=Tryz.func40.trans (congrArg some (by kernel_rfl))
 f199:=Tryz.func72.trans (congrArg some (by kernel_rfl))
 f229:=Tryz.func71.trans (congrArg some (by kernel_rfl))
 f261:=Tryz.func123.trans (congrArg some (by kernel_rfl))
 f311:=Tryz.func164.trans (congrArg some (by kernel_rfl))
 f312:=Tryz.func165.trans (congrArg some (by kernel_rfl))
 t0:=Tryz.underlying0
 a0:=Tryz.isAgg0
 z0:=Tryz.sizeOf0
 v0:=Tryz.zeroValue0
 t3:=Tryz.underlying3
 a3:=Tryz.isAgg3
 z3:=Tryz.sizeOf3
 v3:=Tryz.zeroValue3
 t4:=Tryz.underlying4
 a4:=Tryz.isAgg4
 z4:=Tryz.sizeOf4
 v4:=Tryz.zeroValue4
 t5:=Tryz.underlying5
 a5:=Tryz.isAgg5
 z5:=Tryz.sizeOf5
 v5:=Tryz.zeroValue5
 t9:=Tryz.underlying9
 a9:=Tryz.isAgg9
 z9:=Tryz.sizeOf9
 v9:=Tryz.zeroValue9
 t21:=Tryz.underlying21
 a21:=Tryz.isAgg21
 z21:=Tryz.sizeOf21
 v21:=Tryz.zeroValue21
 t31:=Tryz.underlying26
 a31:=Tryz.isAgg26
 z31:=Tryz.sizeOf26
 v31:=Tryz.zeroValue26
 t40:=Tryz.underlying133
 a40:=Tryz.isAgg133
 z40:=Tryz.sizeOf133
 v40:=Tryz.zeroValue133
 t46:=Tryz.underlying265
 a46:=Tryz.isAgg265
 z46:=Tryz.sizeOf265
 v46:=Tryz.zeroValue265
 t49:=Tryz.underlying235
 a49:=Tryz.isAgg235
 z49:=Tryz.sizeOf235
 v49:=Tryz.zeroValue235
 t51:=Tryz.underlying179
 a51:=Tryz.isAgg179
 z51:=Tryz.sizeOf179
 v51:=Tryz.zeroValue179
 t119:=Tryz.underlying131
 a119:=Tryz.isAgg131
 z119:=Tryz.sizeOf131
 t141:=Tryz.underlying181
 a141:=Tryz.isAgg181
 z141:=Tryz.sizeOf181
 v141:=Tryz.zeroValue181
 t152:=Tryz.underlying176
 a152:=Tryz.isAgg176
 z152:=Tryz.sizeOf176
 v152:=Tryz.zeroValue176
 t154:=Tryz.underlying178
 a154:=Tryz.isAgg178
 z154:=Tryz.sizeOf178
 v154:=Tryz.zeroValue178
 t193:=Tryz.underlying231
 a193:=Tryz.isAgg231
 z193:=Tryz.sizeOf231
 v193:=Tryz.zeroValue231
 t194:=Tryz.underlying232
 a194:=Tryz.isAgg232
 z194:=Tryz.sizeOf232
 v194:=Tryz.zeroValue232
 t196:=Tryz.underlying234
 a196:=Tryz.isAgg234
 z196:=Tryz.sizeOf234
 v196:=Tryz.zeroValue234
 t198:=Tryz.underlying237
 a198:=Tryz.isAgg237
 z198:=Tryz.sizeOf237
 v198:=Tryz.zeroValue237
 t201:=Tryz.underlying240
 a201:=Tryz.isAgg240
 z201:=Tryz.sizeOf240
 v201:=Tryz.zeroValue240
 t226:=Tryz.underlying272
 a226:=Tryz.isAgg272
 z226:=Tryz.sizeOf272
 v226:=Tryz.zeroValue272
 t227:=Tryz.underlying273
 a227:=Tryz.isAgg273
 z227:=Tryz.sizeOf273
 v227:=Tryz.zeroValue273
 g0:=by kernel_rfl
 g6:=by kernel_rfl}
open Go.RowKit Go.Lib in
theorem Tryz.strings_Fields (s:ByteArray)(w:World)(hs:s.size<4294967281)(hascii:∀(j:Nat) b,s.data.toList[j]? =some b→b.toNat<128)(htab:Lib.TabIs Tryz.prog w "strings.asciiSpace" .u8 Lib.asciiSpaceTab):
  Calls Tryz.prog 40 #[.string s] w fun e w'=>
   e= .returned (.slice (some ⟨w.heap.size,0,none⟩) (Lib.fields s.data.toList).length (Lib.fields s.data.toList).length)∧w'=w.alloc (.cells ((Lib.fields s.data.toList).map fun l=>Value.string ⟨l.toArray⟩).toArray 9):=Any.strings_Fields Tryz.lays157 (by kernel_rfl) (by kernel_rfl) s w hs hascii htab
def Tryz.lays153_ren:Go.Shelf.Ren:=⟨fun|153=>172|152=>198|226=>199|227=>200|228=>201|137=>37|119=>220|224=>196|225=>195|217=>64|266=>115|n=>n,fun|9=>9|3=>3|4=>4|5=>5|21=>21|117=>284|116=>283|0=>0|46=>265|124=>314|n=>n,fun|n=>n⟩
theorem Tryz.lays153:Go.Proofs.Lays.n153 Tryz.prog Tryz.lays153_ren:={
 mixed:=by kernel_rfl
 f119:=Tryz.func220.trans (congrArg some (by kernel_rfl))
 f137:=Tryz.func37.trans (congrArg some (by kernel_rfl))
 f152:=Tryz.func198.trans (congrArg some (by kernel_rfl))
 f153:=Tryz.func172.trans (congrArg some (by kernel_rfl))
 f217:=Tryz.func64.trans (congrArg some (by kernel_rfl))
 f224:=Tryz.func196.trans (congrArg some (by kernel_rfl))
 f225:=Tryz.func195.trans (congrArg some (by kernel_rfl))
 f226:=Tryz.func199.trans (congrArg some (by kernel_rfl))
 f227:=Tryz.func200.trans (congrArg some (by kernel_rfl))
 f228:=Tryz.func201.trans (congrArg some (by kernel_rfl))
 f266:=Tryz.func115.trans (congrArg some (by kernel_rfl))
 t0:=Tryz.underlying0
 a0:=Tryz.isAgg0
 z0:=Tryz.sizeOf0
 v0:=Tryz.zeroValue0
 t3:=Tryz.underlying3
 a3:=Tryz.isAgg3
 z3:=Tryz.sizeOf3
 v3:=Tryz.zeroValue3
 t4:=Tryz.underlying4
 a4:=Tryz.isAgg4
 z4:=Tryz.sizeOf4
 v4:=Tryz.zeroValue4
 t5:=Tryz.underlying5
 a5:=Tryz.isAgg5
 z5:=Tryz.sizeOf5
 v5:=Tryz.zeroValue5
 t9:=Tryz.underlying9
 a9:=Tryz.isAgg9
 z9:=Tryz.sizeOf9
 v9:=Tryz.zeroValue9
 t21:=Tryz.underlying21
 a21:=Tryz.isAgg21
 z21:=Tryz.sizeOf21
 v21:=Tryz.zeroValue21
 t46:=Tryz.underlying265
 a46:=Tryz.isAgg265
 z46:=Tryz.sizeOf265
 v46:=Tryz.zeroValue265
 t116:=Tryz.underlying283
 a116:=Tryz.isAgg283
 z116:=Tryz.sizeOf283
 t117:=Tryz.underlying284
 a117:=Tryz.isAgg284
 z117:=Tryz.sizeOf284
 v117:=Tryz.zeroValue284
 t124:=Tryz.underlying314
 a124:=Tryz.isAgg314
 z124:=Tryz.sizeOf314
 v124:=Tryz.zeroValue314}
open Go.RowKit Go.Lib in
theorem Tryz.strings_IndexAny_long (hv116:∀w,(zeroValue 283).run Tryz.prog w= .ok (.agg (Array.replicate 256 (.bool false))) w)(s chars:ByteArray)(w:World)(h2:2≤chars.size)(h8:8<s.size)(hs:s.size<4294967281)(hcs:chars.size<4294967281)(hascii:∀(j:Nat) b,chars.data.toList[j]? =some b→b.toNat<128):
  Calls Tryz.prog 172 #[.string s,.string chars] w fun e w'=>e= .returned (.int .i64 (Lib.indexAny s.data.toList chars.data.toList))∧w'=((w.alloc (.cells (Lib.setCells chars.data.toList) 283)).alloc (.cells (Lib.setCells chars.data.toList) 283)):=Any.strings_IndexAny_long Tryz.lays153 hv116 (by kernel_rfl) s chars w h2 h8 hs hcs hascii
end Go.Proofs
namespace Go.Proofs.YtdpbejofgemloaaGreatDoor
set_option maxRecDepth 20000
set_option maxHeartbeats 4000000
section
open Go Go.RowKit
def twoS (n:Int):List UInt8:=aU [48+n/10,48+n%10]
def zrB (n:Int):Bool:=decide (-840≤n∧n≤840)
theorem sE {n:Int}:zrB n=true↔(-840≤n∧n≤840):=by simp[zrB]
def zprS (n:Int):List UInt8:=if zrB n then(if n=0 then[90] else if n<0 then([45]++twoS ((0-n)/60))++twoS ((0-n)%60) else([43]++twoS (n/60))++twoS (n%60)) else[]
def zprE (n:Int):Err:=if zrB n then .none else .errno 2
attribute [local irreducible] AWp AOps aa aA OrOk ad ah
attribute [local irreducible] zrB
theorem jQ {G:Glo}(n:Int):FnIs Tryz.prog G 98 [.int .i64 n] (.bool (zrB n)):=by
 have hGL:ad G []:=ab
 refine fn_x Tryz.func98 Tryz.call98 rfl rfl rfl rfl hGL ?_
 intro C hC
 refine xw ?_
 repeat' (first|exact Le.n|refine Lc.mk ?_ ?_)
 all_goals intros
 all_goals (apply ak;refine congrArg AVal.bool ?_;rw[Bool.eq_iff_iff];simp only[sE,reduceCtorEq,false_iff,true_iff,Bool.not_eq_true',g8];omega)
theorem fK {G:Glo}(n:Int):FnIs Tryz.prog G 77 [.int .i64 n] (.bool (zrB n)):=by
 have hGL:ad G []:=ab
 refine fn_x Tryz.func77 Tryz.call77 rfl rfl rfl rfl hGL ?_
 intro C hC
 have hw:=cE (G:=G) n (-840) 840
 refine xw1 ?_
 intros
 apply ak
 refine congrArg AVal.bool ?_
 rw[Bool.eq_iff_iff,sE]
 simp
theorem AG {G:Glo}(n:Int)(h0:0≤n)(h1:n<100):FnIs Tryz.prog G 105 [.int .i64 n] (.str (twoS n)):=by
 have hGL:ad G []:=ab
 refine fn_x Tryz.func105 Tryz.call105 rfl rfl rfl rfl hGL ?_
 intro C hC
 refine xw1 ?_
 intros
 refine aF hC hGL (bw [_,_] rfl (by intro v hv;simp only[List.mem_cons,List.not_mem_nil,or_false] at hv;omega) rfl rfl rfl rfl rfl rfl) rfl rfl ?_
 exact xw0
theorem dZ (n:Int):(twoS n).length=2:=rfl
attribute [local irreducible] twoS
theorem nr {G:Glo}(n:Int):FnIs Tryz.prog G 57 [.int .i64 n] (.tuple [.str (zprS n),(zprE n).A]):=by
 have hGL:ad G []:=ab
 refine fn_x Tryz.func57 Tryz.call57 rfl rfl rfl rfl hGL ?_
 intro C hC
 have h1:=jQ (G:=G) n
 have k2:=fun k h0 h1=>AG (G:=G) k h0 h1
 have l1:=dZ ((0-n)/60)
 have l2:=dZ ((0-n)%60)
 have l3:=dZ (n/60)
 have l4:=dZ (n%60)
 cases hz:zrB n with
 |false=>
  rw[hz] at h1
  refine xw1 ?_
  intros
  apply ak
  rw[zprS,zprE,hz]
  rfl
 |true=>
  rw[hz] at h1
  have hz2:=sE.1 hz
  refine xw ?_
  repeat' (first|exact Le.n|refine Lc.mk ?_ ?_)
  all_goals intros
  ·apply ak
   rw[zprS,zprE,hz,if_pos rfl,if_pos (by omega)]
   rfl
  ·apply ak
   rw[zprS,zprE,hz,if_pos rfl,if_neg (by omega),if_pos (by omega)]
   rfl
  ·apply ak
   rw[zprS,zprE,hz,if_pos rfl,if_neg (by omega),if_neg (by omega)]
   rfl
theorem mV {G:Glo}(i:Nat)(hi:i<100):FnIs Tryz.prog G 133 [.int .i64 (i:Int),.int .i64 10] (.str (Lib.decDigits i)):=by
 refine bB rfl Tryz.call133 ?_
 intro R args hr w _ _
 obtain⟨x,t,e,hx,y,t',e',hy,rfl⟩:=hr
 have hx:=am.1 hx
 have hy:=am.1 hy
 subst hx hy
 obtain rfl:args=#[.int .i64 (i:Int),.int .i64 10]:=by cases args;simp_all
 refine(Tryz.strconv_FormatInt_10_small i hi w).mono ?_
 rintro e w' ⟨rfl,rfl⟩
 exact⟨rfl,Below.refl _ _⟩
theorem fO {i:Nat}(h:i<10):Lib.decDigits i=[UInt8.ofNat (48+i)]:=by
 rw[Lib.decDigits,dif_pos h]
theorem fN {i:Nat}(h:10≤i)(h1:i<100):Lib.decDigits i=[UInt8.ofNat (48+i/10),UInt8.ofNat (48+i%10)]:=by
 rw[Lib.decDigits,dif_neg (by omega),fO (by omega)]
 rfl
theorem AR (i:Nat):twoS (i:Int)=[UInt8.ofNat (48+i/10),UInt8.ofNat (48+i%10)]:=by
 unfold twoS aU
 simp only[List.map]
 rw[show(48+(i:Int)/10).toNat=48+i/10 by omega,show(48+(i:Int)%10).toNat=48+i%10 by omega]
theorem iw {G:Glo}(i:Nat)(h1:i<100):FnIs Tryz.prog G 81 [.int .i64 (i:Int),.int .i64 10,.int .i64 2] (.str (twoS i)):=by
 have hGL:ad G []:=ab
 refine fn_x Tryz.func81 Tryz.call81 rfl rfl rfl rfl hGL ?_
 intro C hC
 have hf:=mV (G:=G) i h1
 rw[AR]
 by_cases h:i<10
 ·rw[fO h] at hf
  refine xw1 ?_
  intros
  refine rds hC hGL 2 ?_
  refine xw1 ?_
  intros
  apply ak
  rw[show i/10=0 by omega,show i%10=i by omega]
  rfl
 ·rw[fN (by omega) h1] at hf
  refine xw1 ?_
  intros
  refine rds hC hGL 1 ?_
  exact xw0
theorem jD {G:Glo}(n:Int):FnIs Tryz.prog G 45 [.int .i64 n] (.tuple [.str (zprS n),.int .i64 (zprE n).e]):=by
 have hGL:ad G []:=ab
 refine fn_x Tryz.func45 Tryz.call45 rfl rfl rfl rfl hGL ?_
 intro C hC
 have h1:=fK (G:=G) n
 have k2:=fun(k:Int) (h0:0≤k) (h1:k<100)=>(show FnIs Tryz.prog G 81 [.int .i64 k,.int .i64 10,.int .i64 2] (.str (twoS k)) by obtain⟨i,rfl⟩:=Int.eq_ofNat_of_zero_le h0;exact iw i (by omega))
 have l1:=dZ ((0-n)/60)
 have l2:=dZ ((0-n)%60)
 have l3:=dZ (n/60)
 have l4:=dZ (n%60)
 cases hz:zrB n with
 |false=>
  rw[hz] at h1
  refine xw1 ?_
  intros
  apply ak
  rw[zprS,zprE,hz]
  rfl
 |true=>
  rw[hz] at h1
  have hz2:=sE.1 hz
  refine xw ?_
  repeat' (first|exact Le.n|refine Lc.mk ?_ ?_)
  all_goals intros
  ·apply ak
   rw[zprS,zprE,hz,if_pos rfl,if_pos (by omega)]
   rfl
  ·apply ak
   rw[zprS,zprE,hz,if_pos rfl,if_neg (by omega),if_pos (by omega)]
   rfl
  ·apply ak
   rw[zprS,zprE,hz,if_pos rfl,if_neg (by omega),if_neg (by omega)]
   rfl
end
section
open Go Go.RowKit
def tlB (n:Int):Bool:=decide (n≠ -1)
theorem gY {n:Int}:tlB n=true↔n≠ -1:=by simp[tlB]
theorem xU {n:Int}:tlB n=false↔n= -1:=by simp[tlB]
def fmB (b:Bool):UInt8:=if b then 57 else 45
def fmS (a b c:Bool):List UInt8:=[fmB a,fmB b,fmB c]
def whN:Bool→Bool→Bool→Int
 |false,false,false=>0
 |true,false,false=>1
 |true,true,false=>2
 |true,true,true=>3
 |false,true,false=>4
 |false,true,true=>5
 |false,false,true=>6
 |true,false,true=> -1
def dayN (y m:Int):Int:=
 if m<1∨12<m then 0
 else if m=2 then(if y≠ -1∧(y.tmod 4≠0∨y.tmod 100=0∧y.tmod 400≠0) then 28 else 29)
 else if m=4∨m=6∨m=9∨m=11 then 30 else 31
def witB (n lo hi:Int):Bool:=decide (n= -1∨lo≤n∧n≤hi)
theorem nv {n lo hi:Int}:witB n lo hi=true↔(n= -1∨lo≤n∧n≤hi):=by simp[witB]
theorem Fj {n lo hi:Int}:witB n lo hi=false↔¬(n= -1∨lo≤n∧n≤hi):=by simp[witB]
structure Stm where
 y:Int
 m:Int
 d:Int
 h:Int
 i:Int
 s:Int
 z:Bool
 o:Int
def Stm.A (t:Stm):AVal:=.agg [.int .i64 t.y,.int .i64 t.m,.int .i64 t.d,.int .i64 t.h,.int .i64 t.i,.int .i64 t.s,.bool t.z,.int .i64 t.o]
def okN (d t:Int):Bool:=decide (0≤d∧0≤t∧¬(d=0∧t=0)∧(0<d∧0<t→(d=3∨d=5∨d=6)∧t≤3))
def Stm.dn (t:Stm):Int:=whN (tlB t.y) (tlB t.m) (tlB t.d)
def Stm.tn (t:Stm):Int:=whN (tlB t.h) (tlB t.i) (tlB t.s)
def Stm.frm (t:Stm):Bool:=okN t.dn t.tn&&(if t.z then tlB t.h else decide (t.o=0))
def Stm.day (t:Stm):Int:=if t.m= -1 then 31 else dayN t.y t.m
def Stm.rng (t:Stm):Bool:=witB t.y 0 9999&&(witB t.m 1 12&&(witB t.d 1 t.day&&(witB t.h 0 23&&(witB t.i 0 59&&(witB t.s 0 59&&zrB t.o)))))
def Stm.e (t:Stm):Int:=if t.frm then(if t.rng then 0 else 2) else 3
def Stm.E (t:Stm):Err:=if t.frm then(if t.rng then .none else .errno 2) else .errno 3
theorem Stm.E_e (t:Stm):t.E.e=t.e:=by unfold Stm.E Stm.e;(repeat' split)<;>rfl
theorem Stm.E_p (t:Stm):t.E.p= -1:=by unfold Stm.E;(repeat' split)<;>rfl
def eo (n:Int):List UInt8:=aU [48+n/1000,48+n/100%10,48+n/10%10,48+n%10]
def iL (a b c:Bool)(y m d:Int):List UInt8:=match a,b,c with
 |true,false,false=>eo y
 |true,true,false=>(eo y++[45])++twoS m
 |true,true,true=>(eo y++twoS m)++twoS d
 |false,true,false=>[45,45]++twoS m
 |false,true,true=>([45,45]++twoS m)++twoS d
 |false,false,true=>[45,45,45]++twoS d
 |_,_,_=>[]
def gZ (a b c:Bool)(h m s:Int):List UInt8:=match a,b,c with
 |true,false,false=>[84]++twoS h
 |true,true,false=>([84]++twoS h)++twoS m
 |true,true,true=>(([84]++twoS h)++twoS m)++twoS s
 |false,true,false=>([84]++[45])++twoS m
 |false,true,true=>(([84]++[45])++twoS m)++twoS s
 |false,false,true=>(([84]++[45])++[45])++twoS s
 |_,_,_=>[]
def Stm.txt (t:Stm):List UInt8:=iL (tlB t.y) (tlB t.m) (tlB t.d) t.y t.m t.d++gZ (tlB t.h) (tlB t.i) (tlB t.s) t.h t.i t.s++(if t.z then zprS t.o else[])
def Stm.T (t:Stm):List UInt8:=if t.frm then(if t.rng then t.txt else[]) else[]
def ep:List UInt8→List UInt8→List UInt8
 |[],_=>[]
 |c::r,all=>if c=57 then(match all with|x::t=>x::ep r t|[]=>[]) else c::ep r all
end
end Go.Proofs.YtdpbejofgemloaaGreatDoor
