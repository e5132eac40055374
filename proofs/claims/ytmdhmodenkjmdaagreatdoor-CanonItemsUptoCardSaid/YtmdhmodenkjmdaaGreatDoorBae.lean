/- Parts of the proof of canonItems_card. -/
import Derived.Stop.Asserts
import Derived.Shelf.Strings.Builder1
import Derived.Shelf.Strings.Builder2
import Derived.Shelf.Strings.OnBuilder
import Derived.Shelf.Small.Utf8
import Derived.Shelf.Small.Bits
import Derived.Shelf.Small.Strs
import Derived.Shelf.Strings.BuilderF
import Derived.Shelf.Strings.BuilderK
import Derived.Shelf.Strings.BuilderRune
import Derived.Shelf.Utf8.RuneCount
import Derived.Shelf.Strings.Builder2Cap
import Derived.Shelf.Strconv.Atoi
import Derived.Shelf.Strconv.Itoa0
import Derived.Shelf.Strconv.Itoa1
import Derived.Shelf.LaysM
import Derived.Shelf.Strconv.Itoa2
import Derived.Shelf.Strconv.Itoa3
import Derived.Shelf.Strconv.Itoa4
import Derived.Shelf.Strconv.AtoiErrFast
import Derived.Shelf.Strconv.ParseIntEmpty
import Derived.Shelf.Strconv.AtoiFail
import Derived.Shelf.Strconv.Clone
import Derived.Shelf.Strconv.SyntaxError
import Derived.Shelf.LaysC
import Derived.Shelf.Strconv.ToError
import Derived.Shelf.Strconv.AtoiErr
import Derived.Shelf.Strconv.Lower
import Derived.Shelf.Strconv.ParseUint10
import Derived.Shelf.Strconv.ParseUint10Empty
import Derived.Shelf.Strconv.ParseUint10Any
import Derived.Shelf.Strconv.ParseInt10
import Derived.Shelf.Strconv.AtoiLong
import Derived.Shelf.Strconv.AtoiInnerAll
import Derived.Shelf.Strconv.RangeError
import Derived.Shelf.Strconv.ToErrorRange
import Derived.Shelf.Strconv.AtoiAll
import Derived.Shelf.Strconv.ErrVarAll
import Derived.Shelf.Strconv.ParseUintEmpty
import Derived.Shelf.Strings.Search1
import Derived.Shelf.Strings.Search2
import Derived.Shelf.Strings.Search3
import Derived.Shelf.Strings.Cut
import Derived.Shelf.Strings.Count
import Derived.Shelf.Strings.Shaped
import Derived.Shelf.Sort.Plain
import Derived.Ground.GgsProg
import Derived.Shelf.GgSortFunc.Insertion
import Derived.Shelf.GgSortFunc.Tiny
import Derived.Shelf.GgSortFunc.Compose
import Derived.Ground.GgtProg
import Derived.Shelf.GgSortMore.Stable
import Derived.Shelf.Strings.Prefix
import Derived.Shelf.Strings.Split
import Derived.Shelf.Strings.Fields
import Derived.Shelf.Strings.SplitShaped
import Derived.Shelf.Unicode.Latin
import Derived.Shelf.Unicode.Decode
import Derived.Shelf.Strings.Runes
import Derived.Shelf.Strings.RuneCount
import Derived.Shelf.Strings.IndexAny
import Derived.Shelf.Strings.AsciiSet
import Derived.Shelf.Strings.IndexAnyAll
import Derived.Shelf.Strings.Explode
import Derived.Shelf.Unicode.DecodeSlow
import Derived.Shelf.Unicode.DecodeAny
import Derived.Shelf.Unicode.Is16White
import Derived.Shelf.Unicode.IsSpaceAny
import Derived.Shelf.Unicode.CaseLookup
import Derived.Shelf.Unicode.CaseConvert
import Derived.Shelf.Unicode.CaseTo
import Derived.Shelf.Unicode.CaseLaid
import Derived.Shelf.Strings.MapAny
import Derived.Shelf.Unicode.Is16Any
import Derived.Shelf.Unicode.Is32Any
import Derived.Shelf.Unicode.ExclAny
import Derived.Shelf.Strings.BuilderCap
import Derived.Shelf.Strings.MapGrows
import Derived.Shelf.Slices.CompactS
import Derived.Test.YtmdhmodenkjmdaaGreatDoorBad
set_option linter.unusedVariables false
set_option linter.unusedSimpArgs false
set_option linter.unusedSectionVars false
namespace Go.Proofs.YtmdhmodenkjmdaaGreatDoor
open Tryz
set_option maxRecDepth 20000
set_option maxHeartbeats 4000000
section
open Go
structure Lf (Q:Prop):Prop where
 h:Q
structure Lc (a b:Prop):Prop where
 l:a
 r:b
inductive Le:Prop
 |n
inductive Lz:Prop->Prop
 |n:Lz Le
 |c {a b:Prop}:Lz b->Lz (Lc a b)
theorem Lf.l {a b:Prop}(q:Lf (Lc a b)):a:=q.h.l
theorem Lf.r {a b:Prop}(q:Lf (Lc a b)):Lf b:=⟨q.h.r⟩
structure Ct (I:Env) (J:Heap) (p:Prop) (e:Env) (h:Heap):Prop where
 p:p
 s:Env.sub e I
 j:h=J
theorem Ct.w {I:Env}{J:Heap}{p:Prop}{e:Env}{h:Heap}(hp:p:=by first|exact True.intro|assumption|omega)(hs:Env.sub e I:=by repeat (first|exact trivial|refine And.intro rfl ?_))(hj:h=J:=by rfl):Ct I J p e h:=⟨hp,hs,hj⟩
structure Cy {X:Type} (I:X->Env) (J:X->Heap) (Inv:X->Prop) (e:Env) (h:Heap):Prop where
 h:∃x,Inv x/\Env.sub e (I x)/\h=J x
theorem cy {X:Type}{I:X->Env}{J:X->Heap}{Inv:X->Prop}{e:Env}{h:Heap}(x:X)(hp:Inv x)(hs:Env.sub e (I x):=by repeat (first|exact trivial|refine And.intro rfl ?_))(hj:h=J x:=by rfl):Cy I J Inv e h:=⟨⟨x,hp,hs,hj⟩⟩
section
variable {P:Program} [Tab P] {C:Ctx} {n:Nat} {G:Glo} {GL:List (Nat×List AVal)} {env:Env} {H:Heap} {Q:aK->Env->Heap->Prop}
theorem My {f:FuncId}{fn:Func}{c:Code}{avs:List AVal}{Qf:cK->Heap->Prop}{rs:List ResultVar}(hf:P.funcs[f]? =some fn)
  (hc:∀args w,(callFunc f args).run P w= .ok (.enter f args) w) (hb:fn.body=some c) (hn:fn.ntmps=n) (hrs:fn.results=rs.toArray) (hlen:Nat.ble avs.length n=true)
  (h:∀C:Ctx,C.G=G->bI P C n c (d8 0 avs) H (sA P rs Qf)):ad P G f avs H Qf:=
 nA hf hb hc hn hrs hlen λw0 R0 hG=>(h ⟨w0,R0,dk H,G,hG,[]⟩ rfl).mono λ_ _ _ q=>ir q
theorem jZ {f:FuncId}{fn:Func}{c:Code}{avs:List AVal}{Qf:cK->Heap->Prop}{rs:List ResultVar}(hf:P.funcs[f]? =some fn)(hc:∀args w,(callFunc f args).run P w= .ok (.enter f args) w)
  (h:∀C:Ctx,C.G=G->ab G []->bI P C n c (d8 0 avs) H (sA P rs Qf)) (hb:fn.body=some c:=by exact rfl) (hn:fn.ntmps=n:=by exact rfl) (hrs:fn.results=rs.toArray:=by exact rfl) (hlen:Nat.ble avs.length n=true:=by exact rfl):ad P G f avs H Qf:=
 My hf hc hb hn hrs hlen λC hC=>h C hC aD
theorem aI {c:Code}(hC:C.G=G)(hGL:ab G GL)(h:eQ P C n G GL c env H Q):bI P C n c env H Q:=co hC hGL _ _ _ _ h
theorem ka {a b:Code}{X:Type}(hC:C.G=G)(hGL:ab G GL)(I:X->Env)(J:X->Heap)(Inv:X->Prop)(h1:eQ P C n G GL a env H (eM (λe h=>Cy I J Inv e h) Q))(h2:∀x,Inv x->bI P C n b (I x) (J x) Q):bI P C n (.seq a b) env H Q:=
 dZ ((co hC hGL _ _ _ _ h1).mono λx e h q=>by
  cases x with
  |normal=>
   obtain⟨y,hy,hs,rfl⟩:=q.h;exact Iu hs (h2 y hy)
  |exit i=>exact q
  |goto i=>exact q
  |ret=>exact q
  |panic v=>exact q)
theorem cut {a b:Code}(hC:C.G=G)(hGL:ab G GL)(I:Env)(J:Heap)(p:Prop)(h1:eQ P C n G GL a env H (eM (λe h=>Ct I J p e h) Q))(h2:p->bI P C n b I J Q):bI P C n (.seq a b) env H Q:=
 dZ ((co hC hGL _ _ _ _ h1).mono λx e h q=>by
  cases x with
  |normal=>
   obtain⟨hp,hs,rfl⟩:=q;exact Iu hs (h2 hp)
  |exit i=>exact q
  |goto i=>exact q
  |ret=>exact q
  |panic v=>exact q)
end
theorem bK {P:Prop}(h:P:=by
  repeat' (first
   |(conv=>whnf);first
    |refine .w ?_|refine .v ?_|apply e8|apply dU
    |(first|apply m5|apply jz|apply m6|apply jB|apply jA|apply gm|apply jy|apply gk)<;>(intro wb;try exact dd wb)
    |apply au|apply aM|(apply a6<;>intro wb)
    |(apply ba;intro wb)|(apply nu;assumption;exact rfl)
    |(apply aJ;first|assumption|(apply k1<;>omega)|(apply k2<;>omega)|(apply k3<;>omega))|(apply ax (i:=0) rfl;assumption)|(apply ax (i:=1) rfl;assumption)|(apply ax (i:=2) rfl;assumption)
    |(apply bc;intro wl)|(apply bh;intro wa wk wc wh)|(apply bg;intro wv)|(apply bj;intro wl wq wb)
    |apply bx|(apply bf<;>intro wb)|(apply Ia.hit;assumption)|(apply Ia.miss;assumption)
    |(apply aj;exact rfl)|(show Rt _ _ _;exact a7)|(show Ct _ _ _ _ _;exact Ct.w)|(apply iv;assumption)
    |exact True.intro|(apply cW;intro wC whC)|apply cV|apply cT|(apply cU;exact rfl)|apply ct mixed whC hGL (by kernel_rfl)|apply ct mixed hC hGL (by kernel_rfl)|(apply cq;assumption;(first|assumption|(apply k1<;>omega)|(apply k2<;>omega));exact rfl))
  all_goals (try conv=>whnf)):P:=h
theorem aZ {P Q:Prop}(hQ:Q)(h:Lf Q->P:=by
  intro ww;repeat' (first
   |(conv=>whnf);first
    |refine .w ?_|refine .v ?_|apply e8|apply dU
    |(first|apply m5|apply jz|apply m6|apply jB|apply jA|apply gm|apply jy|apply gk)<;>(intro wb;try exact dd wb)
    |apply au|apply aM|(apply a6<;>intro wb)
    |(apply ba;intro wb)|(apply nu;assumption;exact rfl)
    |(apply aJ;first|assumption|(apply k1<;>omega)|(apply k2<;>omega)|(apply k3<;>omega))|(apply ax (i:=0) rfl;assumption)|(apply ax (i:=1) rfl;assumption)|(apply ax (i:=2) rfl;assumption)
    |(apply bc;intro wl)|(apply bh;intro wa wk wc wh)|(apply bg;intro wv)|(apply bj;intro wl wq wb)
    |apply bx|(apply bf<;>intro wb)|(apply Ia.hit;assumption)|(apply Ia.miss;assumption)
    |(apply aj;exact rfl)|(show Rt _ _ _;exact a7)|(show Ct _ _ _ _ _;exact Ct.w)|(apply iv;assumption)
    |exact True.intro|(apply cW;intro wC whC)|apply cV|apply cT|(apply cU;exact rfl)|apply ct mixed whC hGL (by kernel_rfl)|apply ct mixed hC hGL (by kernel_rfl)|(apply cq;assumption;(first|assumption|(apply k1<;>omega)|(apply k2<;>omega));exact rfl))
  all_goals (try conv=>whnf)
  all_goals (repeat (first|revert wb|revert wh|revert wc|revert wk|revert wa|revert wq|revert wl|revert wv|revert whC|revert wC))
  all_goals (apply Lf.h;apply ww)):P:=h ⟨hQ⟩
theorem xw {P Q:Prop}(hQ:Q)(h:Lf Q->P:=by
  intro ww;repeat' (first
   |(conv=>whnf);first
    |refine .w ?_|refine .v ?_|apply e8|apply dU
    |(first|apply m5|apply jz|apply m6|apply jB|apply jA|apply gm|apply jy|apply gk)<;>(intro wb;try exact dd wb)
    |apply au|apply aM|(apply a6<;>intro wb)
    |(apply ba;intro wb)|(apply nu;assumption;exact rfl)
    |(apply aJ;first|assumption|(apply k1<;>omega)|(apply k2<;>omega)|(apply k3<;>omega))|(apply ax (i:=0) rfl;assumption)|(apply ax (i:=1) rfl;assumption)|(apply ax (i:=2) rfl;assumption)
    |(apply bc;intro wl)|(apply bh;intro wa wk wc wh)|(apply bg;intro wv)|(apply bj;intro wl wq wb)
    |apply bx|(apply bf<;>intro wb)|(apply Ia.hit;assumption)|(apply Ia.miss;assumption)
    |(apply aj;exact rfl)|(show Rt _ _ _;exact a7)|(show Ct _ _ _ _ _;exact Ct.w)|(apply iv;assumption)
    |exact True.intro|(apply cW;intro wC whC)|apply cV|apply cT|(apply cU;exact rfl)|apply ct mixed whC hGL (by kernel_rfl)|apply ct mixed hC hGL (by kernel_rfl)|(apply cq;assumption;(first|assumption|(apply k1<;>omega)|(apply k2<;>omega));exact rfl))
  all_goals (try conv=>whnf)
  all_goals (repeat (first|revert wb|revert wh|revert wc|revert wk|revert wa|revert wq|revert wl|revert wv|revert whC|revert wC))
  all_goals (apply Lf.l;with_reducible (repeat (first|apply ww|apply Lf.r)))) (e:Lz Q:=by repeat (first|exact Lz.n|apply Lz.c)):P:=h ⟨hQ⟩
theorem ez {P:Prop}(h:P:=by
  repeat' (first
   |(conv=>whnf);first
    |refine .w ?_|refine .v ?_|apply e8|apply dU
    |(first|apply m5|apply jz|apply m6|apply jB|apply jA|apply gm|apply jy|apply gk)<;>(intro wb;try exact dd wb)
    |apply au|apply aM|(apply a6<;>intro wb)
    |(apply ba;intro wb)|(apply nu;assumption;exact rfl)
    |(apply aJ;first|assumption|(apply k1<;>omega)|(apply k2<;>omega)|(apply k3<;>omega))|(apply ax (i:=0) rfl;assumption)|(apply ax (i:=1) rfl;assumption)|(apply ax (i:=2) rfl;assumption)
    |(apply bc;intro wl)|(apply bh;intro wa wk wc wh)|(apply bg;intro wv)|(apply bj;intro wl wq wb)
    |apply bx|(apply bf<;>intro wb)|(apply Ia.hit;assumption)|(apply Ia.miss;assumption)
    |(apply aj;exact rfl)|(show Rt _ _ _;exact a7)|(show Ct _ _ _ _ _;exact Ct.w)|(apply iv;assumption)
    |exact True.intro|(apply cW;intro wC whC)|apply cV|apply cT|(apply cU;exact rfl))
  all_goals (try conv=>whnf)):P:=h
theorem aT {P Q:Prop}(hQ:Q)(h:Lf Q->P:=by
  intro ww;repeat' (first
   |(conv=>whnf);first
    |refine .w ?_|refine .v ?_|apply e8|apply dU
    |(first|apply m5|apply jz|apply m6|apply jB|apply jA|apply gm|apply jy|apply gk)<;>(intro wb;try exact dd wb)
    |apply au|apply aM|(apply a6<;>intro wb)
    |(apply ba;intro wb)|(apply nu;assumption;exact rfl)
    |(apply aJ;first|assumption|(apply k1<;>omega)|(apply k2<;>omega)|(apply k3<;>omega))|(apply ax (i:=0) rfl;assumption)|(apply ax (i:=1) rfl;assumption)|(apply ax (i:=2) rfl;assumption)
    |(apply bc;intro wl)|(apply bh;intro wa wk wc wh)|(apply bg;intro wv)|(apply bj;intro wl wq wb)
    |apply bx|(apply bf<;>intro wb)|(apply Ia.hit;assumption)|(apply Ia.miss;assumption)
    |(apply aj;exact rfl)|(show Rt _ _ _;exact a7)|(show Ct _ _ _ _ _;exact Ct.w)|(apply iv;assumption)
    |exact True.intro|(apply cW;intro wC whC)|apply cV|apply cT|(apply cU;exact rfl))
  all_goals (try conv=>whnf)
  all_goals (repeat (first|revert wb|revert wh|revert wc|revert wk|revert wa|revert wq|revert wl|revert wv|revert whC|revert wC))
  all_goals (apply Lf.h;apply ww)):P:=h ⟨hQ⟩
theorem xn {P Q:Prop}(hQ:Q)(h:Lf Q->P:=by
  intro ww;repeat' (first
   |(conv=>whnf);first
    |refine .w ?_|refine .v ?_|apply e8|apply dU
    |(first|apply m5|apply jz|apply m6|apply jB|apply jA|apply gm|apply jy|apply gk)<;>(intro wb;try exact dd wb)
    |apply au|apply aM|(apply a6<;>intro wb)
    |(apply ba;intro wb)|(apply nu;assumption;exact rfl)
    |(apply aJ;first|assumption|(apply k1<;>omega)|(apply k2<;>omega)|(apply k3<;>omega))|(apply ax (i:=0) rfl;assumption)|(apply ax (i:=1) rfl;assumption)|(apply ax (i:=2) rfl;assumption)
    |(apply bc;intro wl)|(apply bh;intro wa wk wc wh)|(apply bg;intro wv)|(apply bj;intro wl wq wb)
    |apply bx|(apply bf<;>intro wb)|(apply Ia.hit;assumption)|(apply Ia.miss;assumption)
    |(apply aj;exact rfl)|(show Rt _ _ _;exact a7)|(show Ct _ _ _ _ _;exact Ct.w)|(apply iv;assumption)
    |exact True.intro|(apply cW;intro wC whC)|apply cV|apply cT|(apply cU;exact rfl))
  all_goals (try conv=>whnf)
  all_goals (repeat (first|revert wb|revert wh|revert wc|revert wk|revert wa|revert wq|revert wl|revert wv|revert whC|revert wC))
  all_goals (apply Lf.l;with_reducible (repeat (first|apply ww|apply Lf.r)))) (e:Lz Q:=by repeat (first|exact Lz.n|apply Lz.c)):P:=h ⟨hQ⟩
theorem Oq {P Q:Prop}(hQ:Q)(h:Lf Q->P:=by
  intro ww;repeat' (first
   |(conv=>whnf);first
    |refine .w ?_|refine .v ?_|apply e8|apply dU
    |(first|apply m5|apply jz|apply m6|apply jB|apply jA|apply gm|apply jy|apply gk)<;>(intro wb;try exact dd wb)
    |apply au|apply aM|(apply a6<;>intro wb)
    |(apply ba;intro wb)|(apply nu;assumption;exact rfl)
    |(apply aJ;first|assumption|(apply k1<;>omega)|(apply k2<;>omega)|(apply k3<;>omega))|(apply ax (i:=0) rfl;assumption)|(apply ax (i:=1) rfl;assumption)|(apply ax (i:=2) rfl;assumption)
    |(apply bc;intro wl)|(apply bh;intro wa wk wc wh)|(apply bg;intro wv)|(apply bj;intro wl wq wb)
    |apply BU|(apply bf<;>intro wb)|(apply Ia.hit;assumption)|(apply Ia.miss;assumption)
    |(apply aj;exact rfl)|(show Rt _ _ _;exact a7)|(show Ct _ _ _ _ _;exact Ct.w)|(apply iv;assumption)
    |exact True.intro|(apply cW;intro wC whC)|apply cV|apply cT|(apply cU;exact rfl))
  all_goals (try conv=>whnf)
  all_goals (repeat (first|revert wb|revert wh|revert wc|revert wk|revert wa|revert wq|revert wl|revert wv|revert whC|revert wC))
  all_goals (apply Lf.h;apply ww)):P:=h ⟨hQ⟩
theorem xb {P Q:Prop}(hQ:Q)(h:Lf Q->P:=by
  intro ww;repeat' (first
   |(conv=>whnf);first
    |refine .w ?_|refine .v ?_|apply e8|apply dU
    |(first|apply m5|apply jz|apply m6|apply jB|apply jA|apply gm|apply jy|apply gk)<;>(intro wb;try exact dd wb)
    |apply au|apply aM|(apply a6<;>intro wb)
    |(apply ba;intro wb)|(apply nu;assumption;exact rfl)
    |(apply aJ;first|assumption|(apply k1<;>omega)|(apply k2<;>omega)|(apply k3<;>omega))|(apply ax (i:=0) rfl;assumption)|(apply ax (i:=1) rfl;assumption)|(apply ax (i:=2) rfl;assumption)
    |(apply bc;intro wl)|(apply bh;intro wa wk wc wh)|(apply bg;intro wv)|(apply bj;intro wl wq wb)
    |apply BU|(apply bf<;>intro wb)|(apply Ia.hit;assumption)|(apply Ia.miss;assumption)
    |(apply aj;exact rfl)|(show Rt _ _ _;exact a7)|(show Ct _ _ _ _ _;exact Ct.w)|(apply iv;assumption)
    |exact True.intro|(apply cW;intro wC whC)|apply cV|apply cT|(apply cU;exact rfl))
  all_goals (try conv=>whnf)
  all_goals (repeat (first|revert wb|revert wh|revert wc|revert wk|revert wa|revert wq|revert wl|revert wv|revert whC|revert wC))
  all_goals (apply Lf.l;with_reducible (repeat (first|apply ww|apply Lf.r)))) (e:Lz Q:=by repeat (first|exact Lz.n|apply Lz.c)):P:=h ⟨hQ⟩
theorem xu {P:Prop}(h:P:=by
  refine xn ?_;repeat' first|exact .n|apply Lc.mk
  all_goals intros
  all_goals first|exact⟨(),ai,rfl⟩|exact⟨(),ai,aH⟩|exact⟨_,ai,rfl⟩|exact⟨(_,_,_),ai,rfl⟩):P:=h
end
section
open Go Go.Extern
attribute [local irreducible] bI ap aa az aW ab ad
noncomputable def hdl (t:TypeId):Value:=typeHandle prog t
theorem pB (t:Addr)(w:World):(ReflectliteValue.unpack (.iface 173 (.pointer (some t)))).run prog w
  = .ok (.agg #[hdl 173,.pointer (some ⟨w.heap.size,0,none⟩),.int .u64 150]) (w.alloc (.cells #[.pointer (some t)] 173)):=by kernel_rfl
theorem m8 (e:Int)(w:World):(ReflectliteValue.unpack (.iface 34 (.int .i64 e))).run prog w
  = .ok (.agg #[hdl 34,.pointer (some ⟨w.heap.size,0,none⟩),.int .u64 130]) (w.alloc (.cells #[.int .i64 e] 34)):=by kernel_rfl
theorem gn {R:Seal}{a:AVal}{args:Array Value}(h:cJ R [a] args.toList):∃v,args=#[v]/\bD R a v:=by
 obtain⟨x,t,e,hx,rfl⟩:=h;exact⟨x,by cases args;simp_all,hx⟩
theorem mT {R:Seal}{a b:AVal}{args:Array Value}(h:cJ R [a,b] args.toList):∃v u,args=#[v,u]/\bD R a v/\bD R b u:=by
 obtain⟨x,t,e,hx,y,t',e',hy,rfl⟩:=h;exact⟨x,y,by cases args;simp_all,hx,hy⟩
theorem jg {R:Seal}{t:TypeId}{a:AVal}{v:Value}(h:bD R (.iface t a) v):∃u,v= .iface t u/\bD R a u:=by
 obtain⟨u,e,h1,h2⟩:=aR h rfl;simp only[List.cons.injEq,and_true] at e;exact⟨u,e,h1,h2⟩
theorem w9 {G:Glo}(bl:Nat):an prog G 62 [.iface 173 (.raw (.pointer (some ⟨bl,0,none⟩)))]
  (.agg [.raw (hdl 173),.rop [.raw (.pointer (some ⟨bl,0,none⟩))] 0,.int .u64 150]):=by
 refine jY func62 (by kernel_rfl) (by kernel_rfl) (by kernel_rfl) (e:=λargs=>ReflectliteValue.unpack (args.getD 0 (.tuple #[]))) (by kernel_rfl) ?_;intro R args w ha;obtain⟨v,rfl,hv⟩:=gn ha;obtain⟨u,rfl,hu⟩:=jg hv;obtain rfl:=al.1 hu;refine⟨_,_,_,pB _ w,λR' _ hR=>⟨⟨_,_,rfl,rfl,_,_,rfl,?_,_,_,rfl,rfl,rfl⟩,rfl⟩⟩;exact(eo (R:=R') (cs:=[.raw (.pointer (some ⟨bl,0,none⟩))]) (off:=0) (Nat.le_refl _) ⟨_,_,_,hR,⟨_,_,rfl,rfl,rfl⟩⟩).1
theorem lV {G:Glo}(e:Int):an prog G 62 [.iface 34 (.int .i64 e)]
  (.agg [.raw (hdl 34),.rop [.int .i64 e] 0,.int .u64 130]):=by
 refine jY func62 (by kernel_rfl) (by kernel_rfl) (by kernel_rfl) (e:=λargs=>ReflectliteValue.unpack (args.getD 0 (.tuple #[]))) (by kernel_rfl) ?_;intro R args w ha;obtain⟨v,rfl,hv⟩:=gn ha;obtain⟨u,rfl,hu⟩:=jg hv;obtain rfl:=am.1 hu;refine⟨_,_,_,m8 _ w,λR' _ hR=>⟨⟨_,_,rfl,rfl,_,_,rfl,?_,_,_,rfl,rfl,rfl⟩,rfl⟩⟩;exact(eo (R:=R') (cs:=[.int .i64 e]) (off:=0) (Nat.le_refl _) ⟨_,_,_,hR,⟨_,_,rfl,rfl,rfl⟩⟩).1
noncomputable abbrev rty (t:TypeId):AVal:=.iface 168 (.agg [.raw (hdl t)])
theorem nc {R:Seal}(t:TypeId):bD R (rty t) (.iface 168 (.agg #[hdl t])):=⟨⟨_,rfl,⟨_,_,rfl,rfl,rfl⟩,rfl⟩,rfl⟩
theorem fk {R:Seal}{x:Value}{v:Value}(hx:cm x=false)(h:bD R (.agg [.raw x]) v):v= .agg #[x]:=by
 obtain⟨h1,h2⟩:=h;cases v<;>simp only[AVal.isAgg,cm,Bool.true_eq_false] at h2
 rename_i cs;obtain⟨a,t,e,ha,rfl⟩:=h1;simp only[Value.cells] at e;have ha:[a]=x.cells.toList:=ha;have:x.cells.toList=[x]:=by cases x<;>first|rfl|(simp[cm] at hx)
 rw[this] at ha;simp only[List.cons.injEq,and_true] at ha;subst ha;have:cs=#[a]:=by cases cs;simp_all
 rw[this]
theorem vz {R:Seal}{t:TypeId}{v:Value}(h:bD R (rty t) v):v= .iface 168 (.agg #[hdl t]):=by
 obtain⟨u,rfl,hu⟩:=jg h;rw[fk rfl hu]
theorem nV {R:Seal}{x:Value}{k:IntKind}{n:Int}{c:AVal}{v:Value}(hx:cm x=false)(h:bD R (.agg [.raw x,.rop [c] 0,.int k n]) v):
  ∃b o,v= .agg #[x,.pointer (some ⟨b,o,none⟩),.int k n]/\di R b o [c]:=by
 obtain⟨h1,h2⟩:=h;cases v<;>simp only[AVal.isAgg,cm,Bool.true_eq_false] at h2
 rename_i cs;obtain⟨a,t,e,ha,a',t',e',ha',a'',t'',e'',ha'',rfl⟩:=h1;simp only[Value.cells] at e;have ha:[a]=x.cells.toList:=ha;have hxl:x.cells.toList=[x]:=by cases x<;>first|rfl|(simp[cm] at hx)
 rw[hxl] at ha;simp only[List.cons.injEq,and_true] at ha;subst ha;have ha'':[a'']=[Value.int k n]:=ha'';simp only[List.cons.injEq,and_true] at ha'';subst ha'';obtain⟨b,o,e2,ho,hs⟩:=eA (cC ha' rfl);subst e2;refine⟨b,o,?_,by simpa using hs⟩;have:cs=#[a,.pointer (some ⟨b,o,none⟩),.int k n]:=by cases cs;simp_all
 rw[this]
theorem mS {G:Glo}(e:Int):an prog G 225 [.iface 34 (.int .i64 e)] (rty 34):=by
 refine cH func225 (by kernel_rfl) (by kernel_rfl) (by kernel_rfl) (e:=ReflectliteType.typeOf) (by kernel_rfl) ?_;intro R args ha w;obtain⟨v,rfl,hv⟩:=gn ha;obtain⟨u,rfl,hu⟩:=jg hv;exact⟨.iface 168 (.agg #[hdl 34]),by kernel_rfl,nc _⟩
theorem DB {G:Glo}(a:AVal):an prog G 225 [.iface 123 a] (rty 123):=by
 refine cH func225 (by kernel_rfl) (by kernel_rfl) (by kernel_rfl) (e:=ReflectliteType.typeOf) (by kernel_rfl) ?_;intro R args ha w;obtain⟨v,rfl,hv⟩:=gn ha;obtain⟨u,rfl,hu⟩:=jg hv;exact⟨.iface 168 (.agg #[hdl 123]),by kernel_rfl,nc _⟩
theorem FH {G:Glo}(c:AVal):an prog G 182 [.agg [.raw (hdl 173),.rop [c] 0,.int .u64 150]] (rty 173):=by
 refine cH func182 (by kernel_rfl) (by kernel_rfl) (by kernel_rfl)
  (e:=ReflectliteValue.methodAny (ReflectliteValue.valueError "reflectlite.Value.Type" 0) fun t _ _ _=>ReflectliteType.toType t) (by kernel_rfl) ?_
 intro R args ha w
 obtain⟨v,rfl,hv⟩:=gn ha
 obtain⟨b,o,rfl,_⟩:=nV rfl hv
 exact⟨.iface 168 (.agg #[hdl 173]),by kernel_rfl,nc _⟩
theorem zT {G:Glo}(t:TypeId)(k:Int)(h:∀w,(((ReflectliteType.abiMethod λt=>do pure (.int .u8 (<-Rtype.kind t))) #[hdl t]).run prog w)= .ok (.int .u8 k) w):an prog G 309 [.raw (hdl t)] (.int .u8 k):=by
 refine cH func309 (by kernel_rfl) (by kernel_rfl) (by kernel_rfl)
  (e:=ReflectliteType.abiMethod λt=>do pure (.int .u8 (<-Rtype.kind t))) (by kernel_rfl) ?_
 intro R args ha w;obtain⟨v,rfl,hv⟩:=gn ha;obtain rfl:=al.1 hv;exact⟨.int .u8 k,h w,am.2 rfl⟩
theorem Hf {G:Glo}:an prog G 309 [.raw (hdl 173)] (.int .u8 22):=zT _ _ (λw=>by kernel_rfl)
theorem A8 {G:Glo}:an prog G 309 [.raw (hdl 34)] (.int .u8 2):=zT _ _ (λw=>by kernel_rfl)
theorem HO {G:Glo}:an prog G 319 [.agg [.raw (hdl 173)]] (rty 34):=by
 refine cH func319 (by kernel_rfl) (by kernel_rfl) (by kernel_rfl) (e:=ReflectliteType.method ReflectliteType.elem) (by kernel_rfl) ?_;intro R args ha w;obtain⟨v,rfl,hv⟩:=gn ha;obtain rfl:=fk rfl hv;exact⟨.iface 168 (.agg #[hdl 34]),by kernel_rfl,nc _⟩
theorem oG {G:Glo}:an prog G 320 [.agg [.raw (hdl 34)],rty 38] (.bool true):=by
 refine cH func320 (by kernel_rfl) (by kernel_rfl) (by kernel_rfl) (e:=ReflectliteType.relation "Implements" ReflectliteType.implements_) (by kernel_rfl) ?_
 intro R args ha w
 obtain⟨v,u,rfl,hv,hu⟩:=mT ha
 obtain rfl:=fk rfl hv
 obtain rfl:=vz hu
 exact⟨.bool true,by kernel_rfl,aN.2 rfl⟩
theorem jm {G:Glo}:an prog G 318 [.agg [.raw (hdl 34)],rty 34] (.bool true):=by
 refine cH func318 (by kernel_rfl) (by kernel_rfl) (by kernel_rfl) (e:=ReflectliteType.relation "AssignableTo" ReflectliteType.assignableTo) (by kernel_rfl) ?_
 intro R args ha w
 obtain⟨v,u,rfl,hv,hu⟩:=mT ha
 obtain rfl:=fk rfl hv
 obtain rfl:=vz hu
 exact⟨.bool true,by kernel_rfl,aN.2 rfl⟩
theorem s8 {G:Glo}:an prog G 318 [.agg [.raw (hdl 123)],rty 34] (.bool false):=by
 refine cH func318 (by kernel_rfl) (by kernel_rfl) (by kernel_rfl) (e:=ReflectliteType.relation "AssignableTo" ReflectliteType.assignableTo) (by kernel_rfl) ?_
 intro R args ha w
 obtain⟨v,u,rfl,hv,hu⟩:=mT ha
 obtain rfl:=fk rfl hv
 obtain rfl:=vz hu
 exact⟨.bool false,by kernel_rfl,aN.2 rfl⟩
theorem rlm (z:Sem Value)(f:TypeId->Addr->Nat->Nat->Sem Value)(v:Value):
  ReflectliteValue.method z f #[v]=(do match <-ReflectliteValue.parts v with|none=>z|some (t,a,fl)=>f t a fl (fl%32)):=rfl
theorem tM (a:Addr)(w:World):(ReflectliteValue.parts (.agg #[hdl 173,.pointer (some a),.int .u64 150])).run prog w= .ok (some (173,a,150)) w:=by kernel_rfl
theorem En (a:Addr)(w:World):(ReflectliteValue.parts (.agg #[hdl 34,.pointer (some a),.int .u64 386])).run prog w= .ok (some (34,a,386)) w:=by kernel_rfl
theorem yx (a:Addr)(w:World):(ReflectliteValue.parts (.agg #[hdl 34,.pointer (some a),.int .u64 130])).run prog w= .ok (some (34,a,130)) w:=by kernel_rfl
theorem BD (w:World):(Rtype.elem? 173).run prog w= .ok (some 34) w:=by kernel_rfl
theorem Ma (p:Addr)(w:World):(ReflectliteValue.mk 34 p ReflectliteValue.flagAddr).run prog w= .ok (.agg #[hdl 34,.pointer (some p),.int .u64 386]) w:=by kernel_rfl
theorem EG {G:Glo}(bl:Nat):an prog G 183 [.agg [.raw (hdl 173),.rop [.raw (.pointer (some ⟨bl,0,none⟩))] 0,.int .u64 150]] (.bool false):=by
 refine fG func183 (by kernel_rfl) (by kernel_rfl) (by kernel_rfl) (e:=ReflectliteValue.method (ReflectliteValue.valueError "reflectlite.Value.IsNil" 0) ReflectliteValue.isNil) (by kernel_rfl) ?_
 intro C R args w hm ha
 obtain⟨v,rfl,hv⟩:=gn ha
 obtain⟨b,o,rfl,hs⟩:=nV rfl hv
 obtain⟨u,hu,hr⟩:=hs.cell hm.sealed (i:=0) rfl
 rw[Nat.add_zero] at hu
 have hr:[u]=[Value.pointer (some ⟨bl,0,none⟩)]:=hr
 simp only[List.cons.injEq,and_true] at hr
 subst hr
 refine⟨.bool false,w,R,?_,Seal.le_refl R,aN.2 rfl,hm⟩
 rw[rlm]
 simp only[Sem.run_bind,tM,Result.andThen]
 simp[ReflectliteValue.isNil,loadVar,isAgg,underlying,underlying173,hu,Result.andThen]
theorem uB {G:Glo}(bl:Nat):an prog G 226 [.agg [.raw (hdl 173),.rop [.raw (.pointer (some ⟨bl,0,none⟩))] 0,.int .u64 150]] (.agg [.raw (hdl 34),.raw (.pointer (some ⟨bl,0,none⟩)),.int .u64 386]):=by
 refine fG func226 (by kernel_rfl) (by kernel_rfl) (by kernel_rfl) (e:=ReflectliteValue.method (ReflectliteValue.valueError "reflectlite.Value.Elem" 0) ReflectliteValue.elem) (by kernel_rfl) ?_
 intro C R args w hm ha
 obtain⟨v,rfl,hv⟩:=gn ha
 obtain⟨b,o,rfl,hs⟩:=nV rfl hv
 obtain⟨u,hu,hr⟩:=hs.cell hm.sealed (i:=0) rfl
 rw[Nat.add_zero] at hu
 have hr:[u]=[Value.pointer (some ⟨bl,0,none⟩)]:=hr
 simp only[List.cons.injEq,and_true] at hr
 subst hr
 refine⟨.agg #[hdl 34,.pointer (some ⟨bl,0,none⟩),.int .u64 386],w,R,?_,Seal.le_refl R,⟨⟨_,_,rfl,rfl,_,_,rfl,rfl,_,_,rfl,rfl,rfl⟩,rfl⟩,hm⟩
 rw[rlm]
 simp only[Sem.run_bind,tM,Result.andThen]
 simp[ReflectliteValue.elem,loadVar,isAgg,underlying,underlying173,hu,Result.andThen,BD,Ma]
end
section
open Go Go.Extern
attribute [local irreducible] bI ap aa az aW ab ad
theorem rls (v x:Value):ReflectliteValue.set #[v,x]=(do
  let (some (dst,a,fl),some (src,b,_)):=(←ReflectliteValue.parts v,←ReflectliteValue.parts x)
   |unsupported (.noEntry "extern/(internal/reflectlite.Value).Set.zeroValue")
  if fl/ReflectliteValue.flagAddr%2==0 then unsupported (.noEntry "extern/(internal/reflectlite.Value).Set.unaddressable")
  let val ←loadVar src b
  if ←Rtype.directlyAssignable dst src then storeVar dst a val
  else if ←Rtype.implements dst src then
   if(←Rtype.kind src)==20 then
    match val with
    |.nilIface=>unsupported (.noEntry "extern/reflectlite: a nil value of one interface type handed on as a value of another")
    |_=>storeVar dst a val
   else storeVar dst a (.iface src val)
  else panicString ("reflectlite.Set: value of type " ++(←Rtype.spelt src)++ " is not assignable to type " ++(←Rtype.spelt dst))
  pure (.tuple #[])):=rfl
theorem wu (w:World):(Rtype.directlyAssignable 34 34).run prog w= .ok true w:=by kernel_rfl
theorem II {R:Seal}{x y:Value}{k:IntKind}{n:Int}{v:Value}(hx:cm x=false)(hy:cm y=false)(h:bD R (.agg [.raw x,.raw y,.int k n]) v):v= .agg #[x,y,.int k n]:=by
 obtain⟨h1,h2⟩:=h;cases v<;>simp only[AVal.isAgg,cm,Bool.true_eq_false] at h2
 rename_i cs;obtain⟨a,t,e,ha,a',t',e',ha',a'',t'',e'',ha'',rfl⟩:=h1;simp only[Value.cells] at e
 have key:∀{z:Value},cm z=false->z.cells.toList=[z]:=by intro z hz;cases z<;>first|rfl|(simp[cm] at hz)
 have ha:[a]=x.cells.toList:=ha
 have ha':[a']=y.cells.toList:=ha'
 rw[key hx] at ha
 rw[key hy] at ha'
 have ha'':[a'']=[Value.int k n]:=ha''
 simp only[List.cons.injEq,and_true] at ha ha' ha''
 subst ha ha' ha''
 have:cs=#[a,a',.int k n]:=by cases cs;simp_all
 rw[this]
theorem tB {G:Glo}(bl:Nat)(e old:Int):ad prog G 227 [.agg [.raw (hdl 34),.raw (.pointer (some ⟨bl,0,none⟩)),.int .u64 386],.agg [.raw (hdl 34),.rop [.int .i64 e] 0,.int .u64 130]]
  [.cells bl (some 34) [.int .i64 old]] (λr H=>r= .ret (.tuple [])/\H=[.cells bl (some 34) [.int .i64 e]]):=by
 refine fG func227 (by kernel_rfl) (by kernel_rfl) (by kernel_rfl) (e:=ReflectliteValue.set) (by kernel_rfl) ?_;intro C R args w hm ha;obtain⟨v,u,rfl,hv,hu⟩:=mT ha;obtain rfl:=II rfl rfl hv;obtain⟨b,o,rfl,hs⟩:=nV rfl hu;obtain⟨u,hu,hr⟩:=hs.cell hm.sealed (i:=0) rfl;rw[Nat.add_zero] at hu;have hr:[u]=[Value.int .i64 e]:=hr;simp only[List.cons.injEq,and_true] at hr;subst hr;obtain⟨Cs,el,fz,hb,hl,hfz⟩:=gy hm (i:=0) rfl;have hlen:=ay hl;simp only[Array.length_toList,List.length_cons,List.length_nil] at hlen;obtain⟨w',hst,ho⟩:=cN (P:=prog) [Value.int .i64 e] 0 0 Cs w hb (by simp only[List.length_cons,List.length_nil];omega) hfz.1 (by intro v hv;simp only[List.mem_singleton] at hv;subst hv;exact⟨rfl,λ_=>by simp⟩);refine⟨.tuple #[],w',R,?_,Seal.le_refl R,⟨⟨#[],rfl,rfl⟩,rfl⟩,?_⟩
 ·rw[rls];simp only[Sem.run_bind,En,yx,Result.andThen];simp[ReflectliteValue.flagAddr,loadVar,isAgg,underlying,underlying34,hu,Result.andThen,wu,storeVar,Value.cells];rw[hst]
 ·have hd:Cs.toList.drop (0+0+[Value.int .i64 e].length)=[]:=List.drop_eq_nil_of_le (by simp;omega);refine hm.write (i:=0) rfl rfl ho rfl ⟨_,_,_,ho.at_,?_,?_⟩
  ·rw[hd];exact⟨_,_,rfl,rfl,rfl⟩
  ·rw[hd];have:Cs.size=1:=by omega
   rw[this] at hfz;exact hfz
section
variable (t:TypeId)
theorem G6:∀R v,bD R (.agg [.raw (hdl t)]) v→∀w,∃u,(Go.method (prog.types.size+Made.depth) 168 v "Kind").run prog w= .ok (309,u) w∧bD R (.raw (hdl t)) u:=by
 intro R v h w
 obtain rfl:=fk rfl h
 exact⟨hdl t,by kernel_rfl,al.2 rfl⟩
theorem Md:∀R v,bD R (.agg [.raw (hdl t)]) v→∀w,∃u,(Go.method (prog.types.size+Made.depth) 168 v "Elem").run prog w= .ok (319,u) w∧bD R (.agg [.raw (hdl t)]) u:=by
 intro R v h w
 obtain rfl:=fk rfl h
 exact⟨.agg #[hdl t],by kernel_rfl,h⟩
theorem Mc:∀R v,bD R (.agg [.raw (hdl t)]) v→∀w,∃u,(Go.method (prog.types.size+Made.depth) 168 v "Implements").run prog w= .ok (320,u) w∧bD R (.agg [.raw (hdl t)]) u:=by
 intro R v h w
 obtain rfl:=fk rfl h
 exact⟨.agg #[hdl t],by kernel_rfl,h⟩
theorem A4:∀R v,bD R (.agg [.raw (hdl t)]) v→∀w,∃u,(Go.method (prog.types.size+Made.depth) 168 v "AssignableTo").run prog w= .ok (318,u) w∧bD R (.agg [.raw (hdl t)]) u:=by
 intro R v h w
 obtain rfl:=fk rfl h
 exact⟨.agg #[hdl t],by kernel_rfl,h⟩
end
theorem G5 (a:AVal):∀R v,bD R a v→∀w,∃u,(Go.method (prog.types.size+Made.depth) 123 v "Unwrap").run prog w= .ok (316,u) w∧bD R a u:=by
 intro R v h w
 exact⟨v,by kernel_rfl,h⟩
theorem JS:∀v w,(Instr.typeAssert (.iface 123 v) 38 285 true).run prog w= .ok (.tuple #[.nilIface,.bool false]) w:=λv w=>run_typeAssert_lacksB (z:=.nilIface) underlying285 (by kernel_rfl) (by kernel_rfl) v _ w
theorem y6:∀v w,(Instr.typeAssert (.iface 123 v) 38 127 true).run prog w= .ok (.tuple #[.iface 123 v,.bool true]) w:=by intro v w;kernel_rfl
theorem rJ:∀v w,(Instr.typeAssert (.iface 34 v) 38 127 true).run prog w= .ok (.tuple #[.nilIface,.bool false]) w:=λv w=>run_typeAssert_lacksB (z:=.nilIface) underlying127 (by kernel_rfl) (by kernel_rfl) v _ w
abbrev kS (e:Int):AVal:=.iface 34 (.int .i64 e)
abbrev K7 (e p:Int):AVal:=.iface 123 (.rop [.int .i64 e,.int .i64 p] 0)
noncomputable abbrev Ly (bl:Nat):AVal:=.agg [.raw (hdl 173),.rop [.raw (.pointer (some ⟨bl,0,none⟩))] 0,.int .u64 150]
abbrev IY (bl:Nat):AVal:=.iface 173 (.raw (.pointer (some ⟨bl,0,none⟩)))
theorem Fv {G:Glo}(e p:Int):an prog G 316 [.rop [.int .i64 e,.int .i64 p] 0] (kS e):=by
 refine aw func316 call316 λC hC hGL=> ?_;exact bK
theorem gh {G:Glo}(bl:Nat)(e old:Int):ad prog G 184 [kS e,IY bl,Ly bl,rty 34] [.cells bl (some 34) [.int .i64 old]] (λr H=>r= .ret (.bool true)/\H=[.cells bl (some 34) [.int .i64 e]]):=by
 refine aw func184 call184 λC hC hGL=> ?_;have h1:=mS (G:=G) e;have h2:=uB (G:=G) bl;have h3:=lV (G:=G) e;have h4:=tB (G:=G) bl e old;have h5:=jm (G:=G);have m1:=A4 34;refine aZ ?_;intros;refine ja hC hGL 1 ?_;exact bK
theorem jO {G:Glo}(bl:Nat)(e p old:Int):ad prog G 184 [K7 e p,IY bl,Ly bl,rty 34] [.cells bl (some 34) [.int .i64 old]] (λr H=>r= .ret (.bool true)/\H=[.cells bl (some 34) [.int .i64 e]]):=by
 refine aw func184 call184 λC hC hGL=> ?_;have h1:=mS (G:=G) e;have h2:=uB (G:=G) bl;have h3:=lV (G:=G) e;have h4:=tB (G:=G) bl e old;have h5:=jm (G:=G);have h6:=s8 (G:=G);have h7:=DB (G:=G) (.rop [.int .i64 e,.int .i64 p] 0);have h8:=Fv (G:=G) e p;have m1:=A4 34;have m2:=A4 123;have m3:=G5 (.rop [.int .i64 e,.int .i64 p] 0);have i1:=JS;have i2:=y6;refine aZ ?_;intros;refine ja hC hGL 2 ?_;exact bK
noncomputable abbrev errTy:List (Nat×List AVal):=[(3,[rty 38])]
theorem gA {G:Glo}(hGL:ab G errTy)(bl:Nat)(e:Int){ty:TypeId}{a:AVal}(hs:ad prog G 184 [.iface ty (iO a),IY bl,Ly bl,rty 34] [.cells bl (some 34) [.int .i64 0]] (λr H=>r= .ret (.bool true)/\H=[.cells bl (some 34) [.int .i64 e]])):
  ad prog G 121 [.iface ty a,IY bl] [.cells bl (some 34) [.int .i64 0]] (λr H=>r= .ret (.bool true)/\H=[.cells bl (some 34) [.int .i64 e]]):=by
 refine pK func121 call121 rfl rfl rfl rfl hGL ?_;intro C hC;have h1:=w9 (G:=G) bl;have h2:=FH (G:=G) (.raw (.pointer (some ⟨bl,0,none⟩)));have h3:=EG (G:=G) bl;have h4:=Hf (G:=G);have h5:=HO (G:=G);have h6:=A8 (G:=G);have h7:=oG (G:=G);have m1:=G6 173;have m2:=Md 173;have m3:=G6 34;have m4:=Mc 34;exact bK
theorem nS {G:Glo}:an prog G 66 [.raw .nilIface] (.int .i64 0):=by
 refine aw func66 call66 λC hC hGL=> ?_;exact bK
theorem k6 {G:Glo}(hGL:ab G errTy)(e:Int):an prog G 66 [kS e] (.int .i64 e):=by
 refine pK func66 call66 rfl rfl rfl rfl hGL ?_;intro C hC;repeat' (first|(conv=>whnf);first|refine .w ?_|refine .v ?_|refine bu ?_ ?_<;>(intro hb;try exact dd hb)|apply au|apply aM|(apply a6<;>intro hb)|(apply ba;intro hbd)|(apply aJ;first|exact gA hGL _ e (gh _ e 0))|(apply ax (i:=0) rfl;first|exact gA hGL _ e (gh _ e 0))|(apply bc;intro bl)|(apply bh;intro va vk vc hva)|(apply bg;intro v)|(apply bj;intro bl cap hcap)|apply bx|(apply bf<;>intro hnx)|apply ct mixed hC hGL (by kernel_rfl)|(apply cq;assumption;(first|exact gA hGL _ e (gh _ e 0));exact rfl)|(show Rt _ _ _;exact a7)|fail)
 all_goals try conv=>whnf
theorem po {G:Glo}(hGL:ab G errTy)(e p:Int):an prog G 66 [K7 e p] (.int .i64 e):=by
 refine pK func66 call66 rfl rfl rfl rfl hGL ?_;intro C hC;repeat' (first|(conv=>whnf);first|refine .w ?_|refine .v ?_|refine bu ?_ ?_<;>(intro hb;try exact dd hb)|apply au|apply aM|(apply a6<;>intro hb)|(apply ba;intro hbd)|(apply aJ;first|exact gA hGL _ e (jO _ e p 0))|(apply ax (i:=0) rfl;first|exact gA hGL _ e (jO _ e p 0))|(apply bc;intro bl)|(apply bh;intro va vk vc hva)|(apply bg;intro v)|(apply bj;intro bl cap hcap)|apply bx|(apply bf<;>intro hnx)|apply ct mixed hC hGL (by kernel_rfl)|(apply cq;assumption;(first|exact gA hGL _ e (jO _ e p 0));exact rfl)|(show Rt _ _ _;exact a7)|fail)
 all_goals try conv=>whnf
inductive Err
 |none
 |errno (e:Int)
 |at (e p:Int)
def Err.A:Err->AVal
 |.none=>.raw .nilIface
 |.errno e=>kS e
 |.at e p=>K7 e p
def Err.e:Err->Int
 |.none=>0
 |.errno e=>e
 |.at e _=>e
def Err.p:Err->Int
 |.none=> -1
 |.errno _=> -1
 |.at _ p=>p
theorem sq {G:Glo}(hGL:ab G errTy)(x:Err):an prog G 66 [x.A] (.int .i64 x.e):=by
 cases x with
 |none=>exact nS
 |errno e=>exact k6 hGL e
 | «at» e p=>exact po hGL e p
theorem pG {G:Glo}:an prog G 28 [.raw .nilIface] (.tuple [.int .i64 0,.int .i64 (-1)]):=by
 refine aw func28 call28 λC hC hGL=> ?_;have k1:=nS (G:=G);refine aZ ?_;intros
 refine ja hC hGL 1 ?_
 exact bK
theorem nh {G:Glo}(hGL:ab G errTy)(e:Int):an prog G 28 [kS e] (.tuple [.int .i64 e,.int .i64 (-1)]):=by
 refine pK func28 call28 rfl rfl rfl rfl hGL ?_;intro C hC;have i1:=rJ;have k1:=k6 hGL e;refine aZ ?_;intros;refine ja hC hGL 1 ?_;exact bK
theorem qZ {G:Glo}(hGL:ab G errTy)(e p:Int):an prog G 28 [K7 e p] (.tuple [.int .i64 e,.int .i64 p]):=by
 refine pK func28 call28 rfl rfl rfl rfl hGL ?_;intro C hC;have k1:=po hGL e p;refine aZ ?_;intros;refine ja hC hGL 1 ?_;exact bK
theorem yw {G:Glo}(hGL:ab G errTy)(x:Err):an prog G 28 [x.A] (.tuple [.int .i64 x.e,.int .i64 x.p]):=by
 cases x with
 |none=>exact pG
 |errno e=>exact nh hGL e
 | «at» e p=>exact qZ hGL e p
theorem Hc {G:Glo}(hGL:ab G errTy)(x:Err)(e:Int):an prog G 8 [x.A,.int .i64 e] (.bool (cY x.e e&&cY x.p (-1))):=by
 have hP:=yw hGL x;cases x;all_goals (
  refine pK func8 call8 rfl rfl rfl rfl hGL ?_;intro C hC;refine xw ?_;repeat' first|exact .n|apply Lc.mk
  all_goals intros
  all_goals (rename_i hb;apply aj;refine congrArg AVal.bool ?_;first|(rw[fh.2 hb,Bool.true_and];done)|(rw[rQ.2 hb];rfl)|(rw[fh.2 hb,Bool.true_and];rfl)))
end
section
open Go
theorem bU {s:List UInt8}{j:Nat}(h:j<s.length):aa s j=s[j].toNat:=by
 simp[aa,List.getD,h]
theorem ip {s:List UInt8}{n j:Nat}(h:j<n):aa (s.take n) j=aa s j:=by
 unfold aa;simp[List.getD,List.getElem?_take,h]
attribute [local irreducible] bI ap aa az aW ab ad
theorem kA {G:Glo}(e:Int):an prog G 68 [.int .i64 e] (.agg [.int .i64 e,.int .i64 (-1)]):=by
 refine aw func68 call68 λC hC hGL=> ?_;exact bK
theorem i7 {G:Glo}:an prog G 58 [] (.agg [.int .i64 0,.int .i64 (-1)]):=by
 refine aw func58 call58 λC hC hGL=> ?_;exact bK
theorem tl (x:Err):iO x.A=x.A:=by cases x<;>rfl
theorem Km {G:Glo}(hU2:ab G errTy)(x:Err)(h:x.p= -1):an prog G 8 [x.A,.int .i64 x.e] (.bool true):=by
 have:=Hc hU2 x x.e;rwa [h,fh.2 rfl,fh.2 rfl] at this
end
section
open Go
attribute [local irreducible] bI ap aa az aW ab ad
theorem Bz {s t:List UInt8}(h:t.length=s.length)(hb:∀j,j<s.length->aa t j=aa s j):t=s:=by
 apply List.ext_getElem h;intro i h1 h2;have:=hb i h2;simp only[aa,List.getD,List.getElem?_eq_getElem h1,List.getElem?_eq_getElem h2,Option.getD_some] at this;exact UInt8.toNat_inj.1 this
def dm (low high by_:Int)(c:Nat):Int:=if low<=c/\(c:Int)<=high then c+by_ else c
def ao (low high by_:Int)(s:List UInt8):List UInt8:=s.map λc=>UInt8.ofNat (dm low high by_ c.toNat).toNat
theorem zF {low high by_:Int}(h1:0<=low+by_)(h2:high+by_<=255){s:List UInt8}{j:Nat}(h:j<s.length):(aa (ao low high by_ s) j:Int)=dm low high by_ (aa s j):=by
 have e:(aa (ao low high by_ s) j)=(UInt8.ofNat (dm low high by_ s[j].toNat).toNat).toNat:=by
  simp[aa,ao,List.getD,h]
 have e2:aa s j=s[j].toNat:=by simp[aa,List.getD,h]
 rw[e,e2,UInt8.toNat_ofNat'];have:=UInt8.toNat_lt s[j];unfold dm;split<;>omega
def iI (low high by_:Int)(s:List UInt8)(x:Nat×List UInt8):Prop:=
 x.1<=s.length/\x.2.length=s.length/\∀j,j<s.length->(aa x.2 j:Int)=if j<x.1 then dm low high by_ (aa s j) else aa s j
theorem qp {low high by_:Int}{s:List UInt8}:iI low high by_ s (0,s):=⟨Nat.zero_le _,rfl,λj _=>by rw[if_neg (by simp)]⟩
theorem gu {low high by_:Int}{s:List UInt8}{i:Nat}{t:List UInt8}(h:iI low high by_ s (i,t))(hi:i<s.length):aa t i=aa s i:=by
 have:=h.2.2 i hi;rw[if_neg (by simp)] at this;exact Int.ofNat.inj this
theorem mr {low high by_:Int}{s:List UInt8}{i:Nat}{t:List UInt8}(h:iI low high by_ s (i,t))(hi:i<s.length){m:Int}(hm:m=dm low high by_ (aa s i))(h0:0<=m)(h1:m<=255):
  iI low high by_ s (i+1,t.set i (UInt8.ofNat m.toNat)):=by
 obtain⟨h2,h3,h4⟩:=h;refine⟨hi,by simp only[List.length_set];exact h3,λj hj=> ?_⟩;dsimp only at*
 rw[BP (by omega) (by omega) (by omega)];by_cases e:j=i
 ·subst e;rw[if_pos rfl,if_pos (by omega),hm]
 ·rw[if_neg e,h4 j hj];by_cases e2:j<i
  ·rw[if_pos e2,if_pos (by omega)]
  ·rw[if_neg e2,if_neg (by omega)]
theorem kh {low high by_:Int}{s:List UInt8}{i:Nat}{t:List UInt8}(h:iI low high by_ s (i,t))(hi:i<s.length)(hm:dm low high by_ (aa s i)=aa s i):
  iI low high by_ s (i+1,t):=by
 refine⟨hi,h.2.1,λj hj=> ?_⟩;have:=h.2.2 j hj;dsimp only at*
 rw[this];by_cases e:j=i
 ·subst e;rw[if_neg (by omega),if_pos (by omega),hm]
 ·by_cases e2:j<i
  ·rw[if_pos e2,if_pos (by omega)]
  ·rw[if_neg e2,if_neg (by omega)]
theorem mt {low high by_:Int}(h1:0<=low+by_)(h2:high+by_<=255){s:List UInt8}{i:Nat}{t:List UInt8}(h:iI low high by_ s (i,t))(hi:s.length<=i):t=ao low high by_ s:=by
 refine Bz (by simp only[ao,List.length_map];exact h.2.1) (λj hj=> ?_);have hj':j<s.length:=by simpa[ao] using hj
 have:=h.2.2 j hj';rw[if_pos (show j<i by omega),<-zF h1 h2 hj'] at this;exact Int.ofNat.inj this
theorem tR {G:Glo}(s:List UInt8)(low high by_:Int)(h1:0<=low+by_)(h2:high+by_<=255)(h3:0<=low)(h4:high<=255)(h5: -300<=by_)(h6:by_<=300)(hl:s.length<=9223372036854775807):
  an prog G 42 [.str s,.int .u8 low,.int .u8 high,.int .i64 by_] (.str (ao low high by_ s)):=by
 refine aw func42 call42 λC hC hGL=> ?_;repeat' (first|(conv=>whnf);first|refine .w ?_|refine .v ?_|refine bu ?_ ?_<;>(intro hb;try exact dd hb)|apply au|apply aM|(apply a6<;>intro hb)|(apply ba;intro hbd)|(apply bc;intro bl)|(apply bh;intro va vk vc hva)|(apply bg;intro v)|(apply bj;intro bl cap hcap)|apply bx|(apply bf<;>intro hnx)|apply ct mixed hC hGL (by kernel_rfl)|(show Rt _ _ _;exact a7)|fail)
 all_goals try conv=>whnf
 refine lp hC hGL (λ(x:Nat×List UInt8)=>[(1,.int .u8 low),(2,.int .u8 high),(3,.int .i64 by_),(9,.own 0 (.slice (some ⟨bl,0,none⟩) s.length cap)),(14,.own 0 (.slice (some ⟨bl,0,none⟩) s.length cap)),(15,.int .i64 s.length),(16,.int .i64 x.1)]) (λx=>[.buf bl x.2 cap]) (iI low high by_ s) (λx=>s.length-x.1) (0,s) ?_ ai rfl ?_
 ·exact qp
 rintro⟨i,t⟩ hI;have hi:=hI.1;have ht:=hI.2.1;dsimp only at hi ht ⊢;refine xw ?_;repeat' first|exact .n|apply Lc.mk
 all_goals intros
 ·refine db (i+1,t.set i (UInt8.ofNat ((aa t i:Int)+by_).toNat)) ?_ ?_ ai rfl
  ·have e:=gu hI (by omega);refine mr hI (by omega) ?_ (by omega) (by omega);unfold dm;rw[if_pos (by omega)];omega
  ·dsimp only;omega
 iterate 2
  ·refine db (i+1,t) ?_ ?_ ai rfl
   ·have e:=gu hI (by omega);refine kh hI (by omega) ?_;unfold dm;rw[if_neg (by omega)]
   ·dsimp only;omega
 ·apply aj;rw[mt h1 h2 hI (by omega)]
theorem dW {G:Glo}(s:List UInt8)(hl:s.length<=9223372036854775807):an prog G 16 [.str s] (.str (ao 97 122 (-32) s)):=by
 refine aw func16 call16 λC hC hGL=> ?_;have ht:=tR (G:=G) s 97 122 (-32) (by decide) (by decide) (by decide) (by decide) (by decide) (by decide) hl;exact bK
theorem jH {G:Glo}(s:List UInt8)(hl:s.length<=9223372036854775807):an prog G 15 [.str s] (.str (ao 65 90 32 s)):=by
 refine aw func15 call15 λC hC hGL=> ?_;have ht:=tR (G:=G) s 65 90 32 (by decide) (by decide) (by decide) (by decide) (by decide) (by decide) hl;exact bK
theorem tT {G:Glo}(s t:List UInt8)(hl:s.length<=9223372036854775807)(hm:t.length<=9223372036854775807):an prog G 88 [.str s,.str t] (.bool (ca (ao 97 122 (-32) s) (ao 97 122 (-32) t))):=by
 refine aw func88 call88 λC hC hGL=> ?_;have h1:=dW (G:=G) s hl;have h2:=dW (G:=G) t hm;exact bK
def bY (c:Int):Bool:=decide ((97<=c/\c<=122)\/(65<=c/\c<=90)\/(48<=c/\c<=57)\/c=45)
theorem oD {c:Int}:bY c=true↔((97<=c/\c<=122)\/(65<=c/\c<=90)\/(48<=c/\c<=57)\/c=45):=by simp[bY]
attribute [local irreducible] bY
theorem kI {G:Glo}(c:Int):an prog G 170 [.int .u8 c] (.bool (bY c)):=by
 refine aw func170 call170 λC hC hGL=> ?_;refine xw ?_;repeat' first|exact .n|apply Lc.mk
 all_goals intros
 all_goals (apply aj;refine congrArg AVal.bool ?_;rw[Bool.eq_iff_iff];simp only[oD,fh,true_iff];omega)
def B6 (f:Int->Bool)(s:List UInt8):Bool:=s.all λc=>f (c.toNat:Int)
theorem sx {f:Int->Bool}{s:List UInt8}:B6 f s=true↔∀j,j<s.length->f (aa s j)=true:=by
 unfold B6;rw[List.all_eq_true];constructor
 ·intro h j hj;have:=h s[j] (List.getElem_mem hj)
  simpa[aa,List.getD,hj] using this
 ·intro h c hc
  obtain⟨j,hj,rfl⟩:=List.getElem_of_mem hc
  simpa[aa,List.getD,hj] using h j hj
theorem IH {f:Int->Bool}{s:List UInt8}{j:Nat}(hj:j<s.length)(h:f (aa s j)=false):B6 f s=false:=by
 rw[Bool.eq_false_iff];intro h2;rw[sx.1 h2 j hj] at h;cases h
theorem cB {p:Nat->Prop}{i:Nat}(h:∀j,j<i->p j)(k:p i):∀j,j<i+1->p j:=by
 intro j hj;by_cases e:j=i
 ·subst e;exact k
 ·exact h j (by omega)
def isS (s:List UInt8):Bool:=B6 bY s&&(decide (s.length≠0)&&decide (s.length<=40))
theorem np {G:Glo}(s:List UInt8)(hl:s.length<=9223372036854775807):an prog G 101 [.str s] (.bool (isS s)):=by
 refine aw func101 call101 λC hC hGL=> ?_;refine aZ ?_;intros;refine lp hC hGL (λ(i:Nat)=>[(0,.str s),(5,.int .i64 s.length),(6,.int .i64 i)]) (λ_=>[]) (λi=>i<=s.length/\∀j,j<i->bY (aa s j)=true) (λi=>s.length-i) 0 ?_ ai rfl ?_
 ·exact⟨Nat.zero_le _,by intro j hj;omega⟩
 rintro i ⟨hi,hb0⟩
 repeat' (first|(conv=>whnf);first|refine .w ?_|refine .v ?_|refine bu ?_ ?_<;>(intro hb;try exact dd hb)|apply au|apply aM|(apply a6<;>intro hb)|(apply ba;intro hbd)|(apply aJ;exact kI _)|(apply ax (i:=0) rfl;exact kI _)|(apply bc;intro bl)|(apply bh;intro va vk vc hva)|(apply bg;intro v)|(apply bj;intro bl cap hcap)|apply bx|(apply bf<;>intro hnx)|apply ct mixed hC hGL (by kernel_rfl)|(apply cq;assumption;exact kI _;exact rfl)|(show Rt _ _ _;exact a7)|fail)
 all_goals try conv=>whnf
 ·refine db (i+1) ?_ ?_ ai rfl
  ·exact⟨by omega,cB hb0 hb⟩
  ·omega
 ·apply aj
  rw[isS,IH (by omega) hb]
  rfl
 all_goals (
  apply aj
  refine congrArg AVal.bool ?_
  have ha:B6 bY s=true:=sx.2 λj hj=>hb0 j (by omega)
  have e:isS s=true↔(s.length≠0/\s.length<=40):=by simp only[isS,ha,Bool.true_and,Bool.and_eq_true,decide_eq_true_eq]
  rw[Bool.eq_iff_iff,e]
  try simp only[Bool.not_eq_true',jU,reduceCtorEq,false_iff]
  omega)
theorem dV {G:Glo}(m low high:Int):an prog G 60 [.int .i64 m,.int .i64 low,.int .i64 high] (.bool (decide (low<=m)&&decide (m<=high))):=by
 refine aw func60 call60 λC hC hGL=> ?_;refine xw ?_;repeat' first|exact .n|apply Lc.mk
 all_goals intros
 all_goals (apply aj;refine congrArg AVal.bool ?_;rw[Bool.eq_iff_iff];simp[jU,Bool.not_eq_true']<;>omega)
end
end Go.Proofs.YtmdhmodenkjmdaaGreatDoor
namespace Go.Proofs
open Go.Shelf
def Tryz.lays159_ren:Go.Shelf.Ren:=⟨fun|159=>56|165=>103|166=>93|167=>105|169=>96|230=>106|204=>107|240=>152|241=>173|197=>175|118=>176|168=>177|270=>178|262=>179|276=>202|277=>218|260=>219|242=>220|313=>221|278=>245|274=>246|275=>247|n=>n,fun|9=>9|4=>4|3=>3|5=>5|72=>150|0=>0|76=>92|75=>38|107=>163|70=>148|20=>20|37=>100|127=>196|21=>21|105=>211|164=>111|162=>270|203=>268|119=>164|46=>157|139=>305|138=>304|51=>205|160=>306|208=>338|206=>336|80=>153|n=>n,fun|13=>5|3=>6|4=>7|n=>n⟩
theorem Tryz.lays159:Go.Proofs.Lays.n159 prog lays159_ren:={
 mixed:=by kernel_rfl
 f118:=func176.trans (congrArg some (by kernel_rfl))
 f159:=func56.trans (congrArg some (by kernel_rfl))
 f165:=func103.trans (congrArg some (by kernel_rfl))
 f166:=func93.trans (congrArg some (by kernel_rfl))
 f167:=func105.trans (congrArg some (by kernel_rfl))
 f168:=func177.trans (congrArg some (by kernel_rfl))
 f169:=func96.trans (congrArg some (by kernel_rfl))
 f197:=func175.trans (congrArg some (by kernel_rfl))
 f204:=func107.trans (congrArg some (by kernel_rfl))
 f230:=func106.trans (congrArg some (by kernel_rfl))
 f240:=func152.trans (congrArg some (by kernel_rfl))
 f241:=func173.trans (congrArg some (by kernel_rfl))
 f242:=func220.trans (congrArg some (by kernel_rfl))
 f260:=func219.trans (congrArg some (by kernel_rfl))
 f262:=func179.trans (congrArg some (by kernel_rfl))
 f270:=func178.trans (congrArg some (by kernel_rfl))
 f274:=func246.trans (congrArg some (by kernel_rfl))
 f275:=func247.trans (congrArg some (by kernel_rfl))
 f276:=func202.trans (congrArg some (by kernel_rfl))
 f277:=func218.trans (congrArg some (by kernel_rfl))
 f278:=func245.trans (congrArg some (by kernel_rfl))
 f313:=func221.trans (congrArg some (by kernel_rfl))
 t0:=underlying0
 a0:=isAgg0
 z0:=sizeOf0
 v0:=zeroValue0
 t3:=underlying3
 a3:=isAgg3
 z3:=sizeOf3
 v3:=zeroValue3
 t4:=underlying4
 a4:=isAgg4
 z4:=sizeOf4
 v4:=zeroValue4
 t5:=underlying5
 a5:=isAgg5
 z5:=sizeOf5
 v5:=zeroValue5
 t9:=underlying9
 a9:=isAgg9
 z9:=sizeOf9
 v9:=zeroValue9
 t20:=underlying20
 a20:=isAgg20
 z20:=sizeOf20
 v20:=zeroValue20
 t21:=underlying21
 a21:=isAgg21
 z21:=sizeOf21
 v21:=zeroValue21
 t37:=underlying100
 a37:=isAgg100
 z37:=sizeOf100
 v37:=zeroValue100
 t46:=underlying157
 a46:=isAgg157
 z46:=sizeOf157
 v46:=zeroValue157
 t51:=underlying205
 a51:=isAgg205
 z51:=sizeOf205
 v51:=zeroValue205
 t70:=underlying148
 a70:=isAgg148
 z70:=sizeOf148
 v70:=zeroValue148
 t72:=underlying150
 a72:=isAgg150
 z72:=sizeOf150
 v72:=zeroValue150
 t75:=underlying38
 a75:=isAgg38
 z75:=sizeOf38
 v75:=zeroValue38
 t76:=underlying92
 a76:=isAgg92
 z76:=sizeOf92
 v76:=zeroValue92
 t105:=underlying211
 a105:=isAgg211
 z105:=sizeOf211
 v105:=zeroValue211
 t107:=underlying163
 a107:=isAgg163
 z107:=sizeOf163
 v107:=zeroValue163
 t119:=underlying164
 a119:=isAgg164
 z119:=sizeOf164
 t127:=underlying196
 a127:=isAgg196
 z127:=sizeOf196
 v127:=zeroValue196
 t138:=underlying304
 a138:=isAgg304
 z138:=sizeOf304
 v138:=zeroValue304
 t139:=underlying305
 a139:=isAgg305
 z139:=sizeOf305
 v139:=zeroValue305
 t160:=underlying306
 a160:=isAgg306
 z160:=sizeOf306
 v160:=zeroValue306
 t162:=underlying270
 a162:=isAgg270
 z162:=sizeOf270
 v162:=zeroValue270
 t164:=underlying111
 a164:=isAgg111
 z164:=sizeOf111
 v164:=zeroValue111
 t203:=underlying268
 a203:=isAgg268
 z203:=sizeOf268
 v203:=zeroValue268
 t206:=underlying336
 a206:=isAgg336
 z206:=sizeOf336
 v206:=zeroValue336
 t208:=underlying338
 a208:=isAgg338
 z208:=sizeOf338
 v208:=zeroValue338
 g3:=by kernel_rfl
 g4:=by kernel_rfl
 g13:=by kernel_rfl}
theorem Tryz.Builder_Extra_159:Builder.Extra prog lays159_ren:={
 sizeBuilder:=by kernel_rfl
 liesBuilder:=by kernel_rfl
 t5:=underlying5
 a5:=isAgg5
 z5:=sizeOf5
 v5:=zeroValue5
 infoByte:=by kernel_rfl
 cellsByte:=by kernel_rfl
 sizeByte:=by kernel_rfl
 neB5:=by decide}
open Go.RowKit in
theorem Tryz.strings_ToLower_ascii (s:ByteArray)(w:World)(hs:s.size<=140737488355328)(hascii:∀(j:Nat) (b:UInt8),s.data.toList[j]? =some b->b.toNat<128):
  Calls prog 56 #[.string s] w λe w'=>e= .returned (.string ⟨(Lib.toLowerA s.data.toList).toArray⟩)/\Below w.heap.size w w':=Any.strings_ToLower_ascii lays159 Tryz.Builder_Extra_159 s w hs hascii
def Tryz.lays156_ren:Go.Shelf.Ren:=⟨fun|156=>54|165=>103|166=>93|169=>96|240=>152|241=>173|276=>202|277=>218|n=>n,fun|31=>55|9=>9|3=>3|4=>4|0=>0|20=>20|72=>150|76=>92|70=>148|37=>100|75=>38|127=>196|164=>111|5=>5|80=>153|n=>n,fun|n=>n⟩
theorem Tryz.lays156:Go.Proofs.Lays.n156 prog lays156_ren:={
 mixed:=by kernel_rfl
 f156:=func54.trans (congrArg some (by kernel_rfl))
 f165:=func103.trans (congrArg some (by kernel_rfl))
 f166:=func93.trans (congrArg some (by kernel_rfl))
 f169:=func96.trans (congrArg some (by kernel_rfl))
 f240:=func152.trans (congrArg some (by kernel_rfl))
 f241:=func173.trans (congrArg some (by kernel_rfl))
 f276:=func202.trans (congrArg some (by kernel_rfl))
 f277:=func218.trans (congrArg some (by kernel_rfl))
 t0:=underlying0
 a0:=isAgg0
 z0:=sizeOf0
 v0:=zeroValue0
 t3:=underlying3
 a3:=isAgg3
 z3:=sizeOf3
 v3:=zeroValue3
 t4:=underlying4
 a4:=isAgg4
 z4:=sizeOf4
 v4:=zeroValue4
 t9:=underlying9
 a9:=isAgg9
 z9:=sizeOf9
 v9:=zeroValue9
 t20:=underlying20
 a20:=isAgg20
 z20:=sizeOf20
 v20:=zeroValue20
 t31:=underlying55
 a31:=isAgg55
 z31:=sizeOf55
 v31:=zeroValue55
 t37:=underlying100
 a37:=isAgg100
 z37:=sizeOf100
 v37:=zeroValue100
 t70:=underlying148
 a70:=isAgg148
 z70:=sizeOf148
 v70:=zeroValue148
 t72:=underlying150
 a72:=isAgg150
 z72:=sizeOf150
 v72:=zeroValue150
 t75:=underlying38
 a75:=isAgg38
 z75:=sizeOf38
 v75:=zeroValue38
 t76:=underlying92
 a76:=isAgg92
 z76:=sizeOf92
 v76:=zeroValue92
 t127:=underlying196
 a127:=isAgg196
 z127:=sizeOf196
 v127:=zeroValue196
 t164:=underlying111
 a164:=isAgg111
 z164:=sizeOf111
 v164:=zeroValue111}
theorem Tryz.Builder_Extra_156:Builder.Extra prog lays156_ren:={
 sizeBuilder:=by kernel_rfl
 liesBuilder:=by kernel_rfl
 t5:=underlying5
 a5:=isAgg5
 z5:=sizeOf5
 v5:=zeroValue5
 infoByte:=by kernel_rfl
 cellsByte:=by kernel_rfl
 sizeByte:=by kernel_rfl
 neB5:=by decide}
open Go.RowKit in
theorem Tryz.strings_Join_none (a:Option Addr)(c:Nat)(sep:ByteArray)(w:World):
  Calls prog 54 #[.slice a 0 c,.string sep] w λe w'=>e= .returned (.string ⟨#[]⟩)/\w'=w:=Any.strings_Join_none lays156 Tryz.Builder_Extra_156 a c sep w
open Go.RowKit in
theorem Tryz.strings_Join (bk o c:Nat)(xs:List ByteArray)(sep:ByteArray)(w:World)(hcells:∀(j:Nat) x,xs[j]? =some x->w.cell? ⟨bk,o+j,none⟩=some (.string x))(hbk:bk<w.heap.size)(hN:xs.length<=140737488355328)(hcap:xs.length<=c)(hlen:(Lib.join (xs.map (·.data.toList)) sep.data.toList).length<=140737488355328):
  Calls prog 54 #[.slice (some ⟨bk,o,none⟩) xs.length c,.string sep] w λe w'=>e= .returned (.string ⟨(Lib.join (xs.map (·.data.toList)) sep.data.toList).toArray⟩)/\Below w.heap.size w w':=Any.strings_Join lays156 Tryz.Builder_Extra_156 bk o c xs sep w hcells hbk hN hcap hlen
def Tryz.lays106_ren:Go.Shelf.Ren:=⟨fun|106=>51|213=>100|265=>169|n=>n,fun|9=>9|3=>3|n=>n,fun|n=>n⟩
theorem Tryz.lays106:Go.Proofs.Lays.n106 prog lays106_ren:={
 mixed:=by kernel_rfl
 f106:=func51.trans (congrArg some (by kernel_rfl))
 f213:=func100.trans (congrArg some (by kernel_rfl))
 f265:=func169.trans (congrArg some (by kernel_rfl))
 t3:=underlying3
 a3:=isAgg3
 z3:=sizeOf3
 v3:=zeroValue3
 t9:=underlying9
 a9:=isAgg9
 z9:=sizeOf9
 v9:=zeroValue9}
open Go.RowKit in
theorem Tryz.strings_Compare (a b:ByteArray)(w:World):
  Calls prog 51 #[.string a,.string b] w λe w'=>e= .returned (.int .i64 (Lib.compareBytes a.data.toList b.data.toList))/\w'=w:=Any.strings_Compare lays106 a b w
def Tryz.laysM171_ren:Go.Shelf.Ren:=⟨fun|171=>125|243=>187|246=>231|283=>249|284=>250|285=>251|286=>252|129=>166|317=>263|318=>264|319=>265|320=>266|337=>275|338=>276|n=>n,fun|3=>3|9=>9|2=>2|4=>4|171=>313|0=>0|53=>207|37=>100|5=>5|173=>315|212=>340|51=>205|20=>20|213=>341|46=>157|232=>369|233=>370|n=>n,fun|17=>10|18=>11|19=>12|n=>n⟩
theorem Tryz.laysM171:Go.Proofs.LaysM.n171 prog laysM171_ren:={
 mixed:=by kernel_rfl
 f129:=func166.trans (congrArg some (by kernel_rfl))
 f171:=func125.trans (congrArg some (by kernel_rfl))
 f243:=func187.trans (congrArg some (by kernel_rfl))
 f246:=func231.trans (congrArg some (by kernel_rfl))
 f283:=func249.trans (congrArg some (by kernel_rfl))
 f284:=func250.trans (congrArg some (by kernel_rfl))
 f285:=func251.trans (congrArg some (by kernel_rfl))
 f286:=func252.trans (congrArg some (by kernel_rfl))
 f317:=func263.trans (congrArg some (by kernel_rfl))
 f318:=func264.trans (congrArg some (by kernel_rfl))
 f319:=func265.trans (congrArg some (by kernel_rfl))
 f320:=func266.trans (congrArg some (by kernel_rfl))
 f337:=func275.trans (congrArg some (by kernel_rfl))
 f338:=func276.trans (congrArg some (by kernel_rfl))
 t0:=underlying0
 a0:=isAgg0
 z0:=sizeOf0
 v0:=zeroValue0
 t2:=underlying2
 a2:=isAgg2
 z2:=sizeOf2
 v2:=zeroValue2
 t3:=underlying3
 a3:=isAgg3
 z3:=sizeOf3
 v3:=zeroValue3
 t4:=underlying4
 a4:=isAgg4
 z4:=sizeOf4
 v4:=zeroValue4
 t5:=underlying5
 a5:=isAgg5
 z5:=sizeOf5
 v5:=zeroValue5
 t9:=underlying9
 a9:=isAgg9
 z9:=sizeOf9
 v9:=zeroValue9
 t20:=underlying20
 a20:=isAgg20
 z20:=sizeOf20
 v20:=zeroValue20
 t37:=underlying100
 a37:=isAgg100
 z37:=sizeOf100
 v37:=zeroValue100
 t46:=underlying157
 a46:=isAgg157
 z46:=sizeOf157
 v46:=zeroValue157
 t51:=underlying205
 a51:=isAgg205
 z51:=sizeOf205
 v51:=zeroValue205
 t53:=underlying207
 a53:=isAgg207
 z53:=sizeOf207
 v53:=zeroValue207
 t171:=underlying313
 a171:=isAgg313
 z171:=sizeOf313
 v171:=zeroValue313
 t173:=underlying315
 a173:=isAgg315
 z173:=sizeOf315
 v173:=zeroValue315
 t212:=underlying340
 a212:=isAgg340
 z212:=sizeOf340
 v212:=zeroValue340
 t213:=underlying341
 a213:=isAgg341
 z213:=sizeOf341
 t232:=underlying369
 a232:=isAgg369
 z232:=sizeOf369
 v232:=zeroValue369
 t233:=underlying370
 a233:=isAgg370
 z233:=sizeOf370
 v233:=zeroValue370
 g17:=by kernel_rfl
 g18:=by kernel_rfl
 g19:=by kernel_rfl
 i0:=by kernel_rfl
 i2:=by kernel_rfl
 i3:=by kernel_rfl
 i4:=by kernel_rfl
 i5:=by kernel_rfl
 i9:=by kernel_rfl
 i20:=by kernel_rfl
 i37:=by kernel_rfl
 i46:=by kernel_rfl
 i51:=by kernel_rfl
 i53:=by kernel_rfl
 i171:=by kernel_rfl
 i173:=by kernel_rfl
 i212:=by kernel_rfl
 i232:=by kernel_rfl
 i233:=by kernel_rfl
 m17:=by kernel_rfl
 m18:=by kernel_rfl
 m19:=by kernel_rfl}
open Go.RowKit Go.Sort Go.Lib in
theorem Tryz.strconv_Itoa (n:Int)(h0: -9223372036854775808≤n)(h1:n≤9223372036854775807)(w:World)(htab:Lib.TabIs prog w "internal/strconv.uint64pow10" .u64 Lib.pow10Tab):
  Calls prog 125 #[.int .i64 n] w fun e w'=>e= .returned (.string ⟨(Lib.itoa n).toArray⟩)∧∃k os,w'=grow (w.drewN k) os:=Any.strconv_Itoa laysM171 n h0 h1 w htab
def Tryz.laysM173_ren:Go.Shelf.Ren:=⟨fun|173=>188|246=>231|283=>249|284=>250|285=>251|286=>252|129=>166|317=>263|318=>264|319=>265|320=>266|337=>275|338=>276|n=>n,fun|2=>2|3=>3|9=>9|4=>4|171=>313|0=>0|53=>207|37=>100|5=>5|173=>315|212=>340|51=>205|20=>20|213=>341|46=>157|232=>369|233=>370|n=>n,fun|17=>10|18=>11|19=>12|n=>n⟩
theorem Tryz.laysM173:Go.Proofs.LaysM.n173 prog laysM173_ren:={
 mixed:=by kernel_rfl
 f129:=func166.trans (congrArg some (by kernel_rfl))
 f173:=func188.trans (congrArg some (by kernel_rfl))
 f246:=func231.trans (congrArg some (by kernel_rfl))
 f283:=func249.trans (congrArg some (by kernel_rfl))
 f284:=func250.trans (congrArg some (by kernel_rfl))
 f285:=func251.trans (congrArg some (by kernel_rfl))
 f286:=func252.trans (congrArg some (by kernel_rfl))
 f317:=func263.trans (congrArg some (by kernel_rfl))
 f318:=func264.trans (congrArg some (by kernel_rfl))
 f319:=func265.trans (congrArg some (by kernel_rfl))
 f320:=func266.trans (congrArg some (by kernel_rfl))
 f337:=func275.trans (congrArg some (by kernel_rfl))
 f338:=func276.trans (congrArg some (by kernel_rfl))
 t0:=underlying0
 a0:=isAgg0
 z0:=sizeOf0
 v0:=zeroValue0
 t2:=underlying2
 a2:=isAgg2
 z2:=sizeOf2
 v2:=zeroValue2
 t3:=underlying3
 a3:=isAgg3
 z3:=sizeOf3
 v3:=zeroValue3
 t4:=underlying4
 a4:=isAgg4
 z4:=sizeOf4
 v4:=zeroValue4
 t5:=underlying5
 a5:=isAgg5
 z5:=sizeOf5
 v5:=zeroValue5
 t9:=underlying9
 a9:=isAgg9
 z9:=sizeOf9
 v9:=zeroValue9
 t20:=underlying20
 a20:=isAgg20
 z20:=sizeOf20
 v20:=zeroValue20
 t37:=underlying100
 a37:=isAgg100
 z37:=sizeOf100
 v37:=zeroValue100
 t46:=underlying157
 a46:=isAgg157
 z46:=sizeOf157
 v46:=zeroValue157
 t51:=underlying205
 a51:=isAgg205
 z51:=sizeOf205
 v51:=zeroValue205
 t53:=underlying207
 a53:=isAgg207
 z53:=sizeOf207
 v53:=zeroValue207
 t171:=underlying313
 a171:=isAgg313
 z171:=sizeOf313
 v171:=zeroValue313
 t173:=underlying315
 a173:=isAgg315
 z173:=sizeOf315
 v173:=zeroValue315
 t212:=underlying340
 a212:=isAgg340
 z212:=sizeOf340
 v212:=zeroValue340
 t213:=underlying341
 a213:=isAgg341
 z213:=sizeOf341
 t232:=underlying369
 a232:=isAgg369
 z232:=sizeOf369
 v232:=zeroValue369
 t233:=underlying370
 a233:=isAgg370
 z233:=sizeOf370
 v233:=zeroValue370
 g17:=by kernel_rfl
 g18:=by kernel_rfl
 g19:=by kernel_rfl
 i0:=by kernel_rfl
 i2:=by kernel_rfl
 i3:=by kernel_rfl
 i4:=by kernel_rfl
 i5:=by kernel_rfl
 i9:=by kernel_rfl
 i20:=by kernel_rfl
 i37:=by kernel_rfl
 i46:=by kernel_rfl
 i51:=by kernel_rfl
 i53:=by kernel_rfl
 i171:=by kernel_rfl
 i173:=by kernel_rfl
 i212:=by kernel_rfl
 i232:=by kernel_rfl
 i233:=by kernel_rfl
 m17:=by kernel_rfl
 m18:=by kernel_rfl
 m19:=by kernel_rfl}
open Go.RowKit Go.Sort Go.Lib in
theorem Tryz.strconv_FormatInt_10 (n:Int)(h0: -9223372036854775808≤n)(h1:n≤9223372036854775807)(w:World)(htab:Lib.TabIs prog w "internal/strconv.uint64pow10" .u64 Lib.pow10Tab):
  Calls prog 188 #[.int .i64 n,.int .i64 10] w fun e w'=>e= .returned (.string ⟨(Lib.itoa n).toArray⟩)∧∃k os,w'=grow (w.drewN k) os:=Any.strconv_FormatInt_10 laysM173 n h0 h1 w htab
def Tryz.lays173_ren:Go.Shelf.Ren:=⟨fun|173=>188|246=>231|283=>249|284=>250|285=>251|286=>252|129=>166|317=>263|318=>264|319=>265|320=>266|337=>275|338=>276|n=>n,fun|2=>2|3=>3|9=>9|4=>4|171=>313|0=>0|53=>207|37=>100|5=>5|173=>315|212=>340|51=>205|20=>20|213=>341|46=>157|232=>369|233=>370|n=>n,fun|17=>10|18=>11|19=>12|n=>n⟩
theorem Tryz.lays173:Go.Proofs.Lays.n173 prog lays173_ren:={
 mixed:=by kernel_rfl
 f129:=func166.trans (congrArg some (by kernel_rfl))
 f173:=func188.trans (congrArg some (by kernel_rfl))
 f246:=func231.trans (congrArg some (by kernel_rfl))
 f283:=func249.trans (congrArg some (by kernel_rfl))
 f284:=func250.trans (congrArg some (by kernel_rfl))
 f285:=func251.trans (congrArg some (by kernel_rfl))
 f286:=func252.trans (congrArg some (by kernel_rfl))
 f317:=func263.trans (congrArg some (by kernel_rfl))
 f318:=func264.trans (congrArg some (by kernel_rfl))
 f319:=func265.trans (congrArg some (by kernel_rfl))
 f320:=func266.trans (congrArg some (by kernel_rfl))
 f337:=func275.trans (congrArg some (by kernel_rfl))
 f338:=func276.trans (congrArg some (by kernel_rfl))
 t0:=underlying0
 a0:=isAgg0
 z0:=sizeOf0
 v0:=zeroValue0
 t2:=underlying2
 a2:=isAgg2
 z2:=sizeOf2
 v2:=zeroValue2
 t3:=underlying3
 a3:=isAgg3
 z3:=sizeOf3
 v3:=zeroValue3
 t4:=underlying4
 a4:=isAgg4
 z4:=sizeOf4
 v4:=zeroValue4
 t5:=underlying5
 a5:=isAgg5
 z5:=sizeOf5
 v5:=zeroValue5
 t9:=underlying9
 a9:=isAgg9
 z9:=sizeOf9
 v9:=zeroValue9
 t20:=underlying20
 a20:=isAgg20
 z20:=sizeOf20
 v20:=zeroValue20
 t37:=underlying100
 a37:=isAgg100
 z37:=sizeOf100
 v37:=zeroValue100
 t46:=underlying157
 a46:=isAgg157
 z46:=sizeOf157
 v46:=zeroValue157
 t51:=underlying205
 a51:=isAgg205
 z51:=sizeOf205
 v51:=zeroValue205
 t53:=underlying207
 a53:=isAgg207
 z53:=sizeOf207
 v53:=zeroValue207
 t171:=underlying313
 a171:=isAgg313
 z171:=sizeOf313
 v171:=zeroValue313
 t173:=underlying315
 a173:=isAgg315
 z173:=sizeOf315
 v173:=zeroValue315
 t212:=underlying340
 a212:=isAgg340
 z212:=sizeOf340
 v212:=zeroValue340
 t213:=underlying341
 a213:=isAgg341
 z213:=sizeOf341
 t232:=underlying369
 a232:=isAgg369
 z232:=sizeOf369
 v232:=zeroValue369
 t233:=underlying370
 a233:=isAgg370
 z233:=sizeOf370
 v233:=zeroValue370
 g17:=by kernel_rfl
 g18:=by kernel_rfl
 g19:=by kernel_rfl}
open Go.RowKit Go.Sort Go.Lib in
theorem Tryz.strconv_FormatInt_10_small (i:Nat)(hi:i<100)(w:World):
  Calls prog 188 #[.int .i64 i,.int .i64 10] w λe w'=>e= .returned (.string ⟨(Lib.decDigits i).toArray⟩)/\w'=w:=Any.strconv_FormatInt_10_small lays173 i hi w
def Tryz.laysC172_ren:Go.Shelf.Ren:=⟨fun|172=>147|244=>197|245=>198|247=>234|279=>235|280=>236|281=>237|282=>238|287=>254|316=>255|171=>125|205=>256|321=>267|322=>268|243=>187|246=>231|283=>249|284=>250|285=>251|286=>252|129=>166|317=>263|318=>264|319=>265|320=>266|337=>275|338=>276|n=>n,fun|9=>9|3=>3|75=>38|76=>92|4=>4|5=>5|167=>292|37=>100|0=>0|85=>293|2=>2|168=>295|53=>207|175=>317|46=>157|210=>320|127=>196|145=>345|143=>343|21=>21|171=>313|173=>315|212=>340|51=>205|20=>20|213=>341|232=>369|233=>370|80=>153|n=>n,fun|15=>8|16=>9|17=>10|18=>11|19=>12|n=>n⟩
theorem Tryz.laysC172:Go.Proofs.LaysC.n172 prog laysC172_ren:={
 mixed:=by kernel_rfl
 f129:=func166.trans (congrArg some (by kernel_rfl))
 f171:=func125.trans (congrArg some (by kernel_rfl))
 f172:=func147.trans (congrArg some (by kernel_rfl))
 f205:=func256.trans (congrArg some (by kernel_rfl))
 f243:=func187.trans (congrArg some (by kernel_rfl))
 f244:=func197.trans (congrArg some (by kernel_rfl))
 f245:=func198.trans (congrArg some (by kernel_rfl))
 f246:=func231.trans (congrArg some (by kernel_rfl))
 f247:=func234.trans (congrArg some (by kernel_rfl))
 f279:=func235.trans (congrArg some (by kernel_rfl))
 f280:=func236.trans (congrArg some (by kernel_rfl))
 f281:=func237.trans (congrArg some (by kernel_rfl))
 f282:=func238.trans (congrArg some (by kernel_rfl))
 f283:=func249.trans (congrArg some (by kernel_rfl))
 f284:=func250.trans (congrArg some (by kernel_rfl))
 f285:=func251.trans (congrArg some (by kernel_rfl))
 f286:=func252.trans (congrArg some (by kernel_rfl))
 f287:=func254.trans (congrArg some (by kernel_rfl))
 f316:=func255.trans (congrArg some (by kernel_rfl))
 f317:=func263.trans (congrArg some (by kernel_rfl))
 f318:=func264.trans (congrArg some (by kernel_rfl))
 f319:=func265.trans (congrArg some (by kernel_rfl))
 f320:=func266.trans (congrArg some (by kernel_rfl))
 f321:=func267.trans (congrArg some (by kernel_rfl))
 f322:=func268.trans (congrArg some (by kernel_rfl))
 f337:=func275.trans (congrArg some (by kernel_rfl))
 f338:=func276.trans (congrArg some (by kernel_rfl))
 t0:=underlying0
 a0:=isAgg0
 z0:=sizeOf0
 v0:=zeroValue0
 t2:=underlying2
 a2:=isAgg2
 z2:=sizeOf2
 v2:=zeroValue2
 t3:=underlying3
 a3:=isAgg3
 z3:=sizeOf3
 v3:=zeroValue3
 t4:=underlying4
 a4:=isAgg4
 z4:=sizeOf4
 v4:=zeroValue4
 t5:=underlying5
 a5:=isAgg5
 z5:=sizeOf5
 v5:=zeroValue5
 t9:=underlying9
 a9:=isAgg9
 z9:=sizeOf9
 v9:=zeroValue9
 t20:=underlying20
 a20:=isAgg20
 z20:=sizeOf20
 v20:=zeroValue20
 t21:=underlying21
 a21:=isAgg21
 z21:=sizeOf21
 v21:=zeroValue21
 t37:=underlying100
 a37:=isAgg100
 z37:=sizeOf100
 v37:=zeroValue100
 t46:=underlying157
 a46:=isAgg157
 z46:=sizeOf157
 v46:=zeroValue157
 t51:=underlying205
 a51:=isAgg205
 z51:=sizeOf205
 v51:=zeroValue205
 t53:=underlying207
 a53:=isAgg207
 z53:=sizeOf207
 v53:=zeroValue207
 t75:=underlying38
 a75:=isAgg38
 z75:=sizeOf38
 v75:=zeroValue38
 t76:=underlying92
 a76:=isAgg92
 z76:=sizeOf92
 v76:=zeroValue92
 t85:=underlying293
 a85:=isAgg293
 z85:=sizeOf293
 v85:=zeroValue293
 t127:=underlying196
 a127:=isAgg196
 z127:=sizeOf196
 v127:=zeroValue196
 t143:=underlying343
 a143:=isAgg343
 z143:=sizeOf343
 v143:=zeroValue343
 t145:=underlying345
 a145:=isAgg345
 z145:=sizeOf345
 v145:=zeroValue345
 t167:=underlying292
 a167:=isAgg292
 z167:=sizeOf292
 v167:=zeroValue292
 t168:=underlying295
 a168:=isAgg295
 z168:=sizeOf295
 v168:=zeroValue295
 t171:=underlying313
 a171:=isAgg313
 z171:=sizeOf313
 v171:=zeroValue313
 t173:=underlying315
 a173:=isAgg315
 z173:=sizeOf315
 v173:=zeroValue315
 t175:=underlying317
 a175:=isAgg317
 z175:=sizeOf317
 v175:=zeroValue317
 t210:=underlying320
 a210:=isAgg320
 z210:=sizeOf320
 v210:=zeroValue320
 t212:=underlying340
 a212:=isAgg340
 z212:=sizeOf340
 v212:=zeroValue340
 t213:=underlying341
 a213:=isAgg341
 z213:=sizeOf341
 t232:=underlying369
 a232:=isAgg369
 z232:=sizeOf369
 v232:=zeroValue369
 t233:=underlying370
 a233:=isAgg370
 z233:=sizeOf370
 v233:=zeroValue370
 g15:=by kernel_rfl
 g16:=by kernel_rfl
 g17:=by kernel_rfl
 g18:=by kernel_rfl
 g19:=by kernel_rfl
 t80:=underlying153
 a80:=isAgg153
 z80:=sizeOf153
 v80:=zeroValue153
 i0:=by kernel_rfl
 i2:=by kernel_rfl
 i3:=by kernel_rfl
 i4:=by kernel_rfl
 i5:=by kernel_rfl
 i9:=by kernel_rfl
 i20:=by kernel_rfl
 i21:=by kernel_rfl
 i37:=by kernel_rfl
 i46:=by kernel_rfl
 i51:=by kernel_rfl
 i53:=by kernel_rfl
 i75:=by kernel_rfl
 i76:=by kernel_rfl
 i80:=by kernel_rfl
 i85:=by kernel_rfl
 i127:=by kernel_rfl
 i143:=by kernel_rfl
 i145:=by kernel_rfl
 i167:=by kernel_rfl
 i168:=by kernel_rfl
 i171:=by kernel_rfl
 i173:=by kernel_rfl
 i175:=by kernel_rfl
 i210:=by kernel_rfl
 i212:=by kernel_rfl
 i232:=by kernel_rfl
 i233:=by kernel_rfl
 m15:=by kernel_rfl
 m16:=by kernel_rfl
 m17:=by kernel_rfl
 m18:=by kernel_rfl
 m19:=by kernel_rfl
 c0:=by kernel_rfl
 c2:=by kernel_rfl
 c3:=by kernel_rfl
 c4:=by kernel_rfl
 c5:=by kernel_rfl
 c9:=by kernel_rfl
 c20:=by kernel_rfl
 c21:=by kernel_rfl
 c37:=by kernel_rfl
 c46:=by kernel_rfl
 c51:=by kernel_rfl
 c53:=by kernel_rfl
 c75:=by kernel_rfl
 c76:=by kernel_rfl
 c80:=by kernel_rfl
 c85:=by kernel_rfl
 c127:=by kernel_rfl
 c143:=by kernel_rfl
 c145:=by kernel_rfl
 c167:=by kernel_rfl
 c168:=by kernel_rfl
 c171:=by kernel_rfl
 c173:=by kernel_rfl
 c175:=by kernel_rfl
 c210:=by kernel_rfl
 c212:=by kernel_rfl
 c213:=by kernel_rfl
 c232:=by kernel_rfl
 c233:=by kernel_rfl}
open Go.RowKit in
theorem Tryz.strconv_Atoi_ok (s:ByteArray)(hmax:s.size<=9223372036854775806)(v:Int)(h:Lib.atoiAll s.data.toList= .ok v)(w:World):
  Calls prog 147 #[.string s] w λe w'=>e= .returned (.tuple #[.int .i64 v,.nilIface])/\(w'=w\/∃t,w'=Lib.bytesWorld w 5 t):=Any.strconv_Atoi_ok laysC172 s hmax v h w
open Go.RowKit in
theorem Tryz.strconv_Atoi_syntax (s:ByteArray)(hlim:s.size<=281474976710656)(h:Lib.atoiAll s.data.toList=Lib.NumEnd.syntax)(ev:Value)(w:World)(hv:w.cell? ⟨8,0,none⟩=some ev)(hev:ev= .nilIface\/∃te pe,ev= .iface te pe):
  Calls prog 147 #[.string s] w λe w'=>∃N,e= .returned (.tuple #[.int .i64 (0),.iface 295 (.pointer (some ⟨N,0,none⟩))])/\w.heap.size<=N/\w'.heap[N]? =some (.cells #[.string ⟨#[65,116,111,105]⟩,.string s,ev] 320 (0,0))/\Below w.heap.size w w':=Any.strconv_Atoi_syntax laysC172 s hlim h ev w hv hev
open Go.RowKit in
theorem Tryz.strconv_Atoi_range (s:ByteArray)(hlim:s.size<=281474976710656)(h:Lib.atoiAll s.data.toList= .range)(ev:Value)(w:World)(hv:w.cell? ⟨9,0,none⟩=some ev)(hev:ev= .nilIface\/∃te pe,ev= .iface te pe):
  Calls prog 147 #[.string s] w λe w'=>∃N,e= .returned (.tuple #[.int .i64 (Lib.atoiSat s.data.toList),.iface 295 (.pointer (some ⟨N,0,none⟩))])/\w.heap.size<=N/\w'.heap[N]? =some (.cells #[.string ⟨#[65,116,111,105]⟩,.string s,ev] 320 (0,0))/\Below w.heap.size w w':=Any.strconv_Atoi_range laysC172 s hlim h ev w hv hev
def Tryz.lays144_ren:Go.Shelf.Ren:=⟨fun|144=>71|143=>124|219=>186|217=>104|225=>228|224=>229|267=>230|266=>174|314=>248|n=>n,fun|9=>9|4=>4|3=>3|5=>5|46=>157|146=>311|51=>205|n=>n,fun|1=>1|n=>n⟩
theorem Tryz.lays144:Go.Proofs.Lays.n144 prog lays144_ren:={
 mixed:=by kernel_rfl
 f143:=func124.trans (congrArg some (by kernel_rfl))
 f144:=func71.trans (congrArg some (by kernel_rfl))
 f217:=func104.trans (congrArg some (by kernel_rfl))
 f219:=func186.trans (congrArg some (by kernel_rfl))
 f224:=func229.trans (congrArg some (by kernel_rfl))
 f225:=func228.trans (congrArg some (by kernel_rfl))
 f266:=func174.trans (congrArg some (by kernel_rfl))
 f267:=func230.trans (congrArg some (by kernel_rfl))
 f314:=func248.trans (congrArg some (by kernel_rfl))
 t3:=underlying3
 a3:=isAgg3
 z3:=sizeOf3
 v3:=zeroValue3
 t4:=underlying4
 a4:=isAgg4
 z4:=sizeOf4
 v4:=zeroValue4
 t5:=underlying5
 a5:=isAgg5
 z5:=sizeOf5
 v5:=zeroValue5
 t9:=underlying9
 a9:=isAgg9
 z9:=sizeOf9
 v9:=zeroValue9
 t46:=underlying157
 a46:=isAgg157
 z46:=sizeOf157
 v46:=zeroValue157
 t51:=underlying205
 a51:=isAgg205
 z51:=sizeOf205
 v51:=zeroValue205
 t146:=underlying311
 a146:=isAgg311
 z146:=sizeOf311
 v146:=zeroValue311
 g1:=by kernel_rfl}
open Go.RowKit Go.Lib in
theorem Tryz.strings_Contains_one (s:ByteArray)(c:UInt8)(w:World):
  Calls prog 71 #[.string s,.string ⟨#[c]⟩] w λe w'=>e= .returned (.bool (decide (0<=Lib.indexByte s.data.toList c)))/\w'=w:=Any.strings_Contains_one lays144 s c w
open Go.RowKit Go.Lib in
theorem Tryz.strings_Contains (s sub:ByteArray)(m:Int)(w:World)(hs:s.size<4294967281)(hm:w.cell? ⟨1,0,none⟩=some (.int .i64 m)):
  Calls prog 71 #[.string s,.string sub] w λe w'=>e= .returned (.bool (Lib.contains s.data.toList sub.data.toList))/\w'=w:=Any.strings_Contains lays144 s sub m w hs hm
def Tryz.lays145_ren:Go.Shelf.Ren:=⟨fun|145=>138|220=>191|219=>186|217=>104|225=>228|224=>229|267=>230|266=>174|314=>248|n=>n,fun|9=>9|4=>4|59=>183|3=>3|5=>5|46=>157|146=>311|51=>205|n=>n,fun|1=>1|n=>n⟩
theorem Tryz.lays145:Go.Proofs.Lays.n145 prog lays145_ren:={
 mixed:=by kernel_rfl
 f145:=func138.trans (congrArg some (by kernel_rfl))
 f217:=func104.trans (congrArg some (by kernel_rfl))
 f219:=func186.trans (congrArg some (by kernel_rfl))
 f220:=func191.trans (congrArg some (by kernel_rfl))
 f224:=func229.trans (congrArg some (by kernel_rfl))
 f225:=func228.trans (congrArg some (by kernel_rfl))
 f266:=func174.trans (congrArg some (by kernel_rfl))
 f267:=func230.trans (congrArg some (by kernel_rfl))
 f314:=func248.trans (congrArg some (by kernel_rfl))
 t3:=underlying3
 a3:=isAgg3
 z3:=sizeOf3
 v3:=zeroValue3
 t4:=underlying4
 a4:=isAgg4
 z4:=sizeOf4
 v4:=zeroValue4
 t5:=underlying5
 a5:=isAgg5
 z5:=sizeOf5
 v5:=zeroValue5
 t9:=underlying9
 a9:=isAgg9
 z9:=sizeOf9
 v9:=zeroValue9
 t46:=underlying157
 a46:=isAgg157
 z46:=sizeOf157
 v46:=zeroValue157
 t51:=underlying205
 a51:=isAgg205
 z51:=sizeOf205
 v51:=zeroValue205
 t59:=underlying183
 a59:=isAgg183
 z59:=sizeOf183
 v59:=zeroValue183
 t146:=underlying311
 a146:=isAgg311
 z146:=sizeOf311
 v146:=zeroValue311
 g1:=by kernel_rfl}
open Go.RowKit Go.Lib in
theorem Tryz.strings_Cut (s sep:ByteArray)(m:Int)(w:World)(hs:s.size<4294967281)(hm:w.cell? ⟨1,0,none⟩=some (.int .i64 m)):
  Calls prog 138 #[.string s,.string sep] w λe w'=>e= .returned (.tuple #[.string ⟨(Lib.cut s.data.toList sep.data.toList).1.toArray⟩,.string ⟨(Lib.cut s.data.toList sep.data.toList).2.1.toArray⟩,.bool (Lib.cut s.data.toList sep.data.toList).2.2])/\∃n,w'=w.drewN n:=Any.strings_Cut lays145 s sep m w hs hm
def Tryz.lays138_ren:Go.Shelf.Ren:=⟨fun|138=>172|195=>216|218=>217|143=>124|219=>186|217=>104|225=>228|224=>229|267=>230|266=>174|314=>248|n=>n,fun|9=>9|3=>3|4=>4|5=>5|0=>0|46=>157|146=>311|51=>205|n=>n,fun|1=>1|n=>n⟩
theorem Tryz.lays138:Go.Proofs.Lays.n138 prog lays138_ren:={
 mixed:=by kernel_rfl
 f138:=func172.trans (congrArg some (by kernel_rfl))
 f143:=func124.trans (congrArg some (by kernel_rfl))
 f195:=func216.trans (congrArg some (by kernel_rfl))
 f217:=func104.trans (congrArg some (by kernel_rfl))
 f218:=func217.trans (congrArg some (by kernel_rfl))
 f219:=func186.trans (congrArg some (by kernel_rfl))
 f224:=func229.trans (congrArg some (by kernel_rfl))
 f225:=func228.trans (congrArg some (by kernel_rfl))
 f266:=func174.trans (congrArg some (by kernel_rfl))
 f267:=func230.trans (congrArg some (by kernel_rfl))
 f314:=func248.trans (congrArg some (by kernel_rfl))
 t0:=underlying0
 a0:=isAgg0
 z0:=sizeOf0
 v0:=zeroValue0
 t3:=underlying3
 a3:=isAgg3
 z3:=sizeOf3
 v3:=zeroValue3
 t4:=underlying4
 a4:=isAgg4
 z4:=sizeOf4
 v4:=zeroValue4
 t5:=underlying5
 a5:=isAgg5
 z5:=sizeOf5
 v5:=zeroValue5
 t9:=underlying9
 a9:=isAgg9
 z9:=sizeOf9
 v9:=zeroValue9
 t46:=underlying157
 a46:=isAgg157
 z46:=sizeOf157
 v46:=zeroValue157
 t51:=underlying205
 a51:=isAgg205
 z51:=sizeOf205
 v51:=zeroValue205
 t146:=underlying311
 a146:=isAgg311
 z146:=sizeOf311
 v146:=zeroValue311
 g1:=by kernel_rfl}
open Go.RowKit Go.Lib in
theorem Tryz.strings_Count_one (s:ByteArray)(c:UInt8)(w:World):
  Calls prog 172 #[.string s,.string ⟨#[c]⟩] w λe w'=>e= .returned (.int .i64 (Lib.countByte s.data.toList c))/\w'=w:=Any.strings_Count_one lays138 s c w
def Tryz.lays190_ren:Go.Shelf.Ren:=⟨fun|190=>47|125=>98|258=>97|128=>165|129=>166|302=>156|303=>157|304=>158|305=>159|306=>160|307=>161|308=>162|309=>163|310=>164|333=>209|329=>210|330=>211|334=>212|335=>213|336=>214|344=>243|n=>n,fun|31=>55|9=>9|3=>3|46=>157|0=>0|51=>205|53=>207|4=>4|183=>199|182=>198|131=>135|5=>5|218=>260|222=>264|228=>301|229=>228|n=>n,fun|n=>n⟩
theorem Tryz.lays190:Go.Proofs.Lays.n190 prog lays190_ren:={
 mixed:=by kernel_rfl
 f125:=func98.trans (congrArg some (by kernel_rfl))
 f128:=func165.trans (congrArg some (by kernel_rfl))
 f129:=func166.trans (congrArg some (by kernel_rfl))
 f190:=func47.trans (congrArg some (by kernel_rfl))
 f258:=func97.trans (congrArg some (by kernel_rfl))
 f302:=func156.trans (congrArg some (by kernel_rfl))
 f303:=func157.trans (congrArg some (by kernel_rfl))
 f304:=func158.trans (congrArg some (by kernel_rfl))
 f305:=func159.trans (congrArg some (by kernel_rfl))
 f306:=func160.trans (congrArg some (by kernel_rfl))
 f307:=func161.trans (congrArg some (by kernel_rfl))
 f308:=func162.trans (congrArg some (by kernel_rfl))
 f309:=func163.trans (congrArg some (by kernel_rfl))
 f310:=func164.trans (congrArg some (by kernel_rfl))
 f329:=func210.trans (congrArg some (by kernel_rfl))
 f330:=func211.trans (congrArg some (by kernel_rfl))
 f333:=func209.trans (congrArg some (by kernel_rfl))
 f334:=func212.trans (congrArg some (by kernel_rfl))
 f335:=func213.trans (congrArg some (by kernel_rfl))
 f336:=func214.trans (congrArg some (by kernel_rfl))
 f344:=func243.trans (congrArg some (by kernel_rfl))
 t0:=underlying0
 a0:=isAgg0
 z0:=sizeOf0
 v0:=zeroValue0
 t3:=underlying3
 a3:=isAgg3
 z3:=sizeOf3
 v3:=zeroValue3
 t4:=underlying4
 a4:=isAgg4
 z4:=sizeOf4
 v4:=zeroValue4
 t5:=underlying5
 a5:=isAgg5
 z5:=sizeOf5
 v5:=zeroValue5
 t9:=underlying9
 a9:=isAgg9
 z9:=sizeOf9
 v9:=zeroValue9
 t31:=underlying55
 a31:=isAgg55
 z31:=sizeOf55
 v31:=zeroValue55
 t46:=underlying157
 a46:=isAgg157
 z46:=sizeOf157
 v46:=zeroValue157
 t51:=underlying205
 a51:=isAgg205
 z51:=sizeOf205
 v51:=zeroValue205
 t53:=underlying207
 a53:=isAgg207
 z53:=sizeOf207
 v53:=zeroValue207
 t131:=underlying135
 a131:=isAgg135
 z131:=sizeOf135
 v131:=zeroValue135
 t182:=underlying198
 a182:=isAgg198
 z182:=sizeOf198
 v182:=zeroValue198
 t183:=underlying199
 a183:=isAgg199
 z183:=sizeOf199
 v183:=zeroValue199
 t218:=underlying260
 a218:=isAgg260
 z218:=sizeOf260
 v218:=zeroValue260
 t222:=underlying264
 a222:=isAgg264
 z222:=sizeOf264
 v222:=zeroValue264
 t228:=underlying301
 a228:=isAgg301
 z228:=sizeOf301
 v228:=zeroValue301
 t229:=underlying228
 a229:=isAgg228
 z229:=sizeOf228
 v229:=zeroValue228}
open Go.Sort Go.RowKit in
theorem Tryz.slices_Sort_string (blk off cap:Nat)(ss:List (List UInt8))(w:World)(hH:Holds encStr w blk off ss.toArray)(hblk:blk<w.heap.size)(hsz:ss.length<4611686018427387904):
  Calls prog 47 #[.slice (some ⟨blk,off,none⟩) ss.length cap] w λe w'=>
   e= .returned (.tuple #[])/\∃n os,w'=grow (putRow encStr (Sort.ahead w n) blk off (ss.mergeSort λx y=>decide (x<=y)).toArray) os:=Any.slices_Sort_string lays190 blk off cap ss w hH hblk hsz
def Tryz.lays192_ren:Go.Shelf.Ren:=⟨fun|192=>25|190=>47|125=>98|258=>97|128=>165|129=>166|302=>156|303=>157|304=>158|305=>159|306=>160|307=>161|308=>162|309=>163|310=>164|333=>209|329=>210|330=>211|334=>212|335=>213|336=>214|344=>243|n=>n,fun|31=>55|0=>0|9=>9|3=>3|46=>157|51=>205|53=>207|4=>4|183=>199|182=>198|131=>135|5=>5|218=>260|222=>264|228=>301|229=>228|n=>n,fun|n=>n⟩
theorem Tryz.lays192:Go.Proofs.Lays.n192 prog lays192_ren:={
 mixed:=by kernel_rfl
 f125:=func98.trans (congrArg some (by kernel_rfl))
 f128:=func165.trans (congrArg some (by kernel_rfl))
 f129:=func166.trans (congrArg some (by kernel_rfl))
 f190:=func47.trans (congrArg some (by kernel_rfl))
 f192:=func25.trans (congrArg some (by kernel_rfl))
 f258:=func97.trans (congrArg some (by kernel_rfl))
 f302:=func156.trans (congrArg some (by kernel_rfl))
 f303:=func157.trans (congrArg some (by kernel_rfl))
 f304:=func158.trans (congrArg some (by kernel_rfl))
 f305:=func159.trans (congrArg some (by kernel_rfl))
 f306:=func160.trans (congrArg some (by kernel_rfl))
 f307:=func161.trans (congrArg some (by kernel_rfl))
 f308:=func162.trans (congrArg some (by kernel_rfl))
 f309:=func163.trans (congrArg some (by kernel_rfl))
 f310:=func164.trans (congrArg some (by kernel_rfl))
 f329:=func210.trans (congrArg some (by kernel_rfl))
 f330:=func211.trans (congrArg some (by kernel_rfl))
 f333:=func209.trans (congrArg some (by kernel_rfl))
 f334:=func212.trans (congrArg some (by kernel_rfl))
 f335:=func213.trans (congrArg some (by kernel_rfl))
 f336:=func214.trans (congrArg some (by kernel_rfl))
 f344:=func243.trans (congrArg some (by kernel_rfl))
 t0:=underlying0
 a0:=isAgg0
 z0:=sizeOf0
 v0:=zeroValue0
 t3:=underlying3
 a3:=isAgg3
 z3:=sizeOf3
 v3:=zeroValue3
 t4:=underlying4
 a4:=isAgg4
 z4:=sizeOf4
 v4:=zeroValue4
 t5:=underlying5
 a5:=isAgg5
 z5:=sizeOf5
 v5:=zeroValue5
 t9:=underlying9
 a9:=isAgg9
 z9:=sizeOf9
 v9:=zeroValue9
 t31:=underlying55
 a31:=isAgg55
 z31:=sizeOf55
 v31:=zeroValue55
 t46:=underlying157
 a46:=isAgg157
 z46:=sizeOf157
 v46:=zeroValue157
 t51:=underlying205
 a51:=isAgg205
 z51:=sizeOf205
 v51:=zeroValue205
 t53:=underlying207
 a53:=isAgg207
 z53:=sizeOf207
 v53:=zeroValue207
 t131:=underlying135
 a131:=isAgg135
 z131:=sizeOf135
 v131:=zeroValue135
 t182:=underlying198
 a182:=isAgg198
 z182:=sizeOf198
 v182:=zeroValue198
 t183:=underlying199
 a183:=isAgg199
 z183:=sizeOf199
 v183:=zeroValue199
 t218:=underlying260
 a218:=isAgg260
 z218:=sizeOf260
 v218:=zeroValue260
 t222:=underlying264
 a222:=isAgg264
 z222:=sizeOf264
 v222:=zeroValue264
 t228:=underlying301
 a228:=isAgg301
 z228:=sizeOf301
 v228:=zeroValue301
 t229:=underlying228
 a229:=isAgg228
 z229:=sizeOf228
 v229:=zeroValue228}
open Go.Sort Go.RowKit in
theorem Tryz.sort_Strings (blk off cap:Nat)(ss:List (List UInt8))(w:World)(hH:Holds encStr w blk off ss.toArray)(hblk:blk<w.heap.size)(hsz:ss.length<4611686018427387904):
  Calls prog 25 #[.slice (some ⟨blk,off,none⟩) ss.length cap] w λe w'=>
   e= .returned (.tuple #[])/\∃n os,w'=grow (putRow encStr (Sort.ahead w n) blk off (ss.mergeSort λx y=>decide (x<=y)).toArray) os:=Any.sort_Strings lays192 blk off cap ss w hH hblk hsz
def Tryz.laysGt8_ren:Go.Shelf.Ren:=⟨fun|8=>26|13=>62|14=>63|16=>65|15=>64|29=>119|30=>120|42=>181|49=>224|n=>n,fun|20=>20|26=>72|36=>114|0=>0|38=>116|42=>120|3=>3|4=>4|47=>157|17=>17|33=>111|34=>112|89=>385|12=>12|56=>205|82=>380|5=>5|83=>224|84=>381|85=>196|86=>382|87=>383|n=>n,fun|n=>n⟩
theorem Tryz.laysGt8:Go.Proofs.LaysGt.n8 prog laysGt8_ren:={
 mixed:=by kernel_rfl
 f8:=func26.trans (congrArg some (by kernel_rfl))
 f13:=func62.trans (congrArg some (by kernel_rfl))
 f14:=func63.trans (congrArg some (by kernel_rfl))
 f15:=func64.trans (congrArg some (by kernel_rfl))
 f16:=func65.trans (congrArg some (by kernel_rfl))
 f29:=func119.trans (congrArg some (by kernel_rfl))
 f30:=func120.trans (congrArg some (by kernel_rfl))
 f42:=func181.trans (congrArg some (by kernel_rfl))
 f49:=func224.trans (congrArg some (by kernel_rfl))
 t0:=underlying0
 a0:=isAgg0
 z0:=sizeOf0
 v0:=zeroValue0
 i0:=by kernel_rfl
 t3:=underlying3
 a3:=isAgg3
 z3:=sizeOf3
 v3:=zeroValue3
 i3:=by kernel_rfl
 t4:=underlying4
 a4:=isAgg4
 z4:=sizeOf4
 v4:=zeroValue4
 i4:=by kernel_rfl
 t5:=underlying5
 a5:=isAgg5
 z5:=sizeOf5
 v5:=zeroValue5
 i5:=by kernel_rfl
 t12:=underlying12
 a12:=isAgg12
 z12:=sizeOf12
 v12:=zeroValue12
 i12:=by kernel_rfl
 t17:=underlying17
 a17:=isAgg17
 z17:=sizeOf17
 v17:=zeroValue17
 i17:=by kernel_rfl
 t20:=underlying20
 a20:=isAgg20
 z20:=sizeOf20
 v20:=zeroValue20
 i20:=by kernel_rfl
 t26:=underlying72
 a26:=isAgg72
 z26:=sizeOf72
 v26:=zeroValue72
 i26:=by kernel_rfl
 t33:=underlying111
 a33:=isAgg111
 z33:=sizeOf111
 v33:=zeroValue111
 i33:=by kernel_rfl
 t34:=underlying112
 a34:=isAgg112
 z34:=sizeOf112
 v34:=zeroValue112
 i34:=by kernel_rfl
 t36:=underlying114
 a36:=isAgg114
 z36:=sizeOf114
 v36:=zeroValue114
 i36:=by kernel_rfl
 t38:=underlying116
 a38:=isAgg116
 z38:=sizeOf116
 v38:=zeroValue116
 i38:=by kernel_rfl
 t42:=underlying120
 a42:=isAgg120
 z42:=sizeOf120
 v42:=zeroValue120
 i42:=by kernel_rfl
 t47:=underlying157
 a47:=isAgg157
 z47:=sizeOf157
 v47:=zeroValue157
 i47:=by kernel_rfl
 t56:=underlying205
 a56:=isAgg205
 z56:=sizeOf205
 v56:=zeroValue205
 i56:=by kernel_rfl
 t82:=underlying380
 a82:=isAgg380
 z82:=sizeOf380
 v82:=zeroValue380
 i82:=by kernel_rfl
 t83:=underlying224
 a83:=isAgg224
 z83:=sizeOf224
 v83:=zeroValue224
 i83:=by kernel_rfl
 t84:=underlying381
 a84:=isAgg381
 z84:=sizeOf381
 v84:=zeroValue381
 i84:=by kernel_rfl
 t85:=underlying196
 a85:=isAgg196
 z85:=sizeOf196
 v85:=zeroValue196
 i85:=by kernel_rfl
 t86:=underlying382
 a86:=isAgg382
 z86:=sizeOf382
 v86:=zeroValue382
 i86:=by kernel_rfl
 t87:=underlying383
 a87:=isAgg383
 z87:=sizeOf383
 v87:=zeroValue383
 i87:=by kernel_rfl
 t89:=underlying385
 a89:=isAgg385
 z89:=sizeOf385
 v89:=zeroValue385
 i89:=by kernel_rfl}
def Tryz.lays146_ren:Go.Shelf.Ren:=⟨fun|146=>53|221=>102|268=>171|138=>172|143=>124|195=>216|197=>175|218=>217|219=>186|260=>219|217=>104|225=>228|224=>229|267=>230|266=>174|314=>248|n=>n,fun|9=>9|31=>55|3=>3|4=>4|0=>0|105=>211|21=>21|5=>5|46=>157|119=>164|139=>305|138=>304|146=>311|51=>205|n=>n,fun|1=>1|3=>6|4=>7|n=>n⟩
theorem Tryz.lays146:Go.Proofs.Lays.n146 prog lays146_ren:={
 mixed:=by kernel_rfl
 f138:=func172.trans (congrArg some (by kernel_rfl))
 f143:=func124.trans (congrArg some (by kernel_rfl))
 f146:=func53.trans (congrArg some (by kernel_rfl))
 f195:=func216.trans (congrArg some (by kernel_rfl))
 f197:=func175.trans (congrArg some (by kernel_rfl))
 f217:=func104.trans (congrArg some (by kernel_rfl))
 f218:=func217.trans (congrArg some (by kernel_rfl))
 f219:=func186.trans (congrArg some (by kernel_rfl))
 f221:=func102.trans (congrArg some (by kernel_rfl))
 f224:=func229.trans (congrArg some (by kernel_rfl))
 f225:=func228.trans (congrArg some (by kernel_rfl))
 f260:=func219.trans (congrArg some (by kernel_rfl))
 f266:=func174.trans (congrArg some (by kernel_rfl))
 f267:=func230.trans (congrArg some (by kernel_rfl))
 f268:=func171.trans (congrArg some (by kernel_rfl))
 f314:=func248.trans (congrArg some (by kernel_rfl))
 t0:=underlying0
 a0:=isAgg0
 z0:=sizeOf0
 v0:=zeroValue0
 t3:=underlying3
 a3:=isAgg3
 z3:=sizeOf3
 v3:=zeroValue3
 t4:=underlying4
 a4:=isAgg4
 z4:=sizeOf4
 v4:=zeroValue4
 t5:=underlying5
 a5:=isAgg5
 z5:=sizeOf5
 v5:=zeroValue5
 t9:=underlying9
 a9:=isAgg9
 z9:=sizeOf9
 v9:=zeroValue9
 t21:=underlying21
 a21:=isAgg21
 z21:=sizeOf21
 v21:=zeroValue21
 t31:=underlying55
 a31:=isAgg55
 z31:=sizeOf55
 v31:=zeroValue55
 t46:=underlying157
 a46:=isAgg157
 z46:=sizeOf157
 v46:=zeroValue157
 t51:=underlying205
 a51:=isAgg205
 z51:=sizeOf205
 v51:=zeroValue205
 t105:=underlying211
 a105:=isAgg211
 z105:=sizeOf211
 v105:=zeroValue211
 t119:=underlying164
 a119:=isAgg164
 z119:=sizeOf164
 t138:=underlying304
 a138:=isAgg304
 z138:=sizeOf304
 v138:=zeroValue304
 t139:=underlying305
 a139:=isAgg305
 z139:=sizeOf305
 v139:=zeroValue305
 t146:=underlying311
 a146:=isAgg311
 z146:=sizeOf311
 v146:=zeroValue311
 g1:=by kernel_rfl
 g3:=by kernel_rfl
 g4:=by kernel_rfl}
open Go.RowKit Go.Lib in
theorem Tryz.strings_Split (s sep:ByteArray)(m:Int)(w:World)(hs:s.size<4294967281)(hm:w.cell? ⟨1,0,none⟩=some (.int .i64 m))(h1:1<=sep.size):
  Calls prog 53 #[.string s,.string sep] w λe w'=>
   e= .returned (.slice (some ⟨w.heap.size,0,none⟩) (Lib.countB s sep+1) (Lib.countB s sep+1))/\w'=w.alloc (.cells ((Lib.splitB sep 0 (Lib.countB s sep) s).map Value.string).toArray 9):=Any.strings_Split lays146 (by kernel_rfl) s sep m w hs hm h1
def Tryz.lays157_ren:Go.Shelf.Ren:=⟨fun|157=>61|229=>108|199=>109|261=>180|311=>222|312=>223|n=>n,fun|9=>9|31=>55|3=>3|5=>5|4=>4|119=>164|0=>0|40=>166|152=>216|21=>21|154=>218|51=>205|141=>220|196=>274|193=>271|198=>277|49=>275|194=>272|201=>280|226=>309|46=>157|227=>310|n=>n,fun|0=>0|6=>2|n=>n⟩
theorem Tryz.lays157:Go.Proofs.Lays.n157 prog lays157_ren:={
 mixed:=by kernel_rfl
 f157:=func61.trans (congrArg some (by kernel_rfl))
 f199:=func109.trans (congrArg some (by kernel_rfl))
 f229:=func108.trans (congrArg some (by kernel_rfl))
 f261:=func180.trans (congrArg some (by kernel_rfl))
 f311:=func222.trans (congrArg some (by kernel_rfl))
 f312:=func223.trans (congrArg some (by kernel_rfl))
 t0:=underlying0
 a0:=isAgg0
 z0:=sizeOf0
 v0:=zeroValue0
 t3:=underlying3
 a3:=isAgg3
 z3:=sizeOf3
 v3:=zeroValue3
 t4:=underlying4
 a4:=isAgg4
 z4:=sizeOf4
 v4:=zeroValue4
 t5:=underlying5
 a5:=isAgg5
 z5:=sizeOf5
 v5:=zeroValue5
 t9:=underlying9
 a9:=isAgg9
 z9:=sizeOf9
 v9:=zeroValue9
 t21:=underlying21
 a21:=isAgg21
 z21:=sizeOf21
 v21:=zeroValue21
 t31:=underlying55
 a31:=isAgg55
 z31:=sizeOf55
 v31:=zeroValue55
 t40:=underlying166
 a40:=isAgg166
 z40:=sizeOf166
 v40:=zeroValue166
 t46:=underlying157
 a46:=isAgg157
 z46:=sizeOf157
 v46:=zeroValue157
 t49:=underlying275
 a49:=isAgg275
 z49:=sizeOf275
 v49:=zeroValue275
 t51:=underlying205
 a51:=isAgg205
 z51:=sizeOf205
 v51:=zeroValue205
 t119:=underlying164
 a119:=isAgg164
 z119:=sizeOf164
 t141:=underlying220
 a141:=isAgg220
 z141:=sizeOf220
 v141:=zeroValue220
 t152:=underlying216
 a152:=isAgg216
 z152:=sizeOf216
 v152:=zeroValue216
 t154:=underlying218
 a154:=isAgg218
 z154:=sizeOf218
 v154:=zeroValue218
 t193:=underlying271
 a193:=isAgg271
 z193:=sizeOf271
 v193:=zeroValue271
 t194:=underlying272
 a194:=isAgg272
 z194:=sizeOf272
 v194:=zeroValue272
 t196:=underlying274
 a196:=isAgg274
 z196:=sizeOf274
 v196:=zeroValue274
 t198:=underlying277
 a198:=isAgg277
 z198:=sizeOf277
 v198:=zeroValue277
 t201:=underlying280
 a201:=isAgg280
 z201:=sizeOf280
 v201:=zeroValue280
 t226:=underlying309
 a226:=isAgg309
 z226:=sizeOf309
 v226:=zeroValue309
 t227:=underlying310
 a227:=isAgg310
 z227:=sizeOf310
 v227:=zeroValue310
 g0:=by kernel_rfl
 g6:=by kernel_rfl}
open Go.RowKit Go.Lib in
theorem Tryz.strings_Fields (s:ByteArray)(w:World)(hs:s.size<4294967281)(hascii:∀(j:Nat) b,s.data.toList[j]? =some b→b.toNat<128)(htab:Lib.TabIs prog w "strings.asciiSpace" .u8 Lib.asciiSpaceTab):
  Calls prog 61 #[.string s] w fun e w'=>
   e= .returned (.slice (some ⟨w.heap.size,0,none⟩) (Lib.fields s.data.toList).length (Lib.fields s.data.toList).length)∧w'=w.alloc (.cells ((Lib.fields s.data.toList).map fun l=>Value.string ⟨l.toArray⟩).toArray 9):=Any.strings_Fields lays157 (by kernel_rfl) (by kernel_rfl) s w hs hascii htab
def Tryz.lays153_ren:Go.Shelf.Ren:=⟨fun|153=>155|152=>205|226=>206|227=>207|228=>208|137=>55|119=>242|224=>229|225=>228|217=>104|266=>174|n=>n,fun|9=>9|3=>3|4=>4|5=>5|21=>21|117=>258|116=>257|0=>0|46=>157|124=>300|n=>n,fun|n=>n⟩
theorem Tryz.lays153:Go.Proofs.Lays.n153 prog lays153_ren:={
 mixed:=by kernel_rfl
 f119:=func242.trans (congrArg some (by kernel_rfl))
 f137:=func55.trans (congrArg some (by kernel_rfl))
 f152:=func205.trans (congrArg some (by kernel_rfl))
 f153:=func155.trans (congrArg some (by kernel_rfl))
 f217:=func104.trans (congrArg some (by kernel_rfl))
 f224:=func229.trans (congrArg some (by kernel_rfl))
 f225:=func228.trans (congrArg some (by kernel_rfl))
 f226:=func206.trans (congrArg some (by kernel_rfl))
 f227:=func207.trans (congrArg some (by kernel_rfl))
 f228:=func208.trans (congrArg some (by kernel_rfl))
 f266:=func174.trans (congrArg some (by kernel_rfl))
 t0:=underlying0
 a0:=isAgg0
 z0:=sizeOf0
 v0:=zeroValue0
 t3:=underlying3
 a3:=isAgg3
 z3:=sizeOf3
 v3:=zeroValue3
 t4:=underlying4
 a4:=isAgg4
 z4:=sizeOf4
 v4:=zeroValue4
 t5:=underlying5
 a5:=isAgg5
 z5:=sizeOf5
 v5:=zeroValue5
 t9:=underlying9
 a9:=isAgg9
 z9:=sizeOf9
 v9:=zeroValue9
 t21:=underlying21
 a21:=isAgg21
 z21:=sizeOf21
 v21:=zeroValue21
 t46:=underlying157
 a46:=isAgg157
 z46:=sizeOf157
 v46:=zeroValue157
 t116:=underlying257
 a116:=isAgg257
 z116:=sizeOf257
 t117:=underlying258
 a117:=isAgg258
 z117:=sizeOf258
 v117:=zeroValue258
 t124:=underlying300
 a124:=isAgg300
 z124:=sizeOf300
 v124:=zeroValue300}
open Go.RowKit Go.Lib in
theorem Tryz.strings_IndexAny_long (hv116:∀w,(zeroValue 257).run prog w= .ok (.agg (Array.replicate 256 (.bool false))) w)(s chars:ByteArray)(w:World)(h2:2<=chars.size)(h8:8<s.size)(hs:s.size<4294967281)(hcs:chars.size<4294967281)(hascii:∀(j:Nat) b,chars.data.toList[j]? =some b->b.toNat<128):
  Calls prog 155 #[.string s,.string chars] w λe w'=>e= .returned (.int .i64 (Lib.indexAny s.data.toList chars.data.toList))/\w'=((w.alloc (.cells (Lib.setCells chars.data.toList) 257)).alloc (.cells (Lib.setCells chars.data.toList) 257)):=Any.strings_IndexAny_long lays153 hv116 (by kernel_rfl) s chars w h2 h8 hs hcs hascii
def Tryz.lays194_ren:Go.Shelf.Ren:=⟨fun|194=>48|n=>n,fun|31=>55|9=>9|3=>3|4=>4|0=>0|n=>n,fun|n=>n⟩
theorem Tryz.lays194:Go.Proofs.Lays.n194 prog lays194_ren:={
 mixed:=by kernel_rfl
 f194:=func48.trans (congrArg some (by kernel_rfl))
 t0:=underlying0
 a0:=isAgg0
 z0:=sizeOf0
 v0:=zeroValue0
 t3:=underlying3
 a3:=isAgg3
 z3:=sizeOf3
 v3:=zeroValue3
 t4:=underlying4
 a4:=isAgg4
 z4:=sizeOf4
 v4:=zeroValue4
 t9:=underlying9
 a9:=isAgg9
 z9:=sizeOf9
 v9:=zeroValue9
 t31:=underlying55
 a31:=isAgg55
 z31:=sizeOf55
 v31:=zeroValue55}
open Go.RowKit Go.Lib Go.Sort in
theorem Tryz.slices_Compact_string (blk off cap:Nat)(zs:List (List UInt8))(w:World)(hH:Holds encStr w blk off zs.toArray)(hsz:zs.length<=9223372036854775807)(hcap:zs.length<=cap):
  Calls prog 48 #[.slice (some ⟨blk,off,none⟩) zs.length cap] w λe w'=>e= .returned (.slice (some ⟨blk,off,none⟩) (Lib.compact zs).length cap)/\∃q,w'=putRow encStr (Sort.ahead w q) blk off (Lib.compact zs++List.replicate (zs.length-(Lib.compact zs).length) []).toArray:=Any.slices_Compact_string lays194 blk off cap zs w hH hsz hcap
end Go.Proofs
namespace Go.Proofs.YtmdhmodenkjmdaaGreatDoor
set_option maxRecDepth 20000
set_option maxHeartbeats 4000000
end Go.Proofs.YtmdhmodenkjmdaaGreatDoor
