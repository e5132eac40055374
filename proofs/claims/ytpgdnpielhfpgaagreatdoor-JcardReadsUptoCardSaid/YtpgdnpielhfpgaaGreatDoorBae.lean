/- Parts of the proof of jcardReads_card. -/
import Derived.Stop.Asserts
import Derived.Shelf.Strings.Builder1
import Derived.Shelf.Strings.Builder2
import Derived.Shelf.Strings.OnBuilder
import Derived.Shelf.Small.Utf8
import Derived.Shelf.Small.Strs
import Derived.Shelf.Strings.BuilderF
import Derived.Shelf.Strings.BuilderK
import Derived.Shelf.Strings.BuilderRune
import Derived.Shelf.Strings.Builder2Cap
import Derived.Shelf.Strconv.Atoi
import Derived.Shelf.Strconv.Itoa0
import Derived.Shelf.Strconv.Itoa1
import Derived.Shelf.LaysM
import Derived.Shelf.Strconv.Itoa2
import Derived.Shelf.Strconv.Itoa3
import Derived.Shelf.Strconv.Itoa4
import Derived.Shelf.Strconv.AtoiErrFast
import Derived.Shelf.Strconv.ParseIntEmpty
import Derived.Shelf.Strconv.AtoiFail
import Derived.Shelf.Strconv.Clone
import Derived.Shelf.Strconv.SyntaxError
import Derived.Shelf.LaysC
import Derived.Shelf.Strconv.ToError
import Derived.Shelf.Strconv.AtoiErr
import Derived.Shelf.Strconv.Lower
import Derived.Shelf.Strconv.ParseUint10
import Derived.Shelf.Strconv.ParseUint10Empty
import Derived.Shelf.Strconv.ParseUint10Any
import Derived.Shelf.Strconv.ParseInt10
import Derived.Shelf.Strconv.AtoiLong
import Derived.Shelf.Strconv.AtoiInnerAll
import Derived.Shelf.Strconv.RangeError
import Derived.Shelf.Strconv.ToErrorRange
import Derived.Shelf.Strconv.AtoiAll
import Derived.Shelf.Strconv.ErrVarAll
import Derived.Shelf.Strings.Search1
import Derived.Shelf.Strings.Search2
import Derived.Shelf.Strings.Search3
import Derived.Shelf.Strings.Cut
import Derived.Shelf.Strings.Count
import Derived.Shelf.Strings.Shaped
import Derived.Shelf.Strings.LastIndex
import Derived.Shelf.Strings.Prefix
import Derived.Shelf.Strings.Split
import Derived.Shelf.Strings.Fields
import Derived.Shelf.Strings.Replace
import Derived.Shelf.Strings.SplitShaped
import Derived.Shelf.Unicode.Latin
import Derived.Shelf.Unicode.Decode
import Derived.Shelf.Strings.Runes
import Derived.Shelf.Strings.RuneCount
import Derived.Shelf.Strings.IndexAny
import Derived.Shelf.Strings.AsciiSet
import Derived.Shelf.Strings.IndexAnyAll
import Derived.Shelf.Strings.Explode
import Derived.Shelf.Unicode.DecodeSlow
import Derived.Shelf.Unicode.DecodeAny
import Derived.Shelf.Unicode.Is16White
import Derived.Shelf.Unicode.IsSpaceAny
import Derived.Shelf.Unicode.CaseLookup
import Derived.Shelf.Unicode.CaseConvert
import Derived.Shelf.Unicode.CaseTo
import Derived.Shelf.Unicode.CaseLaid
import Derived.Shelf.Strings.MapAny
import Derived.Shelf.Unicode.Is16Any
import Derived.Shelf.Unicode.Is32Any
import Derived.Shelf.Unicode.ExclAny
import Derived.Shelf.Strings.BuilderCap
import Derived.Shelf.Strings.MapGrows
import Derived.Test.YtpgdnpielhfpgaaGreatDoorBad
set_option linter.unusedVariables false
set_option linter.unusedSimpArgs false
set_option linter.unusedSectionVars false
namespace Go.Proofs.YtpgdnpielhfpgaaGreatDoor
open Tryz
set_option maxRecDepth 20000
set_option maxHeartbeats 4000000
section
open Go
structure Lf (Q:Prop):Prop where
 h:Q
structure Lc (a b:Prop):Prop where
 l:a
 r:b
inductive Le:Prop
 |n
inductive Lz:Prop->Prop
 |n:Lz Le
 |c {a b:Prop}:Lz b->Lz (Lc a b)
theorem Lf.l {a b:Prop}(q:Lf (Lc a b)):a:=q.h.l
theorem Lf.r {a b:Prop}(q:Lf (Lc a b)):Lf b:=⟨q.h.r⟩
structure Ct (I:Env) (J:Heap) (p:Prop) (e:Env) (h:Heap):Prop where
 p:p
 s:Env.sub e I
 j:h=J
theorem Ct.w {I:Env}{J:Heap}{p:Prop}{e:Env}{h:Heap}(hp:p:=by first|exact True.intro|assumption|omega)(hs:Env.sub e I:=by repeat (first|exact trivial|refine And.intro rfl ?_))(hj:h=J:=by rfl):Ct I J p e h:=⟨hp,hs,hj⟩
structure Cy {X:Type} (I:X->Env) (J:X->Heap) (Inv:X->Prop) (e:Env) (h:Heap):Prop where
 h:∃x,Inv x/\Env.sub e (I x)/\h=J x
theorem cy {X:Type}{I:X->Env}{J:X->Heap}{Inv:X->Prop}{e:Env}{h:Heap}(x:X)(hp:Inv x)(hs:Env.sub e (I x):=by repeat (first|exact trivial|refine And.intro rfl ?_))(hj:h=J x:=by rfl):Cy I J Inv e h:=⟨⟨x,hp,hs,hj⟩⟩
section
variable {P:Program} [Tab P] {C:Ctx} {n:Nat} {G:Glo} {GL:List (Nat×List AVal)} {env:Env} {H:Heap} {Q:aQ->Env->Heap->Prop}
theorem Kg {f:FuncId}{fn:Func}{c:Code}{avs:List AVal}{Qf:cz->Heap->Prop}{rs:List ResultVar}(hf:P.funcs[f]? =some fn)
  (hc:∀args w,(callFunc f args).run P w= .ok (.enter f args) w) (hb:fn.body=some c) (hn:fn.ntmps=n) (hrs:fn.results=rs.toArray) (hlen:Nat.ble avs.length n=true)
  (h:∀C:Ctx,C.G=G->bN P C n c (ft 0 avs) H (ui P rs Qf)):ae P G f avs H Qf:=
 qZ hf hb hc hn hrs hlen λw0 R0 hG=>(h ⟨w0,R0,eh H,G,hG,[]⟩ rfl).mono λ_ _ _ q=>jV q
theorem fN {f:FuncId}{fn:Func}{c:Code}{avs:List AVal}{Qf:cz->Heap->Prop}{rs:List ResultVar}(hf:P.funcs[f]? =some fn)(hc:∀args w,(callFunc f args).run P w= .ok (.enter f args) w)
  (h:∀C:Ctx,C.G=G->ab G []->bN P C n c (ft 0 avs) H (ui P rs Qf)) (hb:fn.body=some c:=by exact rfl) (hn:fn.ntmps=n:=by exact rfl) (hrs:fn.results=rs.toArray:=by exact rfl) (hlen:Nat.ble avs.length n=true:=by exact rfl):ae P G f avs H Qf:=
 Kg hf hc hb hn hrs hlen λC hC=>h C hC aG
theorem am {c:Code}(hC:C.G=G)(hGL:ab G GL)(h:gh P C n G GL c env H Q):bN P C n c env H Q:=cX hC hGL _ _ _ _ h
theorem dU {a b:Code}{X:Type}(hC:C.G=G)(hGL:ab G GL)(I:X->Env)(J:X->Heap)(Inv:X->Prop)(h1:gh P C n G GL a env H (gG (λe h=>Cy I J Inv e h) Q))(h2:∀x,Inv x->bN P C n b (I x) (J x) Q):bN P C n (.seq a b) env H Q:=
 fY ((cX hC hGL _ _ _ _ h1).mono λx e h q=>by
  cases x with
  |normal=>
   obtain⟨y,hy,hs,rfl⟩:=q.h;exact O3 hs (h2 y hy)
  |exit i=>exact q
  |goto i=>exact q
  |ret=>exact q
  |panic v=>exact q)
theorem cut {a b:Code}(hC:C.G=G)(hGL:ab G GL)(I:Env)(J:Heap)(p:Prop)(h1:gh P C n G GL a env H (gG (λe h=>Ct I J p e h) Q))(h2:p->bN P C n b I J Q):bN P C n (.seq a b) env H Q:=
 fY ((cX hC hGL _ _ _ _ h1).mono λx e h q=>by
  cases x with
  |normal=>
   obtain⟨hp,hs,rfl⟩:=q;exact O3 hs (h2 hp)
  |exit i=>exact q
  |goto i=>exact q
  |ret=>exact q
  |panic v=>exact q)
end
theorem ba {P:Prop}(h:P:=by
  repeat' (first
   |(conv=>whnf);first
    |refine .w ?_|refine .v ?_|apply gW|apply d9
    |(first|apply qt|apply mn|apply qu|apply mq|apply mo|apply jG|apply mm|apply jF)<;>(intro wb;try exact dd wb)
    |apply aF|apply bf|(apply bQ<;>intro wb)
    |(apply bR;intro wb)|(apply yD;assumption;exact rfl)
    |(apply aZ;first|assumption|(apply k1<;>omega)|(apply k2<;>omega)|(apply k3<;>omega))|(apply aL (i:=0) rfl;assumption)|(apply aL (i:=1) rfl;assumption)|(apply aL (i:=2) rfl;assumption)
    |(apply bS;intro wl)|(apply cb;intro wa wk wc wh)|(apply ca;intro wv)|(apply cd;intro wl wq wb)
    |apply cg|(apply bZ<;>intro wb)|(apply Ia.hit;assumption)|(apply Ia.miss;assumption)
    |(apply ak;exact rfl)|(show Rt _ _ _;exact bK)|(show Ct _ _ _ _ _;exact Ct.w)|(apply iv;assumption)
    |exact True.intro|(apply iy;intro wC whC)|apply iw|apply io|(apply ip;exact rfl)|apply cK mixed whC hGL (by kernel_rfl)|apply cK mixed hC hGL (by kernel_rfl)|(apply cq;assumption;(first|assumption|(apply k1<;>omega)|(apply k2<;>omega));exact rfl))
  all_goals (try conv=>whnf)):P:=h
theorem a6 {P Q:Prop}(hQ:Q)(h:Lf Q->P:=by
  intro ww;repeat' (first
   |(conv=>whnf);first
    |refine .w ?_|refine .v ?_|apply gW|apply d9
    |(first|apply qt|apply mn|apply qu|apply mq|apply mo|apply jG|apply mm|apply jF)<;>(intro wb;try exact dd wb)
    |apply aF|apply bf|(apply bQ<;>intro wb)
    |(apply bR;intro wb)|(apply yD;assumption;exact rfl)
    |(apply aZ;first|assumption|(apply k1<;>omega)|(apply k2<;>omega)|(apply k3<;>omega))|(apply aL (i:=0) rfl;assumption)|(apply aL (i:=1) rfl;assumption)|(apply aL (i:=2) rfl;assumption)
    |(apply bS;intro wl)|(apply cb;intro wa wk wc wh)|(apply ca;intro wv)|(apply cd;intro wl wq wb)
    |apply cg|(apply bZ<;>intro wb)|(apply Ia.hit;assumption)|(apply Ia.miss;assumption)
    |(apply ak;exact rfl)|(show Rt _ _ _;exact bK)|(show Ct _ _ _ _ _;exact Ct.w)|(apply iv;assumption)
    |exact True.intro|(apply iy;intro wC whC)|apply iw|apply io|(apply ip;exact rfl)|apply cK mixed whC hGL (by kernel_rfl)|apply cK mixed hC hGL (by kernel_rfl)|(apply cq;assumption;(first|assumption|(apply k1<;>omega)|(apply k2<;>omega));exact rfl))
  all_goals (try conv=>whnf)
  all_goals (repeat (first|revert wb|revert wh|revert wc|revert wk|revert wa|revert wq|revert wl|revert wv|revert whC|revert wC))
  all_goals (apply Lf.h;apply ww)):P:=h ⟨hQ⟩
theorem xw {P Q:Prop}(hQ:Q)(h:Lf Q->P:=by
  intro ww;repeat' (first
   |(conv=>whnf);first
    |refine .w ?_|refine .v ?_|apply gW|apply d9
    |(first|apply qt|apply mn|apply qu|apply mq|apply mo|apply jG|apply mm|apply jF)<;>(intro wb;try exact dd wb)
    |apply aF|apply bf|(apply bQ<;>intro wb)
    |(apply bR;intro wb)|(apply yD;assumption;exact rfl)
    |(apply aZ;first|assumption|(apply k1<;>omega)|(apply k2<;>omega)|(apply k3<;>omega))|(apply aL (i:=0) rfl;assumption)|(apply aL (i:=1) rfl;assumption)|(apply aL (i:=2) rfl;assumption)
    |(apply bS;intro wl)|(apply cb;intro wa wk wc wh)|(apply ca;intro wv)|(apply cd;intro wl wq wb)
    |apply cg|(apply bZ<;>intro wb)|(apply Ia.hit;assumption)|(apply Ia.miss;assumption)
    |(apply ak;exact rfl)|(show Rt _ _ _;exact bK)|(show Ct _ _ _ _ _;exact Ct.w)|(apply iv;assumption)
    |exact True.intro|(apply iy;intro wC whC)|apply iw|apply io|(apply ip;exact rfl)|apply cK mixed whC hGL (by kernel_rfl)|apply cK mixed hC hGL (by kernel_rfl)|(apply cq;assumption;(first|assumption|(apply k1<;>omega)|(apply k2<;>omega));exact rfl))
  all_goals (try conv=>whnf)
  all_goals (repeat (first|revert wb|revert wh|revert wc|revert wk|revert wa|revert wq|revert wl|revert wv|revert whC|revert wC))
  all_goals (apply Lf.l;with_reducible (repeat (first|apply ww|apply Lf.r)))) (e:Lz Q:=by repeat (first|exact Lz.n|apply Lz.c)):P:=h ⟨hQ⟩
theorem cx {P:Prop}(h:P:=by
  repeat' (first
   |(conv=>whnf);first
    |refine .w ?_|refine .v ?_|apply gW|apply d9
    |(first|apply qt|apply mn|apply qu|apply mq|apply mo|apply jG|apply mm|apply jF)<;>(intro wb;try exact dd wb)
    |apply aF|apply bf|(apply bQ<;>intro wb)
    |(apply bR;intro wb)|(apply yD;assumption;exact rfl)
    |(apply aZ;first|assumption|(apply k1<;>omega)|(apply k2<;>omega)|(apply k3<;>omega))|(apply aL (i:=0) rfl;assumption)|(apply aL (i:=1) rfl;assumption)|(apply aL (i:=2) rfl;assumption)
    |(apply bS;intro wl)|(apply cb;intro wa wk wc wh)|(apply ca;intro wv)|(apply cd;intro wl wq wb)
    |apply cg|(apply bZ<;>intro wb)|(apply Ia.hit;assumption)|(apply Ia.miss;assumption)
    |(apply ak;exact rfl)|(show Rt _ _ _;exact bK)|(show Ct _ _ _ _ _;exact Ct.w)|(apply iv;assumption)
    |exact True.intro|(apply iy;intro wC whC)|apply iw|apply io|(apply ip;exact rfl))
  all_goals (try conv=>whnf)):P:=h
theorem az {P Q:Prop}(hQ:Q)(h:Lf Q->P:=by
  intro ww;repeat' (first
   |(conv=>whnf);first
    |refine .w ?_|refine .v ?_|apply gW|apply d9
    |(first|apply qt|apply mn|apply qu|apply mq|apply mo|apply jG|apply mm|apply jF)<;>(intro wb;try exact dd wb)
    |apply aF|apply bf|(apply bQ<;>intro wb)
    |(apply bR;intro wb)|(apply yD;assumption;exact rfl)
    |(apply aZ;first|assumption|(apply k1<;>omega)|(apply k2<;>omega)|(apply k3<;>omega))|(apply aL (i:=0) rfl;assumption)|(apply aL (i:=1) rfl;assumption)|(apply aL (i:=2) rfl;assumption)
    |(apply bS;intro wl)|(apply cb;intro wa wk wc wh)|(apply ca;intro wv)|(apply cd;intro wl wq wb)
    |apply cg|(apply bZ<;>intro wb)|(apply Ia.hit;assumption)|(apply Ia.miss;assumption)
    |(apply ak;exact rfl)|(show Rt _ _ _;exact bK)|(show Ct _ _ _ _ _;exact Ct.w)|(apply iv;assumption)
    |exact True.intro|(apply iy;intro wC whC)|apply iw|apply io|(apply ip;exact rfl))
  all_goals (try conv=>whnf)
  all_goals (repeat (first|revert wb|revert wh|revert wc|revert wk|revert wa|revert wq|revert wl|revert wv|revert whC|revert wC))
  all_goals (apply Lf.h;apply ww)):P:=h ⟨hQ⟩
theorem xn {P Q:Prop}(hQ:Q)(h:Lf Q->P:=by
  intro ww;repeat' (first
   |(conv=>whnf);first
    |refine .w ?_|refine .v ?_|apply gW|apply d9
    |(first|apply qt|apply mn|apply qu|apply mq|apply mo|apply jG|apply mm|apply jF)<;>(intro wb;try exact dd wb)
    |apply aF|apply bf|(apply bQ<;>intro wb)
    |(apply bR;intro wb)|(apply yD;assumption;exact rfl)
    |(apply aZ;first|assumption|(apply k1<;>omega)|(apply k2<;>omega)|(apply k3<;>omega))|(apply aL (i:=0) rfl;assumption)|(apply aL (i:=1) rfl;assumption)|(apply aL (i:=2) rfl;assumption)
    |(apply bS;intro wl)|(apply cb;intro wa wk wc wh)|(apply ca;intro wv)|(apply cd;intro wl wq wb)
    |apply cg|(apply bZ<;>intro wb)|(apply Ia.hit;assumption)|(apply Ia.miss;assumption)
    |(apply ak;exact rfl)|(show Rt _ _ _;exact bK)|(show Ct _ _ _ _ _;exact Ct.w)|(apply iv;assumption)
    |exact True.intro|(apply iy;intro wC whC)|apply iw|apply io|(apply ip;exact rfl))
  all_goals (try conv=>whnf)
  all_goals (repeat (first|revert wb|revert wh|revert wc|revert wk|revert wa|revert wq|revert wl|revert wv|revert whC|revert wC))
  all_goals (apply Lf.l;with_reducible (repeat (first|apply ww|apply Lf.r)))) (e:Lz Q:=by repeat (first|exact Lz.n|apply Lz.c)):P:=h ⟨hQ⟩
theorem Vi {P Q:Prop}(hQ:Q)(h:Lf Q->P:=by
  intro ww;repeat' (first
   |(conv=>whnf);first
    |refine .w ?_|refine .v ?_|apply gW|apply d9
    |(first|apply qt|apply mn|apply qu|apply mq|apply mo|apply jG|apply mm|apply jF)<;>(intro wb;try exact dd wb)
    |apply aF|apply bf|(apply bQ<;>intro wb)
    |(apply bR;intro wb)|(apply yD;assumption;exact rfl)
    |(apply aZ;first|assumption|(apply k1<;>omega)|(apply k2<;>omega)|(apply k3<;>omega))|(apply aL (i:=0) rfl;assumption)|(apply aL (i:=1) rfl;assumption)|(apply aL (i:=2) rfl;assumption)
    |(apply bS;intro wl)|(apply cb;intro wa wk wc wh)|(apply ca;intro wv)|(apply cd;intro wl wq wb)
    |apply RM|(apply bZ<;>intro wb)|(apply Ia.hit;assumption)|(apply Ia.miss;assumption)
    |(apply ak;exact rfl)|(show Rt _ _ _;exact bK)|(show Ct _ _ _ _ _;exact Ct.w)|(apply iv;assumption)
    |exact True.intro|(apply iy;intro wC whC)|apply iw|apply io|(apply ip;exact rfl))
  all_goals (try conv=>whnf)
  all_goals (repeat (first|revert wb|revert wh|revert wc|revert wk|revert wa|revert wq|revert wl|revert wv|revert whC|revert wC))
  all_goals (apply Lf.h;apply ww)):P:=h ⟨hQ⟩
theorem xb {P Q:Prop}(hQ:Q)(h:Lf Q->P:=by
  intro ww;repeat' (first
   |(conv=>whnf);first
    |refine .w ?_|refine .v ?_|apply gW|apply d9
    |(first|apply qt|apply mn|apply qu|apply mq|apply mo|apply jG|apply mm|apply jF)<;>(intro wb;try exact dd wb)
    |apply aF|apply bf|(apply bQ<;>intro wb)
    |(apply bR;intro wb)|(apply yD;assumption;exact rfl)
    |(apply aZ;first|assumption|(apply k1<;>omega)|(apply k2<;>omega)|(apply k3<;>omega))|(apply aL (i:=0) rfl;assumption)|(apply aL (i:=1) rfl;assumption)|(apply aL (i:=2) rfl;assumption)
    |(apply bS;intro wl)|(apply cb;intro wa wk wc wh)|(apply ca;intro wv)|(apply cd;intro wl wq wb)
    |apply RM|(apply bZ<;>intro wb)|(apply Ia.hit;assumption)|(apply Ia.miss;assumption)
    |(apply ak;exact rfl)|(show Rt _ _ _;exact bK)|(show Ct _ _ _ _ _;exact Ct.w)|(apply iv;assumption)
    |exact True.intro|(apply iy;intro wC whC)|apply iw|apply io|(apply ip;exact rfl))
  all_goals (try conv=>whnf)
  all_goals (repeat (first|revert wb|revert wh|revert wc|revert wk|revert wa|revert wq|revert wl|revert wv|revert whC|revert wC))
  all_goals (apply Lf.l;with_reducible (repeat (first|apply ww|apply Lf.r)))) (e:Lz Q:=by repeat (first|exact Lz.n|apply Lz.c)):P:=h ⟨hQ⟩
end
section
open Go Go.Extern
attribute [local irreducible] bN aw aa aC bg ab ae
noncomputable def kN (t:TypeId):Value:=typeHandle prog t
theorem tM (t:Addr)(w:World):(ReflectliteValue.unpack (.iface 108 (.pointer (some t)))).run prog w
  = .ok (.agg #[kN 108,.pointer (some ⟨w.heap.size,0,none⟩),.int .u64 150]) (w.alloc (.cells #[.pointer (some t)] 108)):=by kernel_rfl
theorem qw (e:Int)(w:World):(ReflectliteValue.unpack (.iface 30 (.int .i64 e))).run prog w
  = .ok (.agg #[kN 30,.pointer (some ⟨w.heap.size,0,none⟩),.int .u64 130]) (w.alloc (.cells #[.int .i64 e] 30)):=by kernel_rfl
theorem jJ {R:Seal}{a:AVal}{args:Array Value}(h:dv R [a] args.toList):∃v,args=#[v]/\bE R a v:=by
 obtain⟨x,t,e,hx,rfl⟩:=h;exact⟨x,by cases args;simp_all,hx⟩
theorem qd {R:Seal}{a b:AVal}{args:Array Value}(h:dv R [a,b] args.toList):∃v u,args=#[v,u]/\bE R a v/\bE R b u:=by
 obtain⟨x,t,e,hx,y,t',e',hy,rfl⟩:=h;exact⟨x,y,by cases args;simp_all,hx,hy⟩
theorem lS {R:Seal}{t:TypeId}{a:AVal}{v:Value}(h:bE R (.iface t a) v):∃u,v= .iface t u/\bE R a u:=by
 obtain⟨u,e,h1,h2⟩:=bA h rfl;simp only[List.cons.injEq,and_true] at e;exact⟨u,e,h1,h2⟩
theorem B7 {G:Glo}(bl:Nat):aj prog G 83 [.iface 108 (.raw (.pointer (some ⟨bl,0,none⟩)))]
  (.agg [.raw (kN 108),.rop [.raw (.pointer (some ⟨bl,0,none⟩))] 0,.int .u64 150]):=by
 refine mY func83 (by kernel_rfl) (by kernel_rfl) (by kernel_rfl) (e:=λargs=>ReflectliteValue.unpack (args.getD 0 (.tuple #[]))) (by kernel_rfl) ?_;intro R args w ha;obtain⟨v,rfl,hv⟩:=jJ ha;obtain⟨u,rfl,hu⟩:=lS hv;obtain rfl:=ar.1 hu;refine⟨_,_,_,tM _ w,λR' _ hR=>⟨⟨_,_,rfl,rfl,_,_,rfl,?_,_,_,rfl,rfl,rfl⟩,rfl⟩⟩;exact(gf (R:=R') (cs:=[.raw (.pointer (some ⟨bl,0,none⟩))]) (off:=0) (Nat.le_refl _) ⟨_,_,_,hR,⟨_,_,rfl,rfl,rfl⟩⟩).1
theorem oV {G:Glo}(e:Int):aj prog G 83 [.iface 30 (.int .i64 e)]
  (.agg [.raw (kN 30),.rop [.int .i64 e] 0,.int .u64 130]):=by
 refine mY func83 (by kernel_rfl) (by kernel_rfl) (by kernel_rfl) (e:=λargs=>ReflectliteValue.unpack (args.getD 0 (.tuple #[]))) (by kernel_rfl) ?_;intro R args w ha;obtain⟨v,rfl,hv⟩:=jJ ha;obtain⟨u,rfl,hu⟩:=lS hv;obtain rfl:=aq.1 hu;refine⟨_,_,_,qw _ w,λR' _ hR=>⟨⟨_,_,rfl,rfl,_,_,rfl,?_,_,_,rfl,rfl,rfl⟩,rfl⟩⟩;exact(gf (R:=R') (cs:=[.int .i64 e]) (off:=0) (Nat.le_refl _) ⟨_,_,_,hR,⟨_,_,rfl,rfl,rfl⟩⟩).1
noncomputable abbrev rty (t:TypeId):AVal:=.iface 217 (.agg [.raw (kN t)])
theorem qA {R:Seal}(t:TypeId):bE R (rty t) (.iface 217 (.agg #[kN t])):=⟨⟨_,rfl,⟨_,_,rfl,rfl,rfl⟩,rfl⟩,rfl⟩
theorem im {R:Seal}{x:Value}{v:Value}(hx:cU x=false)(h:bE R (.agg [.raw x]) v):v= .agg #[x]:=by
 obtain⟨h1,h2⟩:=h;cases v<;>simp only[AVal.isAgg,cU,Bool.true_eq_false] at h2
 rename_i cs;obtain⟨a,t,e,ha,rfl⟩:=h1;simp only[Value.cells] at e;have ha:[a]=x.cells.toList:=ha;have:x.cells.toList=[x]:=by cases x<;>first|rfl|(simp[cU] at hx)
 rw[this] at ha;simp only[List.cons.injEq,and_true] at ha;subst ha;have:cs=#[a]:=by cases cs;simp_all
 rw[this]
theorem AJ {R:Seal}{t:TypeId}{v:Value}(h:bE R (rty t) v):v= .iface 217 (.agg #[kN t]):=by
 obtain⟨u,rfl,hu⟩:=lS h;rw[im rfl hu]
theorem rH {R:Seal}{x:Value}{k:IntKind}{n:Int}{c:AVal}{v:Value}(hx:cU x=false)(h:bE R (.agg [.raw x,.rop [c] 0,.int k n]) v):
  ∃b o,v= .agg #[x,.pointer (some ⟨b,o,none⟩),.int k n]/\dz R b o [c]:=by
 obtain⟨h1,h2⟩:=h;cases v<;>simp only[AVal.isAgg,cU,Bool.true_eq_false] at h2
 rename_i cs;obtain⟨a,t,e,ha,a',t',e',ha',a'',t'',e'',ha'',rfl⟩:=h1;simp only[Value.cells] at e;have ha:[a]=x.cells.toList:=ha;have hxl:x.cells.toList=[x]:=by cases x<;>first|rfl|(simp[cU] at hx)
 rw[hxl] at ha;simp only[List.cons.injEq,and_true] at ha;subst ha;have ha'':[a'']=[Value.int k n]:=ha'';simp only[List.cons.injEq,and_true] at ha'';subst ha'';obtain⟨b,o,e2,ho,hs⟩:=gn (cG ha' rfl);subst e2;refine⟨b,o,?_,by simpa using hs⟩;have:cs=#[a,.pointer (some ⟨b,o,none⟩),.int k n]:=by cases cs;simp_all
 rw[this]
theorem p9 {G:Glo}(e:Int):aj prog G 141 [.iface 30 (.int .i64 e)] (rty 30):=by
 refine dH func141 (by kernel_rfl) (by kernel_rfl) (by kernel_rfl) (e:=ReflectliteType.typeOf) (by kernel_rfl) ?_;intro R args ha w;obtain⟨v,rfl,hv⟩:=jJ ha;obtain⟨u,rfl,hu⟩:=lS hv;exact⟨.iface 217 (.agg #[kN 30]),by kernel_rfl,qA _⟩
theorem I5 {G:Glo}(a:AVal):aj prog G 141 [.iface 63 a] (rty 63):=by
 refine dH func141 (by kernel_rfl) (by kernel_rfl) (by kernel_rfl) (e:=ReflectliteType.typeOf) (by kernel_rfl) ?_;intro R args ha w;obtain⟨v,rfl,hv⟩:=jJ ha;obtain⟨u,rfl,hu⟩:=lS hv;exact⟨.iface 217 (.agg #[kN 63]),by kernel_rfl,qA _⟩
theorem LC {G:Glo}(c:AVal):aj prog G 84 [.agg [.raw (kN 108),.rop [c] 0,.int .u64 150]] (rty 108):=by
 refine dH func84 (by kernel_rfl) (by kernel_rfl) (by kernel_rfl)
  (e:=ReflectliteValue.methodAny (ReflectliteValue.valueError "reflectlite.Value.Type" 0) fun t _ _ _=>ReflectliteType.toType t) (by kernel_rfl) ?_
 intro R args ha w
 obtain⟨v,rfl,hv⟩:=jJ ha
 obtain⟨b,o,rfl,_⟩:=rH rfl hv
 exact⟨.iface 217 (.agg #[kN 108]),by kernel_rfl,qA _⟩
theorem EK {G:Glo}(t:TypeId)(k:Int)(h:∀w,(((ReflectliteType.abiMethod λt=>do pure (.int .u8 (<-Rtype.kind t))) #[kN t]).run prog w)= .ok (.int .u8 k) w):aj prog G 300 [.raw (kN t)] (.int .u8 k):=by
 refine dH func300 (by kernel_rfl) (by kernel_rfl) (by kernel_rfl)
  (e:=ReflectliteType.abiMethod λt=>do pure (.int .u8 (<-Rtype.kind t))) (by kernel_rfl) ?_
 intro R args ha w;obtain⟨v,rfl,hv⟩:=jJ ha;obtain rfl:=ar.1 hv;exact⟨.int .u8 k,h w,aq.2 rfl⟩
theorem Nn {G:Glo}:aj prog G 300 [.raw (kN 108)] (.int .u8 22):=EK _ _ (λw=>by kernel_rfl)
theorem F8 {G:Glo}:aj prog G 300 [.raw (kN 30)] (.int .u8 2):=EK _ _ (λw=>by kernel_rfl)
theorem Oe {G:Glo}:aj prog G 312 [.agg [.raw (kN 108)]] (rty 30):=by
 refine dH func312 (by kernel_rfl) (by kernel_rfl) (by kernel_rfl) (e:=ReflectliteType.method ReflectliteType.elem) (by kernel_rfl) ?_;intro R args ha w;obtain⟨v,rfl,hv⟩:=jJ ha;obtain rfl:=im rfl hv;exact⟨.iface 217 (.agg #[kN 30]),by kernel_rfl,qA _⟩
theorem sy {G:Glo}:aj prog G 313 [.agg [.raw (kN 30)],rty 36] (.bool true):=by
 refine dH func313 (by kernel_rfl) (by kernel_rfl) (by kernel_rfl) (e:=ReflectliteType.relation "Implements" ReflectliteType.implements_) (by kernel_rfl) ?_
 intro R args ha w
 obtain⟨v,u,rfl,hv,hu⟩:=qd ha
 obtain rfl:=im rfl hv
 obtain rfl:=AJ hu
 exact⟨.bool true,by kernel_rfl,aW.2 rfl⟩
theorem lZ {G:Glo}:aj prog G 310 [.agg [.raw (kN 30)],rty 30] (.bool true):=by
 refine dH func310 (by kernel_rfl) (by kernel_rfl) (by kernel_rfl) (e:=ReflectliteType.relation "AssignableTo" ReflectliteType.assignableTo) (by kernel_rfl) ?_
 intro R args ha w
 obtain⟨v,u,rfl,hv,hu⟩:=qd ha
 obtain rfl:=im rfl hv
 obtain rfl:=AJ hu
 exact⟨.bool true,by kernel_rfl,aW.2 rfl⟩
theorem yK {G:Glo}:aj prog G 310 [.agg [.raw (kN 63)],rty 30] (.bool false):=by
 refine dH func310 (by kernel_rfl) (by kernel_rfl) (by kernel_rfl) (e:=ReflectliteType.relation "AssignableTo" ReflectliteType.assignableTo) (by kernel_rfl) ?_
 intro R args ha w
 obtain⟨v,u,rfl,hv,hu⟩:=qd ha
 obtain rfl:=im rfl hv
 obtain rfl:=AJ hu
 exact⟨.bool false,by kernel_rfl,aW.2 rfl⟩
theorem rlm (z:Sem Value)(f:TypeId->Addr->Nat->Nat->Sem Value)(v:Value):
  ReflectliteValue.method z f #[v]=(do match <-ReflectliteValue.parts v with|none=>z|some (t,a,fl)=>f t a fl (fl%32)):=rfl
theorem zh (a:Addr)(w:World):(ReflectliteValue.parts (.agg #[kN 108,.pointer (some a),.int .u64 150])).run prog w= .ok (some (108,a,150)) w:=by kernel_rfl
theorem JM (a:Addr)(w:World):(ReflectliteValue.parts (.agg #[kN 30,.pointer (some a),.int .u64 386])).run prog w= .ok (some (30,a,386)) w:=by kernel_rfl
theorem Db (a:Addr)(w:World):(ReflectliteValue.parts (.agg #[kN 30,.pointer (some a),.int .u64 130])).run prog w= .ok (some (30,a,130)) w:=by kernel_rfl
theorem GI (w:World):(Rtype.elem? 108).run prog w= .ok (some 30) w:=by kernel_rfl
theorem TS (p:Addr)(w:World):(ReflectliteValue.mk 30 p ReflectliteValue.flagAddr).run prog w= .ok (.agg #[kN 30,.pointer (some p),.int .u64 386]) w:=by kernel_rfl
theorem J3 {G:Glo}(bl:Nat):aj prog G 85 [.agg [.raw (kN 108),.rop [.raw (.pointer (some ⟨bl,0,none⟩))] 0,.int .u64 150]] (.bool false):=by
 refine iV func85 (by kernel_rfl) (by kernel_rfl) (by kernel_rfl) (e:=ReflectliteValue.method (ReflectliteValue.valueError "reflectlite.Value.IsNil" 0) ReflectliteValue.isNil) (by kernel_rfl) ?_
 intro C R args w hm ha
 obtain⟨v,rfl,hv⟩:=jJ ha
 obtain⟨b,o,rfl,hs⟩:=rH rfl hv
 obtain⟨u,hu,hr⟩:=hs.cell hm.sealed (i:=0) rfl
 rw[Nat.add_zero] at hu
 have hr:[u]=[Value.pointer (some ⟨bl,0,none⟩)]:=hr
 simp only[List.cons.injEq,and_true] at hr
 subst hr
 refine⟨.bool false,w,R,?_,Seal.le_refl R,aW.2 rfl,hm⟩
 rw[rlm]
 simp only[Sem.run_bind,zh,Result.andThen]
 simp[ReflectliteValue.isNil,loadVar,isAgg,underlying,underlying108,hu,Result.andThen]
theorem zW {G:Glo}(bl:Nat):aj prog G 142 [.agg [.raw (kN 108),.rop [.raw (.pointer (some ⟨bl,0,none⟩))] 0,.int .u64 150]] (.agg [.raw (kN 30),.raw (.pointer (some ⟨bl,0,none⟩)),.int .u64 386]):=by
 refine iV func142 (by kernel_rfl) (by kernel_rfl) (by kernel_rfl) (e:=ReflectliteValue.method (ReflectliteValue.valueError "reflectlite.Value.Elem" 0) ReflectliteValue.elem) (by kernel_rfl) ?_
 intro C R args w hm ha
 obtain⟨v,rfl,hv⟩:=jJ ha
 obtain⟨b,o,rfl,hs⟩:=rH rfl hv
 obtain⟨u,hu,hr⟩:=hs.cell hm.sealed (i:=0) rfl
 rw[Nat.add_zero] at hu
 have hr:[u]=[Value.pointer (some ⟨bl,0,none⟩)]:=hr
 simp only[List.cons.injEq,and_true] at hr
 subst hr
 refine⟨.agg #[kN 30,.pointer (some ⟨bl,0,none⟩),.int .u64 386],w,R,?_,Seal.le_refl R,⟨⟨_,_,rfl,rfl,_,_,rfl,rfl,_,_,rfl,rfl,rfl⟩,rfl⟩,hm⟩
 rw[rlm]
 simp only[Sem.run_bind,zh,Result.andThen]
 simp[ReflectliteValue.elem,loadVar,isAgg,underlying,underlying108,hu,Result.andThen,GI,TS]
end
section
open Go Go.Extern
attribute [local irreducible] bN aw aa aC bg ab ae
theorem rls (v x:Value):ReflectliteValue.set #[v,x]=(do
  let (some (dst,a,fl),some (src,b,_)):=(←ReflectliteValue.parts v,←ReflectliteValue.parts x)
   |unsupported (.noEntry "extern/(internal/reflectlite.Value).Set.zeroValue")
  if fl/ReflectliteValue.flagAddr%2==0 then unsupported (.noEntry "extern/(internal/reflectlite.Value).Set.unaddressable")
  let val ←loadVar src b
  if ←Rtype.directlyAssignable dst src then storeVar dst a val
  else if ←Rtype.implements dst src then
   if(←Rtype.kind src)==20 then
    match val with
    |.nilIface=>unsupported (.noEntry "extern/reflectlite: a nil value of one interface type handed on as a value of another")
    |_=>storeVar dst a val
   else storeVar dst a (.iface src val)
  else panicString ("reflectlite.Set: value of type " ++(←Rtype.spelt src)++ " is not assignable to type " ++(←Rtype.spelt dst))
  pure (.tuple #[])):=rfl
theorem Bt (w:World):(Rtype.directlyAssignable 30 30).run prog w= .ok true w:=by kernel_rfl
theorem Pd {R:Seal}{x y:Value}{k:IntKind}{n:Int}{v:Value}(hx:cU x=false)(hy:cU y=false)(h:bE R (.agg [.raw x,.raw y,.int k n]) v):v= .agg #[x,y,.int k n]:=by
 obtain⟨h1,h2⟩:=h;cases v<;>simp only[AVal.isAgg,cU,Bool.true_eq_false] at h2
 rename_i cs;obtain⟨a,t,e,ha,a',t',e',ha',a'',t'',e'',ha'',rfl⟩:=h1;simp only[Value.cells] at e
 have key:∀{z:Value},cU z=false->z.cells.toList=[z]:=by intro z hz;cases z<;>first|rfl|(simp[cU] at hz)
 have ha:[a]=x.cells.toList:=ha
 have ha':[a']=y.cells.toList:=ha'
 rw[key hx] at ha
 rw[key hy] at ha'
 have ha'':[a'']=[Value.int k n]:=ha''
 simp only[List.cons.injEq,and_true] at ha ha' ha''
 subst ha ha' ha''
 have:cs=#[a,a',.int k n]:=by cases cs;simp_all
 rw[this]
theorem y5 {G:Glo}(bl:Nat)(e old:Int):ae prog G 143 [.agg [.raw (kN 30),.raw (.pointer (some ⟨bl,0,none⟩)),.int .u64 386],.agg [.raw (kN 30),.rop [.int .i64 e] 0,.int .u64 130]]
  [.cells bl (some 30) [.int .i64 old]] (λr H=>r= .ret (.tuple [])/\H=[.cells bl (some 30) [.int .i64 e]]):=by
 refine iV func143 (by kernel_rfl) (by kernel_rfl) (by kernel_rfl) (e:=ReflectliteValue.set) (by kernel_rfl) ?_;intro C R args w hm ha;obtain⟨v,u,rfl,hv,hu⟩:=qd ha;obtain rfl:=Pd rfl rfl hv;obtain⟨b,o,rfl,hs⟩:=rH rfl hu;obtain⟨u,hu,hr⟩:=hs.cell hm.sealed (i:=0) rfl;rw[Nat.add_zero] at hu;have hr:[u]=[Value.int .i64 e]:=hr;simp only[List.cons.injEq,and_true] at hr;subst hr;obtain⟨Cs,el,fz,hb,hl,hfz⟩:=jZ hm (i:=0) rfl;have hlen:=aO hl;simp only[Array.length_toList,List.length_cons,List.length_nil] at hlen;obtain⟨w',hst,ho⟩:=ez (P:=prog) [Value.int .i64 e] 0 0 Cs w hb (by simp only[List.length_cons,List.length_nil];omega) hfz.1 (by intro v hv;simp only[List.mem_singleton] at hv;subst hv;exact⟨rfl,λ_=>by simp⟩);refine⟨.tuple #[],w',R,?_,Seal.le_refl R,⟨⟨#[],rfl,rfl⟩,rfl⟩,?_⟩
 ·rw[rls];simp only[Sem.run_bind,JM,Db,Result.andThen];simp[ReflectliteValue.flagAddr,loadVar,isAgg,underlying,underlying30,hu,Result.andThen,Bt,storeVar,Value.cells];rw[hst]
 ·have hd:Cs.toList.drop (0+0+[Value.int .i64 e].length)=[]:=List.drop_eq_nil_of_le (by simp;omega);refine hm.write (i:=0) rfl rfl ho rfl ⟨_,_,_,ho.at_,?_,?_⟩
  ·rw[hd];exact⟨_,_,rfl,rfl,rfl⟩
  ·rw[hd];have:Cs.size=1:=by omega
   rw[this] at hfz;exact hfz
section
variable (t:TypeId)
theorem Nd:∀R v,bE R (.agg [.raw (kN t)]) v→∀w,∃u,(Go.method (prog.types.size+Made.depth) 217 v "Kind").run prog w= .ok (300,u) w∧bE R (.raw (kN t)) u:=by
 intro R v h w
 obtain rfl:=im rfl h
 exact⟨kN t,by kernel_rfl,ar.2 rfl⟩
theorem TW:∀R v,bE R (.agg [.raw (kN t)]) v→∀w,∃u,(Go.method (prog.types.size+Made.depth) 217 v "Elem").run prog w= .ok (312,u) w∧bE R (.agg [.raw (kN t)]) u:=by
 intro R v h w
 obtain rfl:=im rfl h
 exact⟨.agg #[kN t],by kernel_rfl,h⟩
theorem TV:∀R v,bE R (.agg [.raw (kN t)]) v→∀w,∃u,(Go.method (prog.types.size+Made.depth) 217 v "Implements").run prog w= .ok (313,u) w∧bE R (.agg [.raw (kN t)]) u:=by
 intro R v h w
 obtain rfl:=im rfl h
 exact⟨.agg #[kN t],by kernel_rfl,h⟩
theorem FZ:∀R v,bE R (.agg [.raw (kN t)]) v→∀w,∃u,(Go.method (prog.types.size+Made.depth) 217 v "AssignableTo").run prog w= .ok (310,u) w∧bE R (.agg [.raw (kN t)]) u:=by
 intro R v h w
 obtain rfl:=im rfl h
 exact⟨.agg #[kN t],by kernel_rfl,h⟩
end
theorem Nc (a:AVal):∀R v,bE R a v→∀w,∃u,(Go.method (prog.types.size+Made.depth) 63 v "Unwrap").run prog w= .ok (305,u) w∧bE R a u:=by
 intro R v h w
 exact⟨v,by kernel_rfl,h⟩
theorem Ra:∀v w,(Instr.typeAssert (.iface 63 v) 36 222 true).run prog w= .ok (.tuple #[.nilIface,.bool false]) w:=λv w=>run_typeAssert_lacksB (z:=.nilIface) underlying222 (by kernel_rfl) (by kernel_rfl) v _ w
theorem DQ:∀v w,(Instr.typeAssert (.iface 63 v) 36 111 true).run prog w= .ok (.tuple #[.iface 63 v,.bool true]) w:=by intro v w;kernel_rfl
theorem wO:∀v w,(Instr.typeAssert (.iface 30 v) 36 111 true).run prog w= .ok (.tuple #[.nilIface,.bool false]) w:=λv w=>run_typeAssert_lacksB (z:=.nilIface) underlying111 (by kernel_rfl) (by kernel_rfl) v _ w
abbrev fq (e:Int):AVal:=.iface 30 (.int .i64 e)
abbrev BJ (e p:Int):AVal:=.iface 63 (.rop [.int .i64 e,.int .i64 p] 0)
noncomputable abbrev S4 (bl:Nat):AVal:=.agg [.raw (kN 108),.rop [.raw (.pointer (some ⟨bl,0,none⟩))] 0,.int .u64 150]
abbrev PL (bl:Nat):AVal:=.iface 108 (.raw (.pointer (some ⟨bl,0,none⟩)))
theorem KV {G:Glo}(e p:Int):aj prog G 305 [.rop [.int .i64 e,.int .i64 p] 0] (fq e):=by
 refine ao func305 call305 λC hC hGL=> ?_;exact ba
theorem jv {G:Glo}(bl:Nat)(e old:Int):ae prog G 86 [fq e,PL bl,S4 bl,rty 30] [.cells bl (some 30) [.int .i64 old]] (λr H=>r= .ret (.bool true)/\H=[.cells bl (some 30) [.int .i64 e]]):=by
 refine ao func86 call86 λC hC hGL=> ?_;have h1:=p9 (G:=G) e;have h2:=zW (G:=G) bl;have h3:=oV (G:=G) e;have h4:=y5 (G:=G) bl e old;have h5:=lZ (G:=G);have m1:=FZ 30;refine a6 ?_;intros;refine og hC hGL 1 ?_;exact ba
theorem mH {G:Glo}(bl:Nat)(e p old:Int):ae prog G 86 [BJ e p,PL bl,S4 bl,rty 30] [.cells bl (some 30) [.int .i64 old]] (λr H=>r= .ret (.bool true)/\H=[.cells bl (some 30) [.int .i64 e]]):=by
 refine ao func86 call86 λC hC hGL=> ?_;have h1:=p9 (G:=G) e;have h2:=zW (G:=G) bl;have h3:=oV (G:=G) e;have h4:=y5 (G:=G) bl e old;have h5:=lZ (G:=G);have h6:=yK (G:=G);have h7:=I5 (G:=G) (.rop [.int .i64 e,.int .i64 p] 0);have h8:=KV (G:=G) e p;have m1:=FZ 30;have m2:=FZ 63;have m3:=Nc (.rop [.int .i64 e,.int .i64 p] 0);have i1:=Ra;have i2:=DQ;refine a6 ?_;intros;refine og hC hGL 2 ?_;exact ba
noncomputable abbrev errTy:List (Nat×List AVal):=[(0,[rty 36])]
theorem j5 {G:Glo}(hGL:ab G errTy)(bl:Nat)(e:Int){ty:TypeId}{a:AVal}(hs:ae prog G 86 [.iface ty (lB a),PL bl,S4 bl,rty 30] [.cells bl (some 30) [.int .i64 0]] (λr H=>r= .ret (.bool true)/\H=[.cells bl (some 30) [.int .i64 e]])):
  ae prog G 49 [.iface ty a,PL bl] [.cells bl (some 30) [.int .i64 0]] (λr H=>r= .ret (.bool true)/\H=[.cells bl (some 30) [.int .i64 e]]):=by
 refine sF func49 call49 rfl rfl rfl rfl hGL ?_;intro C hC;have h1:=B7 (G:=G) bl;have h2:=LC (G:=G) (.raw (.pointer (some ⟨bl,0,none⟩)));have h3:=J3 (G:=G) bl;have h4:=Nn (G:=G);have h5:=Oe (G:=G);have h6:=F8 (G:=G);have h7:=sy (G:=G);have m1:=Nd 108;have m2:=TW 108;have m3:=Nd 30;have m4:=TV 30;exact ba
theorem rD {G:Glo}:aj prog G 25 [.raw .nilIface] (.int .i64 0):=by
 refine ao func25 call25 λC hC hGL=> ?_;exact ba
theorem nY {G:Glo}(hGL:ab G errTy)(e:Int):aj prog G 25 [fq e] (.int .i64 e):=by
 refine sF func25 call25 rfl rfl rfl rfl hGL ?_;intro C hC;repeat' (first|(conv=>whnf);first|refine .w ?_|refine .v ?_|refine cj ?_ ?_<;>(intro hb;try exact dd hb)|apply aF|apply bf|(apply bQ<;>intro hb)|(apply bR;intro hbd)|(apply aZ;first|exact j5 hGL _ e (jv _ e 0))|(apply aL (i:=0) rfl;first|exact j5 hGL _ e (jv _ e 0))|(apply bS;intro bl)|(apply cb;intro va vk vc hva)|(apply ca;intro v)|(apply cd;intro bl cap hcap)|apply cg|(apply bZ<;>intro hnx)|apply cK mixed hC hGL (by kernel_rfl)|(apply cq;assumption;(first|exact j5 hGL _ e (jv _ e 0));exact rfl)|(show Rt _ _ _;exact bK)|fail)
 all_goals try conv=>whnf
theorem tt {G:Glo}(hGL:ab G errTy)(e p:Int):aj prog G 25 [BJ e p] (.int .i64 e):=by
 refine sF func25 call25 rfl rfl rfl rfl hGL ?_;intro C hC;repeat' (first|(conv=>whnf);first|refine .w ?_|refine .v ?_|refine cj ?_ ?_<;>(intro hb;try exact dd hb)|apply aF|apply bf|(apply bQ<;>intro hb)|(apply bR;intro hbd)|(apply aZ;first|exact j5 hGL _ e (mH _ e p 0))|(apply aL (i:=0) rfl;first|exact j5 hGL _ e (mH _ e p 0))|(apply bS;intro bl)|(apply cb;intro va vk vc hva)|(apply ca;intro v)|(apply cd;intro bl cap hcap)|apply cg|(apply bZ<;>intro hnx)|apply cK mixed hC hGL (by kernel_rfl)|(apply cq;assumption;(first|exact j5 hGL _ e (mH _ e p 0));exact rfl)|(show Rt _ _ _;exact bK)|fail)
 all_goals try conv=>whnf
inductive Err
 |none
 |errno (e:Int)
 |at (e p:Int)
def Err.A:Err->AVal
 |.none=>.raw .nilIface
 |.errno e=>fq e
 |.at e p=>BJ e p
def Err.e:Err->Int
 |.none=>0
 |.errno e=>e
 |.at e _=>e
def Err.p:Err->Int
 |.none=> -1
 |.errno _=> -1
 |.at _ p=>p
theorem rE {G:Glo}(hGL:ab G errTy)(x:Err):aj prog G 25 [x.A] (.int .i64 x.e):=by
 cases x with
 |none=>exact rD
 |errno e=>exact nY hGL e
 | «at» e p=>exact tt hGL e p
theorem tQ {G:Glo}:aj prog G 27 [.raw .nilIface] (.tuple [.int .i64 0,.int .i64 (-1)]):=by
 refine ao func27 call27 λC hC hGL=> ?_;have k1:=rD (G:=G);refine a6 ?_;intros
 refine og hC hGL 1 ?_
 exact ba
theorem qF {G:Glo}(hGL:ab G errTy)(e:Int):aj prog G 27 [fq e] (.tuple [.int .i64 e,.int .i64 (-1)]):=by
 refine sF func27 call27 rfl rfl rfl rfl hGL ?_;intro C hC;have i1:=wO;have k1:=nY hGL e;refine a6 ?_;intros;refine og hC hGL 1 ?_;exact ba
theorem vY {G:Glo}(hGL:ab G errTy)(e p:Int):aj prog G 27 [BJ e p] (.tuple [.int .i64 e,.int .i64 p]):=by
 refine sF func27 call27 rfl rfl rfl rfl hGL ?_;intro C hC;have k1:=tt hGL e p;refine a6 ?_;intros;refine og hC hGL 1 ?_;exact ba
theorem C9 {G:Glo}(hGL:ab G errTy)(x:Err):aj prog G 27 [x.A] (.tuple [.int .i64 x.e,.int .i64 x.p]):=by
 cases x with
 |none=>exact tQ
 |errno e=>exact qF hGL e
 | «at» e p=>exact vY hGL e p
theorem F5 {G:Glo}(hGL:ab G errTy)(x:Err)(e p:Int):aj prog G 7 [x.A,.agg [.int .i64 e,.int .i64 p]] (.bool (cm x.e e&&cm x.p p)):=by
 have hP:=C9 hGL x;cases x;all_goals (
  refine sF func7 call7 rfl rfl rfl rfl hGL ?_;intro C hC;refine xw ?_;repeat' first|exact .n|apply Lc.mk
  all_goals intros
  all_goals (rename_i hb;apply ak;refine congrArg AVal.bool ?_;first|(rw[bP.2 hb,Bool.true_and];done)|(rw[fV.2 hb];rfl)|(rw[bP.2 hb,Bool.true_and];rfl)))
end
section
open Go
theorem bM {s:List UInt8}{j:Nat}(h:j<s.length):aa s j=s[j].toNat:=by
 simp[aa,List.getD,h]
theorem eR {s:List UInt8}{n j:Nat}(h:j<n):aa (s.take n) j=aa s j:=by
 unfold aa;simp[List.getD,List.getElem?_take,h]
attribute [local irreducible] bN aw aa aC bg ab ae
theorem ja {G:Glo}(e:Int):aj prog G 11 [.int .i64 e] (.agg [.int .i64 e,.int .i64 (-1)]):=by
 refine ao func11 call11 λC hC hGL=> ?_;exact ba
theorem fG {G:Glo}:aj prog G 15 [] (.agg [.int .i64 0,.int .i64 (-1)]):=by
 refine ao func15 call15 λC hC hGL=> ?_;exact ba
theorem yU (x:Err):lB x.A=x.A:=by cases x<;>rfl
theorem JK {G:Glo}(hU2:ab G errTy)(x:Err):aj prog G 7 [x.A,.agg [.int .i64 x.e,.int .i64 x.p]] (.bool true):=by
 have:=F5 hU2 x x.e x.p;rwa [bP.2 rfl,bP.2 rfl] at this
end
section
open Go
attribute [local irreducible] bN aw aa aC bg ab ae
theorem kE {s t:List UInt8}(h:t.length=s.length)(hb:∀j,j<s.length->aa t j=aa s j):t=s:=by
 apply List.ext_getElem h;intro i h1 h2;have:=hb i h2;simp only[aa,List.getD,List.getElem?_eq_getElem h1,List.getElem?_eq_getElem h2,Option.getD_some] at this;exact UInt8.toNat_inj.1 this
def dK (low high by_:Int)(c:Nat):Int:=if low<=c/\(c:Int)<=high then c+by_ else c
def al (low high by_:Int)(s:List UInt8):List UInt8:=s.map λc=>UInt8.ofNat (dK low high by_ c.toNat).toNat
theorem Ev {low high by_:Int}(h1:0<=low+by_)(h2:high+by_<=255){s:List UInt8}{j:Nat}(h:j<s.length):(aa (al low high by_ s) j:Int)=dK low high by_ (aa s j):=by
 have e:(aa (al low high by_ s) j)=(UInt8.ofNat (dK low high by_ s[j].toNat).toNat).toNat:=by
  simp[aa,al,List.getD,h]
 have e2:aa s j=s[j].toNat:=by simp[aa,List.getD,h]
 rw[e,e2,UInt8.toNat_ofNat'];have:=UInt8.toNat_lt s[j];unfold dK;split<;>omega
def lu (low high by_:Int)(s:List UInt8)(x:Nat×List UInt8):Prop:=
 x.1<=s.length/\x.2.length=s.length/\∀j,j<s.length->(aa x.2 j:Int)=if j<x.1 then dK low high by_ (aa s j) else aa s j
theorem ve {low high by_:Int}{s:List UInt8}:lu low high by_ s (0,s):=⟨Nat.zero_le _,rfl,λj _=>by rw[if_neg (by simp)]⟩
theorem jW {low high by_:Int}{s:List UInt8}{i:Nat}{t:List UInt8}(h:lu low high by_ s (i,t))(hi:i<s.length):aa t i=aa s i:=by
 have:=h.2.2 i hi;rw[if_neg (by simp)] at this;exact Int.ofNat.inj this
theorem px {low high by_:Int}{s:List UInt8}{i:Nat}{t:List UInt8}(h:lu low high by_ s (i,t))(hi:i<s.length){m:Int}(hm:m=dK low high by_ (aa s i))(h0:0<=m)(h1:m<=255):
  lu low high by_ s (i+1,t.set i (UInt8.ofNat m.toNat)):=by
 obtain⟨h2,h3,h4⟩:=h;refine⟨hi,by simp only[List.length_set];exact h3,λj hj=> ?_⟩;dsimp only at*
 rw[GW (by omega) (by omega) (by omega)];by_cases e:j=i
 ·subst e;rw[if_pos rfl,if_pos (by omega),hm]
 ·rw[if_neg e,h4 j hj];by_cases e2:j<i
  ·rw[if_pos e2,if_pos (by omega)]
  ·rw[if_neg e2,if_neg (by omega)]
theorem ng {low high by_:Int}{s:List UInt8}{i:Nat}{t:List UInt8}(h:lu low high by_ s (i,t))(hi:i<s.length)(hm:dK low high by_ (aa s i)=aa s i):
  lu low high by_ s (i+1,t):=by
 refine⟨hi,h.2.1,λj hj=> ?_⟩;have:=h.2.2 j hj;dsimp only at*
 rw[this];by_cases e:j=i
 ·subst e;rw[if_neg (by omega),if_pos (by omega),hm]
 ·by_cases e2:j<i
  ·rw[if_pos e2,if_pos (by omega)]
  ·rw[if_neg e2,if_neg (by omega)]
theorem py {low high by_:Int}(h1:0<=low+by_)(h2:high+by_<=255){s:List UInt8}{i:Nat}{t:List UInt8}(h:lu low high by_ s (i,t))(hi:s.length<=i):t=al low high by_ s:=by
 refine kE (by simp only[al,List.length_map];exact h.2.1) (λj hj=> ?_);have hj':j<s.length:=by simpa[al] using hj
 have:=h.2.2 j hj';rw[if_pos (show j<i by omega),<-Ev h1 h2 hj'] at this;exact Int.ofNat.inj this
theorem zo {G:Glo}(s:List UInt8)(low high by_:Int)(h1:0<=low+by_)(h2:high+by_<=255)(h3:0<=low)(h4:high<=255)(h5: -300<=by_)(h6:by_<=300)(hl:s.length<=9223372036854775807):
  aj prog G 77 [.str s,.int .u8 low,.int .u8 high,.int .i64 by_] (.str (al low high by_ s)):=by
 refine ao func77 call77 λC hC hGL=> ?_;repeat' (first|(conv=>whnf);first|refine .w ?_|refine .v ?_|refine cj ?_ ?_<;>(intro hb;try exact dd hb)|apply aF|apply bf|(apply bQ<;>intro hb)|(apply bR;intro hbd)|(apply bS;intro bl)|(apply cb;intro va vk vc hva)|(apply ca;intro v)|(apply cd;intro bl cap hcap)|apply cg|(apply bZ<;>intro hnx)|apply cK mixed hC hGL (by kernel_rfl)|(show Rt _ _ _;exact bK)|fail)
 all_goals try conv=>whnf
 refine lp hC hGL (λ(x:Nat×List UInt8)=>[(1,.int .u8 low),(2,.int .u8 high),(3,.int .i64 by_),(9,.own 0 (.slice (some ⟨bl,0,none⟩) s.length cap)),(14,.own 0 (.slice (some ⟨bl,0,none⟩) s.length cap)),(15,.int .i64 s.length),(16,.int .i64 x.1)]) (λx=>[.buf bl x.2 cap]) (lu low high by_ s) (λx=>s.length-x.1) (0,s) ?_ ad rfl ?_
 ·exact ve
 rintro⟨i,t⟩ hI;have hi:=hI.1;have ht:=hI.2.1;dsimp only at hi ht ⊢;refine xw ?_;repeat' first|exact .n|apply Lc.mk
 all_goals intros
 ·refine di (i+1,t.set i (UInt8.ofNat ((aa t i:Int)+by_).toNat)) ?_ ?_ ad rfl
  ·have e:=jW hI (by omega);refine px hI (by omega) ?_ (by omega) (by omega);unfold dK;rw[if_pos (by omega)];omega
  ·dsimp only;omega
 iterate 2
  ·refine di (i+1,t) ?_ ?_ ad rfl
   ·have e:=jW hI (by omega);refine ng hI (by omega) ?_;unfold dK;rw[if_neg (by omega)]
   ·dsimp only;omega
 ·apply ak;rw[py h1 h2 hI (by omega)]
theorem fK {G:Glo}(s:List UInt8)(hl:s.length<=9223372036854775807):aj prog G 43 [.str s] (.str (al 97 122 (-32) s)):=by
 refine ao func43 call43 λC hC hGL=> ?_;have ht:=zo (G:=G) s 97 122 (-32) (by decide) (by decide) (by decide) (by decide) (by decide) (by decide) hl;exact ba
theorem FW {G:Glo}(s:List UInt8)(hl:s.length<=9223372036854775807):aj prog G 149 [.str s] (.str (al 65 90 32 s)):=by
 refine ao func149 call149 λC hC hGL=> ?_;have ht:=zo (G:=G) s 65 90 32 (by decide) (by decide) (by decide) (by decide) (by decide) (by decide) hl;exact ba
theorem sm {G:Glo}(s t:List UInt8)(hl:s.length<=9223372036854775807)(hm:t.length<=9223372036854775807):aj prog G 45 [.str s,.str t] (.bool (aS (al 97 122 (-32) s) (al 97 122 (-32) t))):=by
 refine ao func45 call45 λC hC hGL=> ?_;have h1:=fK (G:=G) s hl;have h2:=fK (G:=G) t hm;exact ba
def cT (c:Int):Bool:=decide ((97<=c/\c<=122)\/(65<=c/\c<=90)\/(48<=c/\c<=57)\/c=45)
theorem sq {c:Int}:cT c=true↔((97<=c/\c<=122)\/(65<=c/\c<=90)\/(48<=c/\c<=57)\/c=45):=by simp[cT]
attribute [local irreducible] cT
theorem nC {G:Glo}(c:Int):aj prog G 195 [.int .u8 c] (.bool (cT c)):=by
 refine ao func195 call195 λC hC hGL=> ?_;refine xw ?_;repeat' first|exact .n|apply Lc.mk
 all_goals intros
 all_goals (apply ak;refine congrArg AVal.bool ?_;rw[Bool.eq_iff_iff];simp only[sq,bP,true_iff];omega)
def Ha (f:Int->Bool)(s:List UInt8):Bool:=s.all λc=>f (c.toNat:Int)
theorem xN {f:Int->Bool}{s:List UInt8}:Ha f s=true↔∀j,j<s.length->f (aa s j)=true:=by
 unfold Ha;rw[List.all_eq_true];constructor
 ·intro h j hj;have:=h s[j] (List.getElem_mem hj)
  simpa[aa,List.getD,hj] using this
 ·intro h c hc
  obtain⟨j,hj,rfl⟩:=List.getElem_of_mem hc
  simpa[aa,List.getD,hj] using h j hj
theorem Pc {f:Int->Bool}{s:List UInt8}{j:Nat}(hj:j<s.length)(h:f (aa s j)=false):Ha f s=false:=by
 rw[Bool.eq_false_iff];intro h2;rw[xN.1 h2 j hj] at h;cases h
theorem bT {p:Nat->Prop}{i:Nat}(h:∀j,j<i->p j)(k:p i):∀j,j<i+1->p j:=by
 intro j hj;by_cases e:j=i
 ·subst e;exact k
 ·exact h j (by omega)
def isS (s:List UInt8):Bool:=Ha cT s&&(decide (s.length≠0)&&decide (s.length<=40))
theorem qJ {G:Glo}(s:List UInt8)(hl:s.length<=9223372036854775807):aj prog G 145 [.str s] (.bool (isS s)):=by
 refine ao func145 call145 λC hC hGL=> ?_;refine a6 ?_;intros;refine lp hC hGL (λ(i:Nat)=>[(0,.str s),(5,.int .i64 s.length),(6,.int .i64 i)]) (λ_=>[]) (λi=>i<=s.length/\∀j,j<i->cT (aa s j)=true) (λi=>s.length-i) 0 ?_ ad rfl ?_
 ·exact⟨Nat.zero_le _,by intro j hj;omega⟩
 rintro i ⟨hi,hb0⟩
 repeat' (first|(conv=>whnf);first|refine .w ?_|refine .v ?_|refine cj ?_ ?_<;>(intro hb;try exact dd hb)|apply aF|apply bf|(apply bQ<;>intro hb)|(apply bR;intro hbd)|(apply aZ;exact nC _)|(apply aL (i:=0) rfl;exact nC _)|(apply bS;intro bl)|(apply cb;intro va vk vc hva)|(apply ca;intro v)|(apply cd;intro bl cap hcap)|apply cg|(apply bZ<;>intro hnx)|apply cK mixed hC hGL (by kernel_rfl)|(apply cq;assumption;exact nC _;exact rfl)|(show Rt _ _ _;exact bK)|fail)
 all_goals try conv=>whnf
 ·refine di (i+1) ?_ ?_ ad rfl
  ·exact⟨by omega,bT hb0 hb⟩
  ·omega
 ·apply ak
  rw[isS,Pc (by omega) hb]
  rfl
 all_goals (
  apply ak
  refine congrArg AVal.bool ?_
  have ha:Ha cT s=true:=xN.2 λj hj=>hb0 j (by omega)
  have e:isS s=true↔(s.length≠0/\s.length<=40):=by simp only[isS,ha,Bool.true_and,Bool.and_eq_true,decide_eq_true_eq]
  rw[Bool.eq_iff_iff,e]
  try simp only[Bool.not_eq_true',mW,reduceCtorEq,false_iff]
  omega)
theorem eY {G:Glo}(m low high:Int):aj prog G 61 [.int .i64 m,.int .i64 low,.int .i64 high] (.bool (decide (low<=m)&&decide (m<=high))):=by
 refine ao func61 call61 λC hC hGL=> ?_;refine xw ?_;repeat' first|exact .n|apply Lc.mk
 all_goals intros
 all_goals (apply ak;refine congrArg AVal.bool ?_;rw[Bool.eq_iff_iff];simp[mW,Bool.not_eq_true']<;>omega)
end
end Go.Proofs.YtpgdnpielhfpgaaGreatDoor
namespace Go.Proofs
open Go.Shelf
def Tryz.lays159_ren:Go.Shelf.Ren:=⟨fun|159=>58|165=>54|166=>55|167=>102|169=>56|230=>103|204=>104|240=>99|241=>100|197=>98|118=>164|168=>165|270=>166|262=>167|276=>161|277=>162|260=>160|242=>207|313=>208|278=>233|274=>234|275=>235|n=>n,fun|9=>9|4=>4|3=>3|5=>5|72=>120|0=>0|76=>122|75=>36|107=>189|70=>118|20=>20|37=>115|127=>186|21=>21|105=>184|164=>160|162=>284|203=>282|119=>205|46=>234|139=>280|138=>279|51=>257|160=>332|208=>348|206=>346|80=>124|n=>n,fun|13=>7|3=>5|4=>6|n=>n⟩
theorem Tryz.lays159:Go.Proofs.Lays.n159 prog lays159_ren:={
 mixed:=by kernel_rfl
 f118:=func164.trans (congrArg some (by kernel_rfl))
 f159:=func58.trans (congrArg some (by kernel_rfl))
 f165:=func54.trans (congrArg some (by kernel_rfl))
 f166:=func55.trans (congrArg some (by kernel_rfl))
 f167:=func102.trans (congrArg some (by kernel_rfl))
 f168:=func165.trans (congrArg some (by kernel_rfl))
 f169:=func56.trans (congrArg some (by kernel_rfl))
 f197:=func98.trans (congrArg some (by kernel_rfl))
 f204:=func104.trans (congrArg some (by kernel_rfl))
 f230:=func103.trans (congrArg some (by kernel_rfl))
 f240:=func99.trans (congrArg some (by kernel_rfl))
 f241:=func100.trans (congrArg some (by kernel_rfl))
 f242:=func207.trans (congrArg some (by kernel_rfl))
 f260:=func160.trans (congrArg some (by kernel_rfl))
 f262:=func167.trans (congrArg some (by kernel_rfl))
 f270:=func166.trans (congrArg some (by kernel_rfl))
 f274:=func234.trans (congrArg some (by kernel_rfl))
 f275:=func235.trans (congrArg some (by kernel_rfl))
 f276:=func161.trans (congrArg some (by kernel_rfl))
 f277:=func162.trans (congrArg some (by kernel_rfl))
 f278:=func233.trans (congrArg some (by kernel_rfl))
 f313:=func208.trans (congrArg some (by kernel_rfl))
 t0:=underlying0
 a0:=isAgg0
 z0:=sizeOf0
 v0:=zeroValue0
 t3:=underlying3
 a3:=isAgg3
 z3:=sizeOf3
 v3:=zeroValue3
 t4:=underlying4
 a4:=isAgg4
 z4:=sizeOf4
 v4:=zeroValue4
 t5:=underlying5
 a5:=isAgg5
 z5:=sizeOf5
 v5:=zeroValue5
 t9:=underlying9
 a9:=isAgg9
 z9:=sizeOf9
 v9:=zeroValue9
 t20:=underlying20
 a20:=isAgg20
 z20:=sizeOf20
 v20:=zeroValue20
 t21:=underlying21
 a21:=isAgg21
 z21:=sizeOf21
 v21:=zeroValue21
 t37:=underlying115
 a37:=isAgg115
 z37:=sizeOf115
 v37:=zeroValue115
 t46:=underlying234
 a46:=isAgg234
 z46:=sizeOf234
 v46:=zeroValue234
 t51:=underlying257
 a51:=isAgg257
 z51:=sizeOf257
 v51:=zeroValue257
 t70:=underlying118
 a70:=isAgg118
 z70:=sizeOf118
 v70:=zeroValue118
 t72:=underlying120
 a72:=isAgg120
 z72:=sizeOf120
 v72:=zeroValue120
 t75:=underlying36
 a75:=isAgg36
 z75:=sizeOf36
 v75:=zeroValue36
 t76:=underlying122
 a76:=isAgg122
 z76:=sizeOf122
 v76:=zeroValue122
 t105:=underlying184
 a105:=isAgg184
 z105:=sizeOf184
 v105:=zeroValue184
 t107:=underlying189
 a107:=isAgg189
 z107:=sizeOf189
 v107:=zeroValue189
 t119:=underlying205
 a119:=isAgg205
 z119:=sizeOf205
 t127:=underlying186
 a127:=isAgg186
 z127:=sizeOf186
 v127:=zeroValue186
 t138:=underlying279
 a138:=isAgg279
 z138:=sizeOf279
 v138:=zeroValue279
 t139:=underlying280
 a139:=isAgg280
 z139:=sizeOf280
 v139:=zeroValue280
 t160:=underlying332
 a160:=isAgg332
 z160:=sizeOf332
 v160:=zeroValue332
 t162:=underlying284
 a162:=isAgg284
 z162:=sizeOf284
 v162:=zeroValue284
 t164:=underlying160
 a164:=isAgg160
 z164:=sizeOf160
 v164:=zeroValue160
 t203:=underlying282
 a203:=isAgg282
 z203:=sizeOf282
 v203:=zeroValue282
 t206:=underlying346
 a206:=isAgg346
 z206:=sizeOf346
 v206:=zeroValue346
 t208:=underlying348
 a208:=isAgg348
 z208:=sizeOf348
 v208:=zeroValue348
 g3:=by kernel_rfl
 g4:=by kernel_rfl
 g13:=by kernel_rfl}
theorem Tryz.Builder_Extra_159:Builder.Extra prog lays159_ren:={
 sizeBuilder:=by kernel_rfl
 liesBuilder:=by kernel_rfl
 t5:=underlying5
 a5:=isAgg5
 z5:=sizeOf5
 v5:=zeroValue5
 infoByte:=by kernel_rfl
 cellsByte:=by kernel_rfl
 sizeByte:=by kernel_rfl
 neB5:=by decide}
open Go.RowKit in
theorem Tryz.strings_ToLower_ascii (s:ByteArray)(w:World)(hs:s.size<=140737488355328)(hascii:∀(j:Nat) (b:UInt8),s.data.toList[j]? =some b->b.toNat<128):
  Calls prog 58 #[.string s] w λe w'=>e= .returned (.string ⟨(Lib.toLowerA s.data.toList).toArray⟩)/\Below w.heap.size w w':=Any.strings_ToLower_ascii lays159 Tryz.Builder_Extra_159 s w hs hascii
def Tryz.lays156_ren:Go.Shelf.Ren:=⟨fun|156=>32|165=>54|166=>55|169=>56|240=>99|241=>100|276=>161|277=>162|n=>n,fun|31=>22|9=>9|3=>3|4=>4|0=>0|20=>20|72=>120|76=>122|70=>118|37=>115|75=>36|127=>186|164=>160|5=>5|80=>124|n=>n,fun|n=>n⟩
theorem Tryz.lays156:Go.Proofs.Lays.n156 prog lays156_ren:={
 mixed:=by kernel_rfl
 f156:=func32.trans (congrArg some (by kernel_rfl))
 f165:=func54.trans (congrArg some (by kernel_rfl))
 f166:=func55.trans (congrArg some (by kernel_rfl))
 f169:=func56.trans (congrArg some (by kernel_rfl))
 f240:=func99.trans (congrArg some (by kernel_rfl))
 f241:=func100.trans (congrArg some (by kernel_rfl))
 f276:=func161.trans (congrArg some (by kernel_rfl))
 f277:=func162.trans (congrArg some (by kernel_rfl))
 t0:=underlying0
 a0:=isAgg0
 z0:=sizeOf0
 v0:=zeroValue0
 t3:=underlying3
 a3:=isAgg3
 z3:=sizeOf3
 v3:=zeroValue3
 t4:=underlying4
 a4:=isAgg4
 z4:=sizeOf4
 v4:=zeroValue4
 t9:=underlying9
 a9:=isAgg9
 z9:=sizeOf9
 v9:=zeroValue9
 t20:=underlying20
 a20:=isAgg20
 z20:=sizeOf20
 v20:=zeroValue20
 t31:=underlying22
 a31:=isAgg22
 z31:=sizeOf22
 v31:=zeroValue22
 t37:=underlying115
 a37:=isAgg115
 z37:=sizeOf115
 v37:=zeroValue115
 t70:=underlying118
 a70:=isAgg118
 z70:=sizeOf118
 v70:=zeroValue118
 t72:=underlying120
 a72:=isAgg120
 z72:=sizeOf120
 v72:=zeroValue120
 t75:=underlying36
 a75:=isAgg36
 z75:=sizeOf36
 v75:=zeroValue36
 t76:=underlying122
 a76:=isAgg122
 z76:=sizeOf122
 v76:=zeroValue122
 t127:=underlying186
 a127:=isAgg186
 z127:=sizeOf186
 v127:=zeroValue186
 t164:=underlying160
 a164:=isAgg160
 z164:=sizeOf160
 v164:=zeroValue160}
theorem Tryz.Builder_Extra_156:Builder.Extra prog lays156_ren:={
 sizeBuilder:=by kernel_rfl
 liesBuilder:=by kernel_rfl
 t5:=underlying5
 a5:=isAgg5
 z5:=sizeOf5
 v5:=zeroValue5
 infoByte:=by kernel_rfl
 cellsByte:=by kernel_rfl
 sizeByte:=by kernel_rfl
 neB5:=by decide}
open Go.RowKit in
theorem Tryz.strings_Join_none (a:Option Addr)(c:Nat)(sep:ByteArray)(w:World):
  Calls prog 32 #[.slice a 0 c,.string sep] w λe w'=>e= .returned (.string ⟨#[]⟩)/\w'=w:=Any.strings_Join_none lays156 Tryz.Builder_Extra_156 a c sep w
open Go.RowKit in
theorem Tryz.strings_Join (bk o c:Nat)(xs:List ByteArray)(sep:ByteArray)(w:World)(hcells:∀(j:Nat) x,xs[j]? =some x->w.cell? ⟨bk,o+j,none⟩=some (.string x))(hbk:bk<w.heap.size)(hN:xs.length<=140737488355328)(hcap:xs.length<=c)(hlen:(Lib.join (xs.map (·.data.toList)) sep.data.toList).length<=140737488355328):
  Calls prog 32 #[.slice (some ⟨bk,o,none⟩) xs.length c,.string sep] w λe w'=>e= .returned (.string ⟨(Lib.join (xs.map (·.data.toList)) sep.data.toList).toArray⟩)/\Below w.heap.size w w':=Any.strings_Join lays156 Tryz.Builder_Extra_156 bk o c xs sep w hcells hbk hN hcap hlen
def Tryz.laysM171_ren:Go.Shelf.Ren:=⟨fun|171=>173|243=>211|246=>238|283=>247|284=>248|285=>249|286=>250|129=>258|317=>257|318=>259|319=>260|320=>261|337=>268|338=>269|n=>n,fun|3=>3|9=>9|2=>2|4=>4|171=>349|0=>0|53=>300|37=>115|5=>5|173=>352|212=>369|51=>257|20=>20|213=>370|46=>234|232=>396|233=>397|n=>n,fun|17=>10|18=>11|19=>12|n=>n⟩
theorem Tryz.laysM171:Go.Proofs.LaysM.n171 prog laysM171_ren:={
 mixed:=by kernel_rfl
 f129:=func258.trans (congrArg some (by kernel_rfl))
 f171:=func173.trans (congrArg some (by kernel_rfl))
 f243:=func211.trans (congrArg some (by kernel_rfl))
 f246:=func238.trans (congrArg some (by kernel_rfl))
 f283:=func247.trans (congrArg some (by kernel_rfl))
 f284:=func248.trans (congrArg some (by kernel_rfl))
 f285:=func249.trans (congrArg some (by kernel_rfl))
 f286:=func250.trans (congrArg some (by kernel_rfl))
 f317:=func257.trans (congrArg some (by kernel_rfl))
 f318:=func259.trans (congrArg some (by kernel_rfl))
 f319:=func260.trans (congrArg some (by kernel_rfl))
 f320:=func261.trans (congrArg some (by kernel_rfl))
 f337:=func268.trans (congrArg some (by kernel_rfl))
 f338:=func269.trans (congrArg some (by kernel_rfl))
 t0:=underlying0
 a0:=isAgg0
 z0:=sizeOf0
 v0:=zeroValue0
 t2:=underlying2
 a2:=isAgg2
 z2:=sizeOf2
 v2:=zeroValue2
 t3:=underlying3
 a3:=isAgg3
 z3:=sizeOf3
 v3:=zeroValue3
 t4:=underlying4
 a4:=isAgg4
 z4:=sizeOf4
 v4:=zeroValue4
 t5:=underlying5
 a5:=isAgg5
 z5:=sizeOf5
 v5:=zeroValue5
 t9:=underlying9
 a9:=isAgg9
 z9:=sizeOf9
 v9:=zeroValue9
 t20:=underlying20
 a20:=isAgg20
 z20:=sizeOf20
 v20:=zeroValue20
 t37:=underlying115
 a37:=isAgg115
 z37:=sizeOf115
 v37:=zeroValue115
 t46:=underlying234
 a46:=isAgg234
 z46:=sizeOf234
 v46:=zeroValue234
 t51:=underlying257
 a51:=isAgg257
 z51:=sizeOf257
 v51:=zeroValue257
 t53:=underlying300
 a53:=isAgg300
 z53:=sizeOf300
 v53:=zeroValue300
 t171:=underlying349
 a171:=isAgg349
 z171:=sizeOf349
 v171:=zeroValue349
 t173:=underlying352
 a173:=isAgg352
 z173:=sizeOf352
 v173:=zeroValue352
 t212:=underlying369
 a212:=isAgg369
 z212:=sizeOf369
 v212:=zeroValue369
 t213:=underlying370
 a213:=isAgg370
 z213:=sizeOf370
 t232:=underlying396
 a232:=isAgg396
 z232:=sizeOf396
 v232:=zeroValue396
 t233:=underlying397
 a233:=isAgg397
 z233:=sizeOf397
 v233:=zeroValue397
 g17:=by kernel_rfl
 g18:=by kernel_rfl
 g19:=by kernel_rfl
 i0:=by kernel_rfl
 i2:=by kernel_rfl
 i3:=by kernel_rfl
 i4:=by kernel_rfl
 i5:=by kernel_rfl
 i9:=by kernel_rfl
 i20:=by kernel_rfl
 i37:=by kernel_rfl
 i46:=by kernel_rfl
 i51:=by kernel_rfl
 i53:=by kernel_rfl
 i171:=by kernel_rfl
 i173:=by kernel_rfl
 i212:=by kernel_rfl
 i232:=by kernel_rfl
 i233:=by kernel_rfl
 m17:=by kernel_rfl
 m18:=by kernel_rfl
 m19:=by kernel_rfl}
open Go.RowKit Go.Sort Go.Lib in
theorem Tryz.strconv_Itoa (n:Int)(h0: -9223372036854775808≤n)(h1:n≤9223372036854775807)(w:World)(htab:Lib.TabIs prog w "internal/strconv.uint64pow10" .u64 Lib.pow10Tab):
  Calls prog 173 #[.int .i64 n] w fun e w'=>e= .returned (.string ⟨(Lib.itoa n).toArray⟩)∧∃k os,w'=grow (w.drewN k) os:=Any.strconv_Itoa laysM171 n h0 h1 w htab
def Tryz.laysM173_ren:Go.Shelf.Ren:=⟨fun|173=>239|246=>238|283=>247|284=>248|285=>249|286=>250|129=>258|317=>257|318=>259|319=>260|320=>261|337=>268|338=>269|n=>n,fun|2=>2|3=>3|9=>9|4=>4|171=>349|0=>0|53=>300|37=>115|5=>5|173=>352|212=>369|51=>257|20=>20|213=>370|46=>234|232=>396|233=>397|n=>n,fun|17=>10|18=>11|19=>12|n=>n⟩
theorem Tryz.laysM173:Go.Proofs.LaysM.n173 prog laysM173_ren:={
 mixed:=by kernel_rfl
 f129:=func258.trans (congrArg some (by kernel_rfl))
 f173:=func239.trans (congrArg some (by kernel_rfl))
 f246:=func238.trans (congrArg some (by kernel_rfl))
 f283:=func247.trans (congrArg some (by kernel_rfl))
 f284:=func248.trans (congrArg some (by kernel_rfl))
 f285:=func249.trans (congrArg some (by kernel_rfl))
 f286:=func250.trans (congrArg some (by kernel_rfl))
 f317:=func257.trans (congrArg some (by kernel_rfl))
 f318:=func259.trans (congrArg some (by kernel_rfl))
 f319:=func260.trans (congrArg some (by kernel_rfl))
 f320:=func261.trans (congrArg some (by kernel_rfl))
 f337:=func268.trans (congrArg some (by kernel_rfl))
 f338:=func269.trans (congrArg some (by kernel_rfl))
 t0:=underlying0
 a0:=isAgg0
 z0:=sizeOf0
 v0:=zeroValue0
 t2:=underlying2
 a2:=isAgg2
 z2:=sizeOf2
 v2:=zeroValue2
 t3:=underlying3
 a3:=isAgg3
 z3:=sizeOf3
 v3:=zeroValue3
 t4:=underlying4
 a4:=isAgg4
 z4:=sizeOf4
 v4:=zeroValue4
 t5:=underlying5
 a5:=isAgg5
 z5:=sizeOf5
 v5:=zeroValue5
 t9:=underlying9
 a9:=isAgg9
 z9:=sizeOf9
 v9:=zeroValue9
 t20:=underlying20
 a20:=isAgg20
 z20:=sizeOf20
 v20:=zeroValue20
 t37:=underlying115
 a37:=isAgg115
 z37:=sizeOf115
 v37:=zeroValue115
 t46:=underlying234
 a46:=isAgg234
 z46:=sizeOf234
 v46:=zeroValue234
 t51:=underlying257
 a51:=isAgg257
 z51:=sizeOf257
 v51:=zeroValue257
 t53:=underlying300
 a53:=isAgg300
 z53:=sizeOf300
 v53:=zeroValue300
 t171:=underlying349
 a171:=isAgg349
 z171:=sizeOf349
 v171:=zeroValue349
 t173:=underlying352
 a173:=isAgg352
 z173:=sizeOf352
 v173:=zeroValue352
 t212:=underlying369
 a212:=isAgg369
 z212:=sizeOf369
 v212:=zeroValue369
 t213:=underlying370
 a213:=isAgg370
 z213:=sizeOf370
 t232:=underlying396
 a232:=isAgg396
 z232:=sizeOf396
 v232:=zeroValue396
 t233:=underlying397
 a233:=isAgg397
 z233:=sizeOf397
 v233:=zeroValue397
 g17:=by kernel_rfl
 g18:=by kernel_rfl
 g19:=by kernel_rfl
 i0:=by kernel_rfl
 i2:=by kernel_rfl
 i3:=by kernel_rfl
 i4:=by kernel_rfl
 i5:=by kernel_rfl
 i9:=by kernel_rfl
 i20:=by kernel_rfl
 i37:=by kernel_rfl
 i46:=by kernel_rfl
 i51:=by kernel_rfl
 i53:=by kernel_rfl
 i171:=by kernel_rfl
 i173:=by kernel_rfl
 i212:=by kernel_rfl
 i232:=by kernel_rfl
 i233:=by kernel_rfl
 m17:=by kernel_rfl
 m18:=by kernel_rfl
 m19:=by kernel_rfl}
open Go.RowKit Go.Sort Go.Lib in
theorem Tryz.strconv_FormatInt_10 (n:Int)(h0: -9223372036854775808≤n)(h1:n≤9223372036854775807)(w:World)(htab:Lib.TabIs prog w "internal/strconv.uint64pow10" .u64 Lib.pow10Tab):
  Calls prog 239 #[.int .i64 n,.int .i64 10] w fun e w'=>e= .returned (.string ⟨(Lib.itoa n).toArray⟩)∧∃k os,w'=grow (w.drewN k) os:=Any.strconv_FormatInt_10 laysM173 n h0 h1 w htab
def Tryz.lays173_ren:Go.Shelf.Ren:=⟨fun|173=>239|246=>238|283=>247|284=>248|285=>249|286=>250|129=>258|317=>257|318=>259|319=>260|320=>261|337=>268|338=>269|n=>n,fun|2=>2|3=>3|9=>9|4=>4|171=>349|0=>0|53=>300|37=>115|5=>5|173=>352|212=>369|51=>257|20=>20|213=>370|46=>234|232=>396|233=>397|n=>n,fun|17=>10|18=>11|19=>12|n=>n⟩
theorem Tryz.lays173:Go.Proofs.Lays.n173 prog lays173_ren:={
 mixed:=by kernel_rfl
 f129:=func258.trans (congrArg some (by kernel_rfl))
 f173:=func239.trans (congrArg some (by kernel_rfl))
 f246:=func238.trans (congrArg some (by kernel_rfl))
 f283:=func247.trans (congrArg some (by kernel_rfl))
 f284:=func248.trans (congrArg some (by kernel_rfl))
 f285:=func249.trans (congrArg some (by kernel_rfl))
 f286:=func250.trans (congrArg some (by kernel_rfl))
 f317:=func257.trans (congrArg some (by kernel_rfl))
 f318:=func259.trans (congrArg some (by kernel_rfl))
 f319:=func260.trans (congrArg some (by kernel_rfl))
 f320:=func261.trans (congrArg some (by kernel_rfl))
 f337:=func268.trans (congrArg some (by kernel_rfl))
 f338:=func269.trans (congrArg some (by kernel_rfl))
 t0:=underlying0
 a0:=isAgg0
 z0:=sizeOf0
 v0:=zeroValue0
 t2:=underlying2
 a2:=isAgg2
 z2:=sizeOf2
 v2:=zeroValue2
 t3:=underlying3
 a3:=isAgg3
 z3:=sizeOf3
 v3:=zeroValue3
 t4:=underlying4
 a4:=isAgg4
 z4:=sizeOf4
 v4:=zeroValue4
 t5:=underlying5
 a5:=isAgg5
 z5:=sizeOf5
 v5:=zeroValue5
 t9:=underlying9
 a9:=isAgg9
 z9:=sizeOf9
 v9:=zeroValue9
 t20:=underlying20
 a20:=isAgg20
 z20:=sizeOf20
 v20:=zeroValue20
 t37:=underlying115
 a37:=isAgg115
 z37:=sizeOf115
 v37:=zeroValue115
 t46:=underlying234
 a46:=isAgg234
 z46:=sizeOf234
 v46:=zeroValue234
 t51:=underlying257
 a51:=isAgg257
 z51:=sizeOf257
 v51:=zeroValue257
 t53:=underlying300
 a53:=isAgg300
 z53:=sizeOf300
 v53:=zeroValue300
 t171:=underlying349
 a171:=isAgg349
 z171:=sizeOf349
 v171:=zeroValue349
 t173:=underlying352
 a173:=isAgg352
 z173:=sizeOf352
 v173:=zeroValue352
 t212:=underlying369
 a212:=isAgg369
 z212:=sizeOf369
 v212:=zeroValue369
 t213:=underlying370
 a213:=isAgg370
 z213:=sizeOf370
 t232:=underlying396
 a232:=isAgg396
 z232:=sizeOf396
 v232:=zeroValue396
 t233:=underlying397
 a233:=isAgg397
 z233:=sizeOf397
 v233:=zeroValue397
 g17:=by kernel_rfl
 g18:=by kernel_rfl
 g19:=by kernel_rfl}
open Go.RowKit Go.Sort Go.Lib in
theorem Tryz.strconv_FormatInt_10_small (i:Nat)(hi:i<100)(w:World):
  Calls prog 239 #[.int .i64 i,.int .i64 10] w λe w'=>e= .returned (.string ⟨(Lib.decDigits i).toArray⟩)/\w'=w:=Any.strconv_FormatInt_10_small lays173 i hi w
def Tryz.laysC172_ren:Go.Shelf.Ren:=⟨fun|172=>81|244=>131|245=>132|247=>184|279=>185|280=>186|281=>187|282=>188|287=>217|316=>218|171=>173|205=>219|321=>240|322=>241|243=>211|246=>238|283=>247|284=>248|285=>249|286=>250|129=>258|317=>257|318=>259|319=>260|320=>261|337=>268|338=>269|n=>n,fun|9=>9|3=>3|75=>36|76=>122|4=>4|5=>5|167=>260|37=>115|0=>0|85=>261|2=>2|168=>263|53=>300|175=>301|46=>234|210=>304|127=>186|145=>341|143=>339|21=>21|171=>349|173=>352|212=>369|51=>257|20=>20|213=>370|232=>396|233=>397|80=>124|n=>n,fun|15=>8|16=>9|17=>10|18=>11|19=>12|n=>n⟩
theorem Tryz.laysC172:Go.Proofs.LaysC.n172 prog laysC172_ren:={
 mixed:=by kernel_rfl
 f129:=func258.trans (congrArg some (by kernel_rfl))
 f171:=func173.trans (congrArg some (by kernel_rfl))
 f172:=func81.trans (congrArg some (by kernel_rfl))
 f205:=func219.trans (congrArg some (by kernel_rfl))
 f243:=func211.trans (congrArg some (by kernel_rfl))
 f244:=func131.trans (congrArg some (by kernel_rfl))
 f245:=func132.trans (congrArg some (by kernel_rfl))
 f246:=func238.trans (congrArg some (by kernel_rfl))
 f247:=func184.trans (congrArg some (by kernel_rfl))
 f279:=func185.trans (congrArg some (by kernel_rfl))
 f280:=func186.trans (congrArg some (by kernel_rfl))
 f281:=func187.trans (congrArg some (by kernel_rfl))
 f282:=func188.trans (congrArg some (by kernel_rfl))
 f283:=func247.trans (congrArg some (by kernel_rfl))
 f284:=func248.trans (congrArg some (by kernel_rfl))
 f285:=func249.trans (congrArg some (by kernel_rfl))
 f286:=func250.trans (congrArg some (by kernel_rfl))
 f287:=func217.trans (congrArg some (by kernel_rfl))
 f316:=func218.trans (congrArg some (by kernel_rfl))
 f317:=func257.trans (congrArg some (by kernel_rfl))
 f318:=func259.trans (congrArg some (by kernel_rfl))
 f319:=func260.trans (congrArg some (by kernel_rfl))
 f320:=func261.trans (congrArg some (by kernel_rfl))
 f321:=func240.trans (congrArg some (by kernel_rfl))
 f322:=func241.trans (congrArg some (by kernel_rfl))
 f337:=func268.trans (congrArg some (by kernel_rfl))
 f338:=func269.trans (congrArg some (by kernel_rfl))
 t0:=underlying0
 a0:=isAgg0
 z0:=sizeOf0
 v0:=zeroValue0
 t2:=underlying2
 a2:=isAgg2
 z2:=sizeOf2
 v2:=zeroValue2
 t3:=underlying3
 a3:=isAgg3
 z3:=sizeOf3
 v3:=zeroValue3
 t4:=underlying4
 a4:=isAgg4
 z4:=sizeOf4
 v4:=zeroValue4
 t5:=underlying5
 a5:=isAgg5
 z5:=sizeOf5
 v5:=zeroValue5
 t9:=underlying9
 a9:=isAgg9
 z9:=sizeOf9
 v9:=zeroValue9
 t20:=underlying20
 a20:=isAgg20
 z20:=sizeOf20
 v20:=zeroValue20
 t21:=underlying21
 a21:=isAgg21
 z21:=sizeOf21
 v21:=zeroValue21
 t37:=underlying115
 a37:=isAgg115
 z37:=sizeOf115
 v37:=zeroValue115
 t46:=underlying234
 a46:=isAgg234
 z46:=sizeOf234
 v46:=zeroValue234
 t51:=underlying257
 a51:=isAgg257
 z51:=sizeOf257
 v51:=zeroValue257
 t53:=underlying300
 a53:=isAgg300
 z53:=sizeOf300
 v53:=zeroValue300
 t75:=underlying36
 a75:=isAgg36
 z75:=sizeOf36
 v75:=zeroValue36
 t76:=underlying122
 a76:=isAgg122
 z76:=sizeOf122
 v76:=zeroValue122
 t85:=underlying261
 a85:=isAgg261
 z85:=sizeOf261
 v85:=zeroValue261
 t127:=underlying186
 a127:=isAgg186
 z127:=sizeOf186
 v127:=zeroValue186
 t143:=underlying339
 a143:=isAgg339
 z143:=sizeOf339
 v143:=zeroValue339
 t145:=underlying341
 a145:=isAgg341
 z145:=sizeOf341
 v145:=zeroValue341
 t167:=underlying260
 a167:=isAgg260
 z167:=sizeOf260
 v167:=zeroValue260
 t168:=underlying263
 a168:=isAgg263
 z168:=sizeOf263
 v168:=zeroValue263
 t171:=underlying349
 a171:=isAgg349
 z171:=sizeOf349
 v171:=zeroValue349
 t173:=underlying352
 a173:=isAgg352
 z173:=sizeOf352
 v173:=zeroValue352
 t175:=underlying301
 a175:=isAgg301
 z175:=sizeOf301
 v175:=zeroValue301
 t210:=underlying304
 a210:=isAgg304
 z210:=sizeOf304
 v210:=zeroValue304
 t212:=underlying369
 a212:=isAgg369
 z212:=sizeOf369
 v212:=zeroValue369
 t213:=underlying370
 a213:=isAgg370
 z213:=sizeOf370
 t232:=underlying396
 a232:=isAgg396
 z232:=sizeOf396
 v232:=zeroValue396
 t233:=underlying397
 a233:=isAgg397
 z233:=sizeOf397
 v233:=zeroValue397
 g15:=by kernel_rfl
 g16:=by kernel_rfl
 g17:=by kernel_rfl
 g18:=by kernel_rfl
 g19:=by kernel_rfl
 t80:=underlying124
 a80:=isAgg124
 z80:=sizeOf124
 v80:=zeroValue124
 i0:=by kernel_rfl
 i2:=by kernel_rfl
 i3:=by kernel_rfl
 i4:=by kernel_rfl
 i5:=by kernel_rfl
 i9:=by kernel_rfl
 i20:=by kernel_rfl
 i21:=by kernel_rfl
 i37:=by kernel_rfl
 i46:=by kernel_rfl
 i51:=by kernel_rfl
 i53:=by kernel_rfl
 i75:=by kernel_rfl
 i76:=by kernel_rfl
 i80:=by kernel_rfl
 i85:=by kernel_rfl
 i127:=by kernel_rfl
 i143:=by kernel_rfl
 i145:=by kernel_rfl
 i167:=by kernel_rfl
 i168:=by kernel_rfl
 i171:=by kernel_rfl
 i173:=by kernel_rfl
 i175:=by kernel_rfl
 i210:=by kernel_rfl
 i212:=by kernel_rfl
 i232:=by kernel_rfl
 i233:=by kernel_rfl
 m15:=by kernel_rfl
 m16:=by kernel_rfl
 m17:=by kernel_rfl
 m18:=by kernel_rfl
 m19:=by kernel_rfl
 c0:=by kernel_rfl
 c2:=by kernel_rfl
 c3:=by kernel_rfl
 c4:=by kernel_rfl
 c5:=by kernel_rfl
 c9:=by kernel_rfl
 c20:=by kernel_rfl
 c21:=by kernel_rfl
 c37:=by kernel_rfl
 c46:=by kernel_rfl
 c51:=by kernel_rfl
 c53:=by kernel_rfl
 c75:=by kernel_rfl
 c76:=by kernel_rfl
 c80:=by kernel_rfl
 c85:=by kernel_rfl
 c127:=by kernel_rfl
 c143:=by kernel_rfl
 c145:=by kernel_rfl
 c167:=by kernel_rfl
 c168:=by kernel_rfl
 c171:=by kernel_rfl
 c173:=by kernel_rfl
 c175:=by kernel_rfl
 c210:=by kernel_rfl
 c212:=by kernel_rfl
 c213:=by kernel_rfl
 c232:=by kernel_rfl
 c233:=by kernel_rfl}
open Go.RowKit in
theorem Tryz.strconv_Atoi_ok (s:ByteArray)(hmax:s.size<=9223372036854775806)(v:Int)(h:Lib.atoiAll s.data.toList= .ok v)(w:World):
  Calls prog 81 #[.string s] w λe w'=>e= .returned (.tuple #[.int .i64 v,.nilIface])/\(w'=w\/∃t,w'=Lib.bytesWorld w 5 t):=Any.strconv_Atoi_ok laysC172 s hmax v h w
open Go.RowKit in
theorem Tryz.strconv_Atoi_syntax (s:ByteArray)(hlim:s.size<=281474976710656)(h:Lib.atoiAll s.data.toList=Lib.NumEnd.syntax)(ev:Value)(w:World)(hv:w.cell? ⟨8,0,none⟩=some ev)(hev:ev= .nilIface\/∃te pe,ev= .iface te pe):
  Calls prog 81 #[.string s] w λe w'=>∃N,e= .returned (.tuple #[.int .i64 (0),.iface 263 (.pointer (some ⟨N,0,none⟩))])/\w.heap.size<=N/\w'.heap[N]? =some (.cells #[.string ⟨#[65,116,111,105]⟩,.string s,ev] 304 (0,0))/\Below w.heap.size w w':=Any.strconv_Atoi_syntax laysC172 s hlim h ev w hv hev
open Go.RowKit in
theorem Tryz.strconv_Atoi_range (s:ByteArray)(hlim:s.size<=281474976710656)(h:Lib.atoiAll s.data.toList= .range)(ev:Value)(w:World)(hv:w.cell? ⟨9,0,none⟩=some ev)(hev:ev= .nilIface\/∃te pe,ev= .iface te pe):
  Calls prog 81 #[.string s] w λe w'=>∃N,e= .returned (.tuple #[.int .i64 (Lib.atoiSat s.data.toList),.iface 263 (.pointer (some ⟨N,0,none⟩))])/\w.heap.size<=N/\w'.heap[N]? =some (.cells #[.string ⟨#[65,116,111,105]⟩,.string s,ev] 304 (0,0))/\Below w.heap.size w w':=Any.strconv_Atoi_range laysC172 s hlim h ev w hv hev
def Tryz.lays144_ren:Go.Shelf.Ren:=⟨fun|144=>29|143=>52|219=>97|217=>101|225=>157|224=>158|267=>159|266=>163|314=>206|n=>n,fun|9=>9|4=>4|3=>3|5=>5|46=>234|146=>276|51=>257|n=>n,fun|1=>3|n=>n⟩
theorem Tryz.lays144:Go.Proofs.Lays.n144 prog lays144_ren:={
 mixed:=by kernel_rfl
 f143:=func52.trans (congrArg some (by kernel_rfl))
 f144:=func29.trans (congrArg some (by kernel_rfl))
 f217:=func101.trans (congrArg some (by kernel_rfl))
 f219:=func97.trans (congrArg some (by kernel_rfl))
 f224:=func158.trans (congrArg some (by kernel_rfl))
 f225:=func157.trans (congrArg some (by kernel_rfl))
 f266:=func163.trans (congrArg some (by kernel_rfl))
 f267:=func159.trans (congrArg some (by kernel_rfl))
 f314:=func206.trans (congrArg some (by kernel_rfl))
 t3:=underlying3
 a3:=isAgg3
 z3:=sizeOf3
 v3:=zeroValue3
 t4:=underlying4
 a4:=isAgg4
 z4:=sizeOf4
 v4:=zeroValue4
 t5:=underlying5
 a5:=isAgg5
 z5:=sizeOf5
 v5:=zeroValue5
 t9:=underlying9
 a9:=isAgg9
 z9:=sizeOf9
 v9:=zeroValue9
 t46:=underlying234
 a46:=isAgg234
 z46:=sizeOf234
 v46:=zeroValue234
 t51:=underlying257
 a51:=isAgg257
 z51:=sizeOf257
 v51:=zeroValue257
 t146:=underlying276
 a146:=isAgg276
 z146:=sizeOf276
 v146:=zeroValue276
 g1:=by kernel_rfl}
open Go.RowKit Go.Lib in
theorem Tryz.strings_Contains_one (s:ByteArray)(c:UInt8)(w:World):
  Calls prog 29 #[.string s,.string ⟨#[c]⟩] w λe w'=>e= .returned (.bool (decide (0<=Lib.indexByte s.data.toList c)))/\w'=w:=Any.strings_Contains_one lays144 s c w
open Go.RowKit Go.Lib in
theorem Tryz.strings_Contains (s sub:ByteArray)(m:Int)(w:World)(hs:s.size<4294967281)(hm:w.cell? ⟨3,0,none⟩=some (.int .i64 m)):
  Calls prog 29 #[.string s,.string sub] w λe w'=>e= .returned (.bool (Lib.contains s.data.toList sub.data.toList))/\w'=w:=Any.strings_Contains lays144 s sub m w hs hm
def Tryz.lays145_ren:Go.Shelf.Ren:=⟨fun|145=>87|220=>144|219=>97|217=>101|225=>157|224=>158|267=>159|266=>163|314=>206|n=>n,fun|9=>9|4=>4|59=>172|3=>3|5=>5|46=>234|146=>276|51=>257|n=>n,fun|1=>3|n=>n⟩
theorem Tryz.lays145:Go.Proofs.Lays.n145 prog lays145_ren:={
 mixed:=by kernel_rfl
 f145:=func87.trans (congrArg some (by kernel_rfl))
 f217:=func101.trans (congrArg some (by kernel_rfl))
 f219:=func97.trans (congrArg some (by kernel_rfl))
 f220:=func144.trans (congrArg some (by kernel_rfl))
 f224:=func158.trans (congrArg some (by kernel_rfl))
 f225:=func157.trans (congrArg some (by kernel_rfl))
 f266:=func163.trans (congrArg some (by kernel_rfl))
 f267:=func159.trans (congrArg some (by kernel_rfl))
 f314:=func206.trans (congrArg some (by kernel_rfl))
 t3:=underlying3
 a3:=isAgg3
 z3:=sizeOf3
 v3:=zeroValue3
 t4:=underlying4
 a4:=isAgg4
 z4:=sizeOf4
 v4:=zeroValue4
 t5:=underlying5
 a5:=isAgg5
 z5:=sizeOf5
 v5:=zeroValue5
 t9:=underlying9
 a9:=isAgg9
 z9:=sizeOf9
 v9:=zeroValue9
 t46:=underlying234
 a46:=isAgg234
 z46:=sizeOf234
 v46:=zeroValue234
 t51:=underlying257
 a51:=isAgg257
 z51:=sizeOf257
 v51:=zeroValue257
 t59:=underlying172
 a59:=isAgg172
 z59:=sizeOf172
 v59:=zeroValue172
 t146:=underlying276
 a146:=isAgg276
 z146:=sizeOf276
 v146:=zeroValue276
 g1:=by kernel_rfl}
open Go.RowKit Go.Lib in
theorem Tryz.strings_Cut (s sep:ByteArray)(m:Int)(w:World)(hs:s.size<4294967281)(hm:w.cell? ⟨3,0,none⟩=some (.int .i64 m)):
  Calls prog 87 #[.string s,.string sep] w λe w'=>e= .returned (.tuple #[.string ⟨(Lib.cut s.data.toList sep.data.toList).1.toArray⟩,.string ⟨(Lib.cut s.data.toList sep.data.toList).2.1.toArray⟩,.bool (Lib.cut s.data.toList sep.data.toList).2.2])/\∃n,w'=w.drewN n:=Any.strings_Cut lays145 s sep m w hs hm
def Tryz.lays138_ren:Go.Shelf.Ren:=⟨fun|138=>209|195=>236|218=>237|143=>52|219=>97|217=>101|225=>157|224=>158|267=>159|266=>163|314=>206|n=>n,fun|9=>9|3=>3|4=>4|5=>5|0=>0|46=>234|146=>276|51=>257|n=>n,fun|1=>3|n=>n⟩
theorem Tryz.lays138:Go.Proofs.Lays.n138 prog lays138_ren:={
 mixed:=by kernel_rfl
 f138:=func209.trans (congrArg some (by kernel_rfl))
 f143:=func52.trans (congrArg some (by kernel_rfl))
 f195:=func236.trans (congrArg some (by kernel_rfl))
 f217:=func101.trans (congrArg some (by kernel_rfl))
 f218:=func237.trans (congrArg some (by kernel_rfl))
 f219:=func97.trans (congrArg some (by kernel_rfl))
 f224:=func158.trans (congrArg some (by kernel_rfl))
 f225:=func157.trans (congrArg some (by kernel_rfl))
 f266:=func163.trans (congrArg some (by kernel_rfl))
 f267:=func159.trans (congrArg some (by kernel_rfl))
 f314:=func206.trans (congrArg some (by kernel_rfl))
 t0:=underlying0
 a0:=isAgg0
 z0:=sizeOf0
 v0:=zeroValue0
 t3:=underlying3
 a3:=isAgg3
 z3:=sizeOf3
 v3:=zeroValue3
 t4:=underlying4
 a4:=isAgg4
 z4:=sizeOf4
 v4:=zeroValue4
 t5:=underlying5
 a5:=isAgg5
 z5:=sizeOf5
 v5:=zeroValue5
 t9:=underlying9
 a9:=isAgg9
 z9:=sizeOf9
 v9:=zeroValue9
 t46:=underlying234
 a46:=isAgg234
 z46:=sizeOf234
 v46:=zeroValue234
 t51:=underlying257
 a51:=isAgg257
 z51:=sizeOf257
 v51:=zeroValue257
 t146:=underlying276
 a146:=isAgg276
 z146:=sizeOf276
 v146:=zeroValue276
 g1:=by kernel_rfl}
open Go.RowKit Go.Lib in
theorem Tryz.strings_Count_one (s:ByteArray)(c:UInt8)(w:World):
  Calls prog 209 #[.string s,.string ⟨#[c]⟩] w λe w'=>e= .returned (.int .i64 (Lib.countByte s.data.toList c))/\w'=w:=Any.strings_Count_one lays138 s c w
def Tryz.lays99_ren:Go.Shelf.Ren:=⟨fun|99=>112|206=>170|n=>n,fun|9=>9|4=>4|3=>3|n=>n,fun|n=>n⟩
theorem Tryz.lays99:Go.Proofs.Lays.n99 prog lays99_ren:={
 mixed:=by kernel_rfl
 f99:=func112.trans (congrArg some (by kernel_rfl))
 f206:=func170.trans (congrArg some (by kernel_rfl))
 t3:=underlying3
 a3:=isAgg3
 z3:=sizeOf3
 v3:=zeroValue3
 t4:=underlying4
 a4:=isAgg4
 z4:=sizeOf4
 v4:=zeroValue4
 t9:=underlying9
 a9:=isAgg9
 z9:=sizeOf9
 v9:=zeroValue9}
open Go.RowKit Go.Lib in
theorem Tryz.strings_HasPrefix (s p:ByteArray)(w:World):
  Calls prog 112 #[.string s,.string p] w λe w'=>e= .returned (.bool (Lib.hasPrefix s.data.toList p.data.toList))/\w'=w:=Any.strings_HasPrefix lays99 s p w
def Tryz.lays146_ren:Go.Shelf.Ren:=⟨fun|146=>117|221=>171|268=>210|138=>209|143=>52|195=>236|197=>98|218=>237|219=>97|260=>160|217=>101|225=>157|224=>158|267=>159|266=>163|314=>206|n=>n,fun|9=>9|31=>22|3=>3|4=>4|0=>0|105=>184|21=>21|5=>5|46=>234|119=>205|139=>280|138=>279|146=>276|51=>257|n=>n,fun|1=>3|3=>5|4=>6|n=>n⟩
theorem Tryz.lays146:Go.Proofs.Lays.n146 prog lays146_ren:={
 mixed:=by kernel_rfl
 f138:=func209.trans (congrArg some (by kernel_rfl))
 f143:=func52.trans (congrArg some (by kernel_rfl))
 f146:=func117.trans (congrArg some (by kernel_rfl))
 f195:=func236.trans (congrArg some (by kernel_rfl))
 f197:=func98.trans (congrArg some (by kernel_rfl))
 f217:=func101.trans (congrArg some (by kernel_rfl))
 f218:=func237.trans (congrArg some (by kernel_rfl))
 f219:=func97.trans (congrArg some (by kernel_rfl))
 f221:=func171.trans (congrArg some (by kernel_rfl))
 f224:=func158.trans (congrArg some (by kernel_rfl))
 f225:=func157.trans (congrArg some (by kernel_rfl))
 f260:=func160.trans (congrArg some (by kernel_rfl))
 f266:=func163.trans (congrArg some (by kernel_rfl))
 f267:=func159.trans (congrArg some (by kernel_rfl))
 f268:=func210.trans (congrArg some (by kernel_rfl))
 f314:=func206.trans (congrArg some (by kernel_rfl))
 t0:=underlying0
 a0:=isAgg0
 z0:=sizeOf0
 v0:=zeroValue0
 t3:=underlying3
 a3:=isAgg3
 z3:=sizeOf3
 v3:=zeroValue3
 t4:=underlying4
 a4:=isAgg4
 z4:=sizeOf4
 v4:=zeroValue4
 t5:=underlying5
 a5:=isAgg5
 z5:=sizeOf5
 v5:=zeroValue5
 t9:=underlying9
 a9:=isAgg9
 z9:=sizeOf9
 v9:=zeroValue9
 t21:=underlying21
 a21:=isAgg21
 z21:=sizeOf21
 v21:=zeroValue21
 t31:=underlying22
 a31:=isAgg22
 z31:=sizeOf22
 v31:=zeroValue22
 t46:=underlying234
 a46:=isAgg234
 z46:=sizeOf234
 v46:=zeroValue234
 t51:=underlying257
 a51:=isAgg257
 z51:=sizeOf257
 v51:=zeroValue257
 t105:=underlying184
 a105:=isAgg184
 z105:=sizeOf184
 v105:=zeroValue184
 t119:=underlying205
 a119:=isAgg205
 z119:=sizeOf205
 t138:=underlying279
 a138:=isAgg279
 z138:=sizeOf279
 v138:=zeroValue279
 t139:=underlying280
 a139:=isAgg280
 z139:=sizeOf280
 v139:=zeroValue280
 t146:=underlying276
 a146:=isAgg276
 z146:=sizeOf276
 v146:=zeroValue276
 g1:=by kernel_rfl
 g3:=by kernel_rfl
 g4:=by kernel_rfl}
open Go.RowKit Go.Lib in
theorem Tryz.strings_Split (s sep:ByteArray)(m:Int)(w:World)(hs:s.size<4294967281)(hm:w.cell? ⟨3,0,none⟩=some (.int .i64 m))(h1:1<=sep.size):
  Calls prog 117 #[.string s,.string sep] w λe w'=>
   e= .returned (.slice (some ⟨w.heap.size,0,none⟩) (Lib.countB s sep+1) (Lib.countB s sep+1))/\w'=w.alloc (.cells ((Lib.splitB sep 0 (Lib.countB s sep) s).map Value.string).toArray 9):=Any.strings_Split lays146 (by kernel_rfl) s sep m w hs hm h1
def Tryz.lays157_ren:Go.Shelf.Ren:=⟨fun|157=>80|229=>129|199=>130|261=>183|311=>215|312=>216|n=>n,fun|9=>9|31=>22|3=>3|5=>5|4=>4|119=>205|0=>0|40=>207|152=>254|21=>21|154=>256|51=>257|141=>259|196=>292|193=>289|198=>295|49=>293|194=>290|201=>298|226=>336|46=>234|227=>337|n=>n,fun|0=>2|6=>4|n=>n⟩
theorem Tryz.lays157:Go.Proofs.Lays.n157 prog lays157_ren:={
 mixed:=by kernel_rfl
 f157:=func80.trans (congrArg some (by kernel_rfl))
 f199:=func130.trans (congrArg some (by kernel_rfl))
 f229:=func129.trans (congrArg some (by kernel_rfl))
 f261:=func183.trans (congrArg some (by kernel_rfl))
 f311:=func215.trans (congrArg some (by kernel_rfl))
 f312:=func216.trans (congrArg some (by kernel_rfl))
 t0:=underlying0
 a0:=isAgg0
 z0:=sizeOf0
 v0:=zeroValue0
 t3:=underlying3
 a3:=isAgg3
 z3:=sizeOf3
 v3:=zeroValue3
 t4:=underlying4
 a4:=isAgg4
 z4:=sizeOf4
 v4:=zeroValue4
 t5:=underlying5
 a5:=isAgg5
 z5:=sizeOf5
 v5:=zeroValue5
 t9:=underlying9
 a9:=isAgg9
 z9:=sizeOf9
 v9:=zeroValue9
 t21:=underlying21
 a21:=isAgg21
 z21:=sizeOf21
 v21:=zeroValue21
 t31:=underlying22
 a31:=isAgg22
 z31:=sizeOf22
 v31:=zeroValue22
 t40:=underlying207
 a40:=isAgg207
 z40:=sizeOf207
 v40:=zeroValue207
 t46:=underlying234
 a46:=isAgg234
 z46:=sizeOf234
 v46:=zeroValue234
 t49:=underlying293
 a49:=isAgg293
 z49:=sizeOf293
 v49:=zeroValue293
 t51:=underlying257
 a51:=isAgg257
 z51:=sizeOf257
 v51:=zeroValue257
 t119:=underlying205
 a119:=isAgg205
 z119:=sizeOf205
 t141:=underlying259
 a141:=isAgg259
 z141:=sizeOf259
 v141:=zeroValue259
 t152:=underlying254
 a152:=isAgg254
 z152:=sizeOf254
 v152:=zeroValue254
 t154:=underlying256
 a154:=isAgg256
 z154:=sizeOf256
 v154:=zeroValue256
 t193:=underlying289
 a193:=isAgg289
 z193:=sizeOf289
 v193:=zeroValue289
 t194:=underlying290
 a194:=isAgg290
 z194:=sizeOf290
 v194:=zeroValue290
 t196:=underlying292
 a196:=isAgg292
 z196:=sizeOf292
 v196:=zeroValue292
 t198:=underlying295
 a198:=isAgg295
 z198:=sizeOf295
 v198:=zeroValue295
 t201:=underlying298
 a201:=isAgg298
 z201:=sizeOf298
 v201:=zeroValue298
 t226:=underlying336
 a226:=isAgg336
 z226:=sizeOf336
 v226:=zeroValue336
 t227:=underlying337
 a227:=isAgg337
 z227:=sizeOf337
 v227:=zeroValue337
 g0:=by kernel_rfl
 g6:=by kernel_rfl}
open Go.RowKit Go.Lib in
theorem Tryz.strings_Fields (s:ByteArray)(w:World)(hs:s.size<4294967281)(hascii:∀(j:Nat) b,s.data.toList[j]? =some b→b.toNat<128)(htab:Lib.TabIs prog w "strings.asciiSpace" .u8 Lib.asciiSpaceTab):
  Calls prog 80 #[.string s] w fun e w'=>
   e= .returned (.slice (some ⟨w.heap.size,0,none⟩) (Lib.fields s.data.toList).length (Lib.fields s.data.toList).length)∧w'=w.alloc (.cells ((Lib.fields s.data.toList).map fun l=>Value.string ⟨l.toArray⟩).toArray 9):=Any.strings_Fields lays157 (by kernel_rfl) (by kernel_rfl) s w hs hascii htab
def Tryz.lays155_ren:Go.Shelf.Ren:=⟨fun|155=>111|154=>169|138=>209|165=>54|143=>52|166=>55|197=>98|169=>56|195=>236|218=>237|240=>99|241=>100|219=>97|260=>160|276=>161|277=>162|217=>101|225=>157|224=>158|267=>159|266=>163|314=>206|n=>n,fun|9=>9|3=>3|4=>4|72=>120|0=>0|76=>122|105=>184|21=>21|5=>5|70=>118|20=>20|37=>115|75=>36|127=>186|164=>160|46=>234|119=>205|139=>280|138=>279|146=>276|51=>257|80=>124|n=>n,fun|1=>3|3=>5|4=>6|n=>n⟩
theorem Tryz.lays155:Go.Proofs.Lays.n155 prog lays155_ren:={
 mixed:=by kernel_rfl
 f138:=func209.trans (congrArg some (by kernel_rfl))
 f143:=func52.trans (congrArg some (by kernel_rfl))
 f154:=func169.trans (congrArg some (by kernel_rfl))
 f155:=func111.trans (congrArg some (by kernel_rfl))
 f165:=func54.trans (congrArg some (by kernel_rfl))
 f166:=func55.trans (congrArg some (by kernel_rfl))
 f169:=func56.trans (congrArg some (by kernel_rfl))
 f195:=func236.trans (congrArg some (by kernel_rfl))
 f197:=func98.trans (congrArg some (by kernel_rfl))
 f217:=func101.trans (congrArg some (by kernel_rfl))
 f218:=func237.trans (congrArg some (by kernel_rfl))
 f219:=func97.trans (congrArg some (by kernel_rfl))
 f224:=func158.trans (congrArg some (by kernel_rfl))
 f225:=func157.trans (congrArg some (by kernel_rfl))
 f240:=func99.trans (congrArg some (by kernel_rfl))
 f241:=func100.trans (congrArg some (by kernel_rfl))
 f260:=func160.trans (congrArg some (by kernel_rfl))
 f266:=func163.trans (congrArg some (by kernel_rfl))
 f267:=func159.trans (congrArg some (by kernel_rfl))
 f276:=func161.trans (congrArg some (by kernel_rfl))
 f277:=func162.trans (congrArg some (by kernel_rfl))
 f314:=func206.trans (congrArg some (by kernel_rfl))
 t0:=underlying0
 a0:=isAgg0
 z0:=sizeOf0
 v0:=zeroValue0
 t3:=underlying3
 a3:=isAgg3
 z3:=sizeOf3
 v3:=zeroValue3
 t4:=underlying4
 a4:=isAgg4
 z4:=sizeOf4
 v4:=zeroValue4
 t5:=underlying5
 a5:=isAgg5
 z5:=sizeOf5
 v5:=zeroValue5
 t9:=underlying9
 a9:=isAgg9
 z9:=sizeOf9
 v9:=zeroValue9
 t20:=underlying20
 a20:=isAgg20
 z20:=sizeOf20
 v20:=zeroValue20
 t21:=underlying21
 a21:=isAgg21
 z21:=sizeOf21
 v21:=zeroValue21
 t37:=underlying115
 a37:=isAgg115
 z37:=sizeOf115
 v37:=zeroValue115
 t46:=underlying234
 a46:=isAgg234
 z46:=sizeOf234
 v46:=zeroValue234
 t51:=underlying257
 a51:=isAgg257
 z51:=sizeOf257
 v51:=zeroValue257
 t70:=underlying118
 a70:=isAgg118
 z70:=sizeOf118
 v70:=zeroValue118
 t72:=underlying120
 a72:=isAgg120
 z72:=sizeOf120
 v72:=zeroValue120
 t75:=underlying36
 a75:=isAgg36
 z75:=sizeOf36
 v75:=zeroValue36
 t76:=underlying122
 a76:=isAgg122
 z76:=sizeOf122
 v76:=zeroValue122
 t105:=underlying184
 a105:=isAgg184
 z105:=sizeOf184
 v105:=zeroValue184
 t119:=underlying205
 a119:=isAgg205
 z119:=sizeOf205
 t127:=underlying186
 a127:=isAgg186
 z127:=sizeOf186
 v127:=zeroValue186
 t138:=underlying279
 a138:=isAgg279
 z138:=sizeOf279
 v138:=zeroValue279
 t139:=underlying280
 a139:=isAgg280
 z139:=sizeOf280
 v139:=zeroValue280
 t146:=underlying276
 a146:=isAgg276
 z146:=sizeOf276
 v146:=zeroValue276
 t164:=underlying160
 a164:=isAgg160
 z164:=sizeOf160
 v164:=zeroValue160
 g1:=by kernel_rfl
 g3:=by kernel_rfl
 g4:=by kernel_rfl}
theorem Tryz.Builder_Extra_155:Builder.Extra prog lays155_ren:={
 sizeBuilder:=by kernel_rfl
 liesBuilder:=by kernel_rfl
 t5:=underlying5
 a5:=isAgg5
 z5:=sizeOf5
 v5:=zeroValue5
 infoByte:=by kernel_rfl
 cellsByte:=by kernel_rfl
 sizeByte:=by kernel_rfl
 neB5:=by decide}
open Go.RowKit Go.Lib in
theorem Tryz.strings_ReplaceAll (s old new:ByteArray)(m:Int)(w:World)(hs:s.size<4294967281)(hm:w.cell? ⟨3,0,none⟩=some (.int .i64 m))(h1:1<=old.size)(hlen:s.size+Lib.countB s old*new.size<=140737488355328):
  Calls prog 111 #[.string s,.string old,.string new] w λe w'=>
   e= .returned (.string ⟨(Lib.replaceAll s.data.toList old.data.toList new.data.toList).toArray⟩)/\Below w.heap.size w w':=Any.strings_ReplaceAll lays155 Tryz.Builder_Extra_155 s old new m w hs hm h1 hlen
def Tryz.lays153_ren:Go.Shelf.Ren:=⟨fun|153=>191|152=>223|226=>224|227=>225|228=>226|137=>57|119=>243|224=>158|225=>157|217=>101|266=>163|n=>n,fun|9=>9|3=>3|4=>4|5=>5|21=>21|117=>312|116=>311|0=>0|46=>234|124=>342|n=>n,fun|n=>n⟩
theorem Tryz.lays153:Go.Proofs.Lays.n153 prog lays153_ren:={
 mixed:=by kernel_rfl
 f119:=func243.trans (congrArg some (by kernel_rfl))
 f137:=func57.trans (congrArg some (by kernel_rfl))
 f152:=func223.trans (congrArg some (by kernel_rfl))
 f153:=func191.trans (congrArg some (by kernel_rfl))
 f217:=func101.trans (congrArg some (by kernel_rfl))
 f224:=func158.trans (congrArg some (by kernel_rfl))
 f225:=func157.trans (congrArg some (by kernel_rfl))
 f226:=func224.trans (congrArg some (by kernel_rfl))
 f227:=func225.trans (congrArg some (by kernel_rfl))
 f228:=func226.trans (congrArg some (by kernel_rfl))
 f266:=func163.trans (congrArg some (by kernel_rfl))
 t0:=underlying0
 a0:=isAgg0
 z0:=sizeOf0
 v0:=zeroValue0
 t3:=underlying3
 a3:=isAgg3
 z3:=sizeOf3
 v3:=zeroValue3
 t4:=underlying4
 a4:=isAgg4
 z4:=sizeOf4
 v4:=zeroValue4
 t5:=underlying5
 a5:=isAgg5
 z5:=sizeOf5
 v5:=zeroValue5
 t9:=underlying9
 a9:=isAgg9
 z9:=sizeOf9
 v9:=zeroValue9
 t21:=underlying21
 a21:=isAgg21
 z21:=sizeOf21
 v21:=zeroValue21
 t46:=underlying234
 a46:=isAgg234
 z46:=sizeOf234
 v46:=zeroValue234
 t116:=underlying311
 a116:=isAgg311
 z116:=sizeOf311
 t117:=underlying312
 a117:=isAgg312
 z117:=sizeOf312
 v117:=zeroValue312
 t124:=underlying342
 a124:=isAgg342
 z124:=sizeOf342
 v124:=zeroValue342}
open Go.RowKit Go.Lib in
theorem Tryz.strings_IndexAny_long (hv116:∀w,(zeroValue 311).run prog w= .ok (.agg (Array.replicate 256 (.bool false))) w)(s chars:ByteArray)(w:World)(h2:2<=chars.size)(h8:8<s.size)(hs:s.size<4294967281)(hcs:chars.size<4294967281)(hascii:∀(j:Nat) b,chars.data.toList[j]? =some b->b.toNat<128):
  Calls prog 191 #[.string s,.string chars] w λe w'=>e= .returned (.int .i64 (Lib.indexAny s.data.toList chars.data.toList))/\w'=((w.alloc (.cells (Lib.setCells chars.data.toList) 311)).alloc (.cells (Lib.setCells chars.data.toList) 311)):=Any.strings_IndexAny_long lays153 hv116 (by kernel_rfl) s chars w h2 h8 hs hcs hascii
def Tryz.lays230_ren:Go.Shelf.Ren:=⟨fun|230=>103|197=>98|118=>164|165=>54|166=>55|168=>165|270=>166|167=>102|169=>56|260=>160|240=>99|241=>100|242=>207|276=>161|277=>162|278=>233|n=>n,fun|107=>189|9=>9|72=>120|0=>0|4=>4|3=>3|21=>21|105=>184|76=>122|5=>5|75=>36|70=>118|20=>20|37=>115|127=>186|119=>205|46=>234|139=>280|138=>279|164=>160|51=>257|80=>124|n=>n,fun|3=>5|4=>6|n=>n⟩
theorem Tryz.lays230:Go.Proofs.Lays.n230 prog lays230_ren:={
 mixed:=by kernel_rfl
 f118:=func164.trans (congrArg some (by kernel_rfl))
 f165:=func54.trans (congrArg some (by kernel_rfl))
 f166:=func55.trans (congrArg some (by kernel_rfl))
 f167:=func102.trans (congrArg some (by kernel_rfl))
 f168:=func165.trans (congrArg some (by kernel_rfl))
 f169:=func56.trans (congrArg some (by kernel_rfl))
 f197:=func98.trans (congrArg some (by kernel_rfl))
 f230:=func103.trans (congrArg some (by kernel_rfl))
 f240:=func99.trans (congrArg some (by kernel_rfl))
 f241:=func100.trans (congrArg some (by kernel_rfl))
 f242:=func207.trans (congrArg some (by kernel_rfl))
 f260:=func160.trans (congrArg some (by kernel_rfl))
 f270:=func166.trans (congrArg some (by kernel_rfl))
 f276:=func161.trans (congrArg some (by kernel_rfl))
 f277:=func162.trans (congrArg some (by kernel_rfl))
 f278:=func233.trans (congrArg some (by kernel_rfl))
 t0:=underlying0
 a0:=isAgg0
 z0:=sizeOf0
 v0:=zeroValue0
 t3:=underlying3
 a3:=isAgg3
 z3:=sizeOf3
 v3:=zeroValue3
 t4:=underlying4
 a4:=isAgg4
 z4:=sizeOf4
 v4:=zeroValue4
 t5:=underlying5
 a5:=isAgg5
 z5:=sizeOf5
 v5:=zeroValue5
 t9:=underlying9
 a9:=isAgg9
 z9:=sizeOf9
 v9:=zeroValue9
 t20:=underlying20
 a20:=isAgg20
 z20:=sizeOf20
 v20:=zeroValue20
 t21:=underlying21
 a21:=isAgg21
 z21:=sizeOf21
 v21:=zeroValue21
 t37:=underlying115
 a37:=isAgg115
 z37:=sizeOf115
 v37:=zeroValue115
 t46:=underlying234
 a46:=isAgg234
 z46:=sizeOf234
 v46:=zeroValue234
 t51:=underlying257
 a51:=isAgg257
 z51:=sizeOf257
 v51:=zeroValue257
 t70:=underlying118
 a70:=isAgg118
 z70:=sizeOf118
 v70:=zeroValue118
 t72:=underlying120
 a72:=isAgg120
 z72:=sizeOf120
 v72:=zeroValue120
 t75:=underlying36
 a75:=isAgg36
 z75:=sizeOf36
 v75:=zeroValue36
 t76:=underlying122
 a76:=isAgg122
 z76:=sizeOf122
 v76:=zeroValue122
 t105:=underlying184
 a105:=isAgg184
 z105:=sizeOf184
 v105:=zeroValue184
 t107:=underlying189
 a107:=isAgg189
 z107:=sizeOf189
 v107:=zeroValue189
 t119:=underlying205
 a119:=isAgg205
 z119:=sizeOf205
 t127:=underlying186
 a127:=isAgg186
 z127:=sizeOf186
 v127:=zeroValue186
 t138:=underlying279
 a138:=isAgg279
 z138:=sizeOf279
 v138:=zeroValue279
 t139:=underlying280
 a139:=isAgg280
 z139:=sizeOf280
 v139:=zeroValue280
 t164:=underlying160
 a164:=isAgg160
 z164:=sizeOf160
 v164:=zeroValue160
 g3:=by kernel_rfl
 g4:=by kernel_rfl}
theorem Tryz.Builder_Extra_230:Builder.Extra prog lays230_ren:={
 sizeBuilder:=by kernel_rfl
 liesBuilder:=by kernel_rfl
 t5:=underlying5
 a5:=isAgg5
 z5:=sizeOf5
 v5:=zeroValue5
 infoByte:=by kernel_rfl
 cellsByte:=by kernel_rfl
 sizeByte:=by kernel_rfl
 neB5:=by decide}
open Go.RowKit Go.Lib in
theorem Tryz.strings_Map_grows (g:Nat)(lb:Array Value)(eg:∀args w,(callFunc g args).run prog w= .ok (.enter g args) w)(f:Int->Int)(s:ByteArray)(w:World)(hs:s.size<35184372088832)(hf:MapGrows prog g lb f w)(hnn:∀x:Nat,x<=1114111-> -2147483648<=f x/\f x<=2147483647)(hT:Lib.Utf8Tabs 5 6 w):
  Calls prog 103 #[.func (.func g) #[] lb,.string s] w λe w'=>e= .returned (.string ⟨(Lib.mapD f s.data.toList).toArray⟩)/\Below w.heap.size w w':=Any.strings_Map_grows lays230 Tryz.Builder_Extra_230 g lb eg f s w hs hf hnn hT
end Go.Proofs
namespace Go.Proofs.YtpgdnpielhfpgaaGreatDoor
set_option maxRecDepth 20000
set_option maxHeartbeats 4000000
end Go.Proofs.YtpgdnpielhfpgaaGreatDoor
