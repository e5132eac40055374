/- Parts of the proof of cardParses_card. -/
import Derived.Laws.Externs
import Derived.Shelf.Strings.Builder1
import Derived.Shelf.Strings.Builder2
import Derived.Shelf.Strings.OnBuilder
import Derived.Shelf.Small.Utf8
import Derived.Shelf.Small.Strs
import Derived.Shelf.Strings.BuilderF
import Derived.Shelf.Strings.BuilderK
import Derived.Shelf.Strings.BuilderRune
import Derived.Shelf.Utf8.RuneCount
import Derived.Shelf.Strings.Builder2Cap
import Derived.Shelf.Strconv.Atoi
import Derived.Shelf.Strconv.Itoa0
import Derived.Shelf.Strconv.Itoa1
import Derived.Shelf.LaysM
import Derived.Shelf.Strconv.Itoa2
import Derived.Shelf.Strconv.Itoa3
import Derived.Shelf.Strconv.Itoa4
import Derived.Shelf.Strconv.AtoiErrFast
import Derived.Shelf.Strconv.ParseIntEmpty
import Derived.Shelf.Strconv.AtoiFail
import Derived.Shelf.Strconv.Clone
import Derived.Shelf.Strconv.SyntaxError
import Derived.Shelf.LaysC
import Derived.Shelf.Strconv.ToError
import Derived.Shelf.Strconv.AtoiErr
import Derived.Shelf.Strconv.Lower
import Derived.Shelf.Strconv.ParseUint10
import Derived.Shelf.Strconv.ParseUint10Empty
import Derived.Shelf.Strconv.ParseUint10Any
import Derived.Shelf.Strconv.ParseInt10
import Derived.Shelf.Strconv.AtoiLong
import Derived.Shelf.Strconv.AtoiInnerAll
import Derived.Shelf.Strconv.RangeError
import Derived.Shelf.Strconv.ToErrorRange
import Derived.Shelf.Strconv.AtoiAll
import Derived.Shelf.Strconv.ErrVarAll
import Derived.Shelf.Strconv.ParseUintEmpty
import Derived.Shelf.Strings.Search1
import Derived.Shelf.Strings.Search2
import Derived.Shelf.Strings.Search3
import Derived.Shelf.Strings.Cut
import Derived.Shelf.Strings.Count
import Derived.Shelf.Strings.Shaped
import Derived.Shelf.Strings.LastIndex
import Derived.Shelf.Strings.Prefix
import Derived.Shelf.Strings.Split
import Derived.Shelf.Strings.Fields
import Derived.Shelf.Strings.Replace
import Derived.Shelf.Strings.SplitShaped
import Derived.Shelf.Unicode.Latin
import Derived.Shelf.Unicode.Decode
import Derived.Shelf.Strings.Runes
import Derived.Shelf.Strings.RuneCount
import Derived.Shelf.Strings.IndexAny
import Derived.Shelf.Strings.AsciiSet
import Derived.Shelf.Strings.IndexAnyAll
import Derived.Shelf.Strings.Explode
import Derived.Shelf.Unicode.DecodeSlow
import Derived.Shelf.Unicode.DecodeAny
import Derived.Shelf.Unicode.Is16White
import Derived.Shelf.Unicode.IsSpaceAny
import Derived.Shelf.Unicode.CaseLookup
import Derived.Shelf.Unicode.CaseConvert
import Derived.Shelf.Unicode.CaseTo
import Derived.Shelf.Unicode.CaseLaid
import Derived.Shelf.Strings.MapAny
import Derived.Shelf.Unicode.Is16Any
import Derived.Shelf.Unicode.Is32Any
import Derived.Shelf.Unicode.ExclAny
import Derived.Shelf.Strings.BuilderCap
import Derived.Shelf.Strings.MapGrows
import Derived.Test.YtnbaflecdkgihaaGreatDoorBad
set_option linter.unusedVariables false
set_option linter.unusedSimpArgs false
set_option linter.unusedSectionVars false
namespace Go.Proofs.YtnbaflecdkgihaaGreatDoor
open Go Go.RowKit
open Tryz
set_option maxRecDepth 20000
set_option maxHeartbeats 4000000
section
attribute [local irreducible] bG au aa az aR ab ad
theorem lI {s t:List UInt8}(h:t.length=s.length)(hb:∀j,j<s.length->aa t j=aa s j):t=s:=by
 apply List.ext_getElem h;intro i h1 h2;have:=hb i h2;simp only[aa,List.getD,y_ h1,y_ h2,Z_] at this
 exact UInt8.toNat_inj.1 this
def eb (low high by_:Int)(c:Nat):Int:=if low<=c/\(c:Int)<=high then c+by_ else c
def am (low high by_:Int)(s:List UInt8):List UInt8:=s.map λc=>UInt8.ofNat (eb low high by_ c.toNat).toNat
theorem F1 {low high by_:Int}(h1:0<=low+by_)(h2:high+by_<=255){s:List UInt8}{j:Nat}(h:j<s.length):(aa (am low high by_ s) j:Int)=eb low high by_ (aa s j):=by
 have e:(aa (am low high by_ s) j)=(UInt8.ofNat (eb low high by_ s[j].toNat).toNat).toNat:=by
  simp[aa,am,List.getD,h]
 have e2:aa s j=s[j].toNat:=by simp[aa,List.getD,h]
 rw[e,e2,UInt8.toNat_ofNat'];have:=UInt8.toNat_lt s[j];unfold eb;split<;>omega
def mz (low high by_:Int)(s:List UInt8)(x:Nat×List UInt8):Prop:=
 x.1<=s.length/\x.2.length=s.length/\∀j,j<s.length->(aa x.2 j:Int)=if j<x.1 then eb low high by_ (aa s j) else aa s j
theorem vZ {low high by_:Int}{s:List UInt8}:mz low high by_ s (0,s):=⟨Nat.zero_le _,rfl,λj _=>by rw[if_neg (by simp)]⟩
theorem lc {low high by_:Int}{s:List UInt8}{i:Nat}{t:List UInt8}(h:mz low high by_ s (i,t))(hi:i<s.length):aa t i=aa s i:=by
 have:=h.2.2 i hi;rw[if_neg (by simp)] at this;exact Int.ofNat.inj this
theorem qI {low high by_:Int}{s:List UInt8}{i:Nat}{t:List UInt8}(h:mz low high by_ s (i,t))(hi:i<s.length){m:Int}(hm:m=eb low high by_ (aa s i))(h0:0<=m)(h1:m<=255):
  mz low high by_ s (i+1,t.set i (UInt8.ofNat m.toNat)):=by
 obtain⟨h2,h3,h4⟩:=h;refine⟨hi,by simp only[F_];exact h3,λj hj=> ?_⟩;dsimp only at*
 rw[II a_ a_ a_];by_cases e:j=i
 ·subst e;rw[if_pos rfl,if_pos a_,hm]
 ·rw[if_neg e,h4 j hj];by_cases e2:j<i
  ·rw[if_pos e2,if_pos a_]
  ·rw[if_neg e2,if_neg a_]
theorem oj {low high by_:Int}{s:List UInt8}{i:Nat}{t:List UInt8}(h:mz low high by_ s (i,t))(hi:i<s.length)(hm:eb low high by_ (aa s i)=aa s i):
  mz low high by_ s (i+1,t):=by
 refine⟨hi,h.2.1,λj hj=> ?_⟩;have:=h.2.2 j hj;dsimp only at*
 rw[this];by_cases e:j=i
 ·subst e;rw[if_neg a_,if_pos a_,hm]
 ·by_cases e2:j<i
  ·rw[if_pos e2,if_pos a_]
  ·rw[if_neg e2,if_neg a_]
theorem qJ {low high by_:Int}(h1:0<=low+by_)(h2:high+by_<=255){s:List UInt8}{i:Nat}{t:List UInt8}(h:mz low high by_ s (i,t))(hi:s.length<=i):t=am low high by_ s:=by
 refine lI (by simp only[am,C_];exact h.2.1) (λj hj=> ?_);have hj':j<s.length:=by simpa[am] using hj
 have:=h.2.2 j hj';rw[if_pos (show j<i by omega),<-F1 h1 h2 hj'] at this;exact Int.ofNat.inj this
theorem Ap {G:Glo}(s:List UInt8)(low high by_:Int)(h1:0<=low+by_)(h2:high+by_<=255)(h3:0<=low)(h4:high<=255)(h5: -300<=by_)(h6:by_<=300)(hl:s.length<=9223372036854775807):
  ak prog G 89 [.str s,.int .u8 low,.int .u8 high,.int .i64 by_] (.str (am low high by_ s)):=by
 refine ax func89 call89 λC hC hGL=> ?_;repeat' (first|(conv=>whnf);first|refine .w ?_|refine .v ?_|refine eh ?_ ?_<;>(intro hb;try exact dd hb)|apply aT|apply bM|(apply cR<;>intro hb)|(apply cX;intro hbd)|(apply cY;intro bl)|(apply dv;intro va vk vc hva)|(apply du;intro v)|(apply dw;intro bl cap hcap)|apply dI|(apply dq<;>intro hnx)|apply d8 mixed hC hGL be|(show Rt _ _ _;exact cP)|fail)
 all_goals try conv=>whnf
 refine lp hC hGL (λ(x:Nat×List UInt8)=>[(1,.int .u8 low),(2,.int .u8 high),(3,.int .i64 by_),(9,.own 0 (.slice (some ⟨bl,0,none⟩) s.length cap)),(14,.own 0 (.slice (some ⟨bl,0,none⟩) s.length cap)),(15,.int .i64 s.length),(16,.int .i64 x.1)]) (λx=>[.buf bl x.2 cap]) (mz low high by_ s) (λx=>s.length-x.1) (0,s) ?_ ah rfl ?_
 ·exact vZ
 rintro⟨i,t⟩ hI;have hi:=hI.1;have ht:=hI.2.1;dsimp only at hi ht ⊢;refine xw ?_;repeat' first|exact .n|apply Lc.mk
 all_goals intros
 ·refine cQ (i+1,t.set i (UInt8.ofNat ((aa t i:Int)+by_).toNat)) ?_ ?_ ah rfl
  ·have e:=lc hI a_;refine qI hI a_ ?_ a_ a_;unfold eb;rw[if_pos a_];omega
  ·dsimp only;omega
 iterate 2
  ·refine cQ (i+1,t) ?_ ?_ ah rfl
   ·have e:=lc hI a_;refine oj hI a_ ?_;unfold eb;rw[if_neg a_]
   ·dsimp only;omega
 ·apply aj;rw[qJ h1 h2 hI a_]
theorem jI {G:Glo}(s:List UInt8)(hl:s.length<=9223372036854775807):ak prog G 45 [.str s] (.str (am 97 122 (-32) s)):=by
 refine ax func45 call45 λC hC hGL=> ?_;have ht:=Ap (G:=G) s 97 122 (-32) b_ b_ b_ b_ b_ b_ hl;exact bB
theorem Hz {G:Glo}(s:List UInt8)(hl:s.length<=9223372036854775807):ak prog G 98 [.str s] (.str (am 65 90 32 s)):=by
 refine ax func98 call98 λC hC hGL=> ?_;have ht:=Ap (G:=G) s 65 90 32 b_ b_ b_ b_ b_ b_ hl;exact bB
theorem lh {G:Glo}(s t:List UInt8)(hl:s.length<=9223372036854775807)(hm:t.length<=9223372036854775807):ak prog G 26 [.str s,.str t] (.bool (aY (am 97 122 (-32) s) (am 97 122 (-32) t))):=by
 refine ax func26 call26 λC hC hGL=> ?_;have h1:=jI (G:=G) s hl;have h2:=jI (G:=G) t hm;exact bB
def aU (c:Int):Bool:=decide ((97<=c/\c<=122)\/(65<=c/\c<=90)\/(48<=c/\c<=57)\/c=45)
theorem tC {c:Int}:aU c=true↔((97<=c/\c<=122)\/(65<=c/\c<=90)\/(48<=c/\c<=57)\/c=45):=by simp[aU]
attribute [local irreducible] aU
theorem oM {G:Glo}(c:Int):ak prog G 197 [.int .u8 c] (.bool (aU c)):=by
 refine ax func197 call197 λC hC hGL=> ?_;refine xw ?_;repeat' first|exact .n|apply Lc.mk
 all_goals intros
 all_goals (apply aj;refine congrArg AVal.bool ?_;rw[w_];simp only[tC,fA,true_iff];omega)
def CZ (f:Int->Bool)(s:List UInt8):Bool:=s.all λc=>f (c.toNat:Int)
theorem ub {f:Int->Bool}{s:List UInt8}:CZ f s=true↔∀j,j<s.length->f (aa s j)=true:=by
 unfold CZ;rw[Bw];constructor
 ·intro h j hj;have:=h s[j] (K_ hj)
  simpa[aa,List.getD,hj] using this
 ·intro h c hc
  obtain⟨j,hj,rfl⟩:=D_ hc
  simpa[aa,List.getD,hj] using h j hj
theorem IV {f:Int->Bool}{s:List UInt8}{j:Nat}(hj:j<s.length)(h:f (aa s j)=false):CZ f s=false:=by
 rw[Bool.eq_false_iff];intro h2;rw[ub.1 h2 j hj] at h;cases h
theorem dj {p:Nat->Prop}{i:Nat}(h:∀j,j<i->p j)(k:p i):∀j,j<i+1->p j:=by
 intro j hj;by_cases e:j=i
 ·subst e;exact k
 ·exact h j a_
def isS (s:List UInt8):Bool:=CZ aU s&&(decide (s.length≠0)&&decide (s.length<=40))
theorem pQ {G:Glo}(s:List UInt8)(hl:s.length<=9223372036854775807):ak prog G 151 [.str s] (.bool (isS s)):=by
 refine ax func151 call151 λC hC hGL=> ?_;refine aK ?_;intros;refine lp hC hGL (λ(i:Nat)=>[(0,.str s),(5,.int .i64 s.length),(6,.int .i64 i)]) (λ_=>[]) (λi=>i<=s.length/\∀j,j<i->aU (aa s j)=true) (λi=>s.length-i) 0 ?_ ah rfl ?_
 ·exact⟨Nat.zero_le _,by intro j hj;omega⟩
 rintro i ⟨hi,hb0⟩
 repeat' (first|(conv=>whnf);first|refine .w ?_|refine .v ?_|refine eh ?_ ?_<;>(intro hb;try exact dd hb)|apply aT|apply bM|(apply cR<;>intro hb)|(apply cX;intro hbd)|(apply bD;exact oM _)|(apply aV (i:=0) rfl;exact oM _)|(apply cY;intro bl)|(apply dv;intro va vk vc hva)|(apply du;intro v)|(apply dw;intro bl cap hcap)|apply dI|(apply dq<;>intro hnx)|apply d8 mixed hC hGL be|(apply cq;assumption;exact oM _;exact rfl)|(show Rt _ _ _;exact cP)|fail)
 all_goals try conv=>whnf
 ·refine cQ (i+1) ?_ ?_ ah rfl
  ·exact⟨a_,dj hb0 hb⟩
  ·omega
 ·apply aj
  rw[isS,IV a_ hb]
  rfl
 all_goals (
  apply aj
  refine congrArg AVal.bool ?_
  have ha:CZ aU s=true:=ub.2 λj hj=>hb0 j a_
  have e:isS s=true↔(s.length≠0/\s.length<=40):=by simp only[isS,ha,YT,l_,n_]
  rw[w_,e]
  try simp only[Bool.not_eq_true',oP,reduceCtorEq,false_iff]
  omega)
theorem fF {G:Glo}(m low high:Int):ak prog G 72 [.int .i64 m,.int .i64 low,.int .i64 high] (.bool (decide (low<=m)&&decide (m<=high))):=by
 refine ax func72 call72 λC hC hGL=> ?_;refine xw ?_;repeat' first|exact .n|apply Lc.mk
 all_goals intros
 all_goals (apply aj;refine congrArg AVal.bool ?_;rw[w_];simp[oP,Bool.not_eq_true']<;>omega)
end
section
theorem bK {P:Program}{G:Glo}{f:FuncId}{avs:List AVal}{v:AVal}(hdet:v.det=true)(hc:∀args w,(callFunc f args).run P w= .ok (.enter f args) w)
  (h:∀R args,dO R avs args.toList->∀w,G.p R->eZ R w->Calls P f args w λe w'=>e= .returned v.conc/\Below w.heap.size w w'):ak P G f avs v:=by
 intro R w args hG hm ha;refine .inl ⟨hc args w,(h R args ha w hG hm.sealed).mono ?_⟩;rintro e w' ⟨rfl,hb⟩;refine⟨.ret v,[],R,⟨rfl,rfl⟩,⟨_,rfl,vy hdet⟩,?_⟩;refine⟨?_,Seal.le_refl R,λ_ hb=>.inl hb,⟨λ_ h=>absurd h t_,List.nodup_nil,λ_ h=>absurd h t_⟩,λ_ h=>absurd h t_,
  ⟨hb.os,hb.tape,hb.output,hb.size,λb hlt _=>hb.block b hlt⟩⟩
 intro b o ho;have h1:=hm.sealed b o ho;have hlt:b<w.heap.size:=by
  rcases YY b w.heap.size with h|h
  ·exact h
  ·rw[Array.getElem?_eq_none h] at h1;cases h1
 rw[hb.block b hlt,h1]
theorem ik {P:Program}{G:Glo}{f:FuncId}{avs:List AVal}{v:AVal}(u:Value)(hu:∀R,bx R v u)(hc:∀args w,(callFunc f args).run P w= .ok (.enter f args) w)
  (h:∀R args,dO R avs args.toList->∀w,G.p R->eZ R w->Calls P f args w λe w'=>e= .returned u/\Below w.heap.size w w'):ak P G f avs v:=by
 intro R w args hG hm ha;refine .inl ⟨hc args w,(h R args ha w hG hm.sealed).mono ?_⟩;rintro e w' ⟨rfl,hb⟩;refine⟨.ret v,[],R,⟨rfl,rfl⟩,⟨_,rfl,hu R⟩,?_⟩;refine⟨?_,Seal.le_refl R,λ_ hb=>.inl hb,⟨λ_ h=>absurd h t_,List.nodup_nil,λ_ h=>absurd h t_⟩,λ_ h=>absurd h t_,
  ⟨hb.os,hb.tape,hb.output,hb.size,λb hlt _=>hb.block b hlt⟩⟩
 intro b o ho;have h1:=hm.sealed b o ho;have hlt:b<w.heap.size:=by
  rcases YY b w.heap.size with h|h
  ·exact h
  ·rw[Array.getElem?_eq_none h] at h1;cases h1
 rw[hb.block b hlt,h1]
theorem fK {args:Array Value}{l:List Value}(h:args.toList=l):args=l.toArray:=by rw[<-h]
theorem mO {R:Seal}{a b:AVal}{x y:Value}(h:bx R a x)(k:bx R b y):bx R (.tuple [a,b]) (.tuple #[x,y]):=
 ⟨⟨_,rfl,_,_,rfl,⟨h.1,h.2⟩,_,_,rfl,⟨k.1,k.2⟩,rfl⟩,rfl⟩
theorem Oh {R:Seal}{a b c:AVal}{x y z:Value}(h:bx R a x)(k:bx R b y)(l:bx R c z):bx R (.tuple [a,b,c]) (.tuple #[x,y,z]):=
 ⟨⟨_,rfl,_,_,rfl,⟨h.1,h.2⟩,_,_,rfl,⟨k.1,k.2⟩,_,_,rfl,⟨l.1,l.2⟩,rfl⟩,rfl⟩
theorem dU {P:Program}{G:Glo}{f:FuncId}{fn:Func}{e:Array Value→Sem Value}{avs:List AVal}{v:AVal}(hf:P.funcs[f]? =some fn)(hname:(fn.name== "runtime.NumGoroutine")=false)
  (hb:fn.body.isNone=true) (hn:Extern.findNext fn=none) (he:Extern.find fn=some e)
  (h:∀R args,dO R avs args.toList→∀w,∃x,(e args).run P w= .ok x w∧bx R v x):ak P G f avs v:=by
 intro R w args hG hm ha
 obtain⟨x,hx,hr⟩:=h R args ha w
 refine .inr ⟨x,w,?_,.ret v,[],R,⟨rfl,rfl⟩,⟨x,rfl,hr⟩,hm⟩
 rw[run_callFunc_extern hf hname hb hn he]
 simp only[hx,c_]
theorem jW {P:Program}{G:Glo}{f:FuncId}{fn:Func}{e:Array Value→Sem Value}{avs:List AVal}{H:Heap}{v:AVal}{H':Heap}(hf:P.funcs[f]? =some fn)(hname:(fn.name== "runtime.NumGoroutine")=false)
  (hb:fn.body.isNone=true) (hn:Extern.findNext fn=none) (he:Extern.find fn=some e)
  (h:∀C R args w,MS C R H w→dO R avs args.toList→∃x w' R',(e args).run P w= .ok x w'∧R.le R'∧bx R' v x∧MS C R' H' w'):ad P G f avs H (fun r h=>r= .ret v∧h=H'):=by
 intro R w args hG hm ha
 obtain⟨x,w',R',hx,hle,hr,hm'⟩:=h _ R args w hm ha
 refine .inr ⟨x,w',?_,.ret v,H',R',⟨rfl,rfl⟩,⟨x,rfl,hr⟩,hm'⟩
 rw[run_callFunc_extern hf hname hb hn he]
 simp only[hx,c_]
theorem n5 {P:Program}{G:Glo}{f:FuncId}{fn:Func}{e:Array Value→Sem Value}{avs:List AVal}{v:AVal}(hf:P.funcs[f]? =some fn)(hname:(fn.name== "runtime.NumGoroutine")=false)
  (hb:fn.body.isNone=true) (hn:Extern.findNext fn=none) (he:Extern.find fn=some e)
  (h:∀R args w,dO R avs args.toList→∃x cs t,(e args).run P w= .ok x (w.alloc (.cells cs t))∧∀R',R.le R'→R' w.heap.size=some (.cells cs t)→bx R' v x):ak P G f avs v:=by
 refine jW hf hname hb hn he fun C R args w hm ha=> ?_
 obtain⟨x,cs,t,hx,hr⟩:=h R args w ha
 exact⟨x,_,R.put w.heap.size (.cells cs t),hx,Seal.put_le hm.seal_free,hr _ (Seal.put_le hm.seal_free) (Seal.put_at _ _ _),hm.alloc_sealed _⟩
end
section
attribute [local irreducible] bG au aa az aR ab ad
def kh (c:Int):List UInt8->Nat->Int
 |[],_=> -1
 |x::t,k=>if(x.toNat:Int)=c then k else kh c t (k+1)
def aS (s:List UInt8)(c:Int):Int:=kh c s 0
theorem AK {c:UInt8}(b:ByteArray):∀(t:List UInt8) (k:Nat),(∀j,j<t.length->b[k+j]! =t.getD j 0)->
  (match (List.range' k t.length).find? λi=>b[i]! ==c with|some i=>(i:Int)|none=> -1)=kh (c.toNat:Int) t k
 |[],_,_=>by simp[kh]
 |x::t,k,h=>by
  have h0:=h 0 (by simp);simp only[Nat.add_zero,List.getD_cons_zero] at h0;rw[j_,List.range'_succ,List.find?_cons,h0]
  by_cases e:x=c
  ·subst e;simp[kh]
  ·have e1:(x==c)=false:=by simpa using e
   rw[e1];have e2:¬((x.toNat:Int)=(c.toNat:Int)):=by
    intro h;exact e (UInt8.toNat_inj.1 a_)
   simp only[kh,if_neg e2];exact AK b t (k+1) (λj hj=>by
    have:=h (j+1) (by simpa using hj)
    rw[show k+1+j=k+(j+1) by omega,this];simp)
theorem m6 {G:Glo}(s:List UInt8)(c:Int)(h0:0<=c)(h1:c<=255):ak prog G 122 [.str s,.int .u8 c] (.int .i64 (aS s c)):=by
 refine dU func122 be be be (e:=Go.Extern.BytealgIndexByte.indexByte) be ?_;intro R args ha w;obtain⟨x,t,e,hx,y,t',e',hy,rfl⟩:=ha;have hx:=aD.1 hx;have hy:=aq.1 hy;subst hx hy;obtain rfl:args=#[.string ⟨s.toArray⟩,.int .u8 c]:=by cases args;simp_all
 refine⟨.int .i64 (aS s c),?_,aq.2 rfl⟩;have hc:(c.toNat.toUInt8).toNat=c.toNat:=by
  show(UInt8.ofNat c.toNat).toNat=_;rw[UInt8.toNat_ofNat'];omega
 have key:=AK (c:=c.toNat.toUInt8) ⟨s.toArray⟩ s 0 (λj hj=>by
  rw[Nat.zero_add];rw[getElem!_pos (⟨s.toArray⟩:ByteArray) j (by rw[bH];exact hj)];show s.toArray[j]=_;simp[List.getD,hj])
 rw[hc,Int.toNat_of_nonneg h0] at key;have e:Go.Extern.BytealgIndexByte.indexByte #[.string ⟨s.toArray⟩,.int .u8 c]=(match (List.range (⟨s.toArray⟩:ByteArray).size).find? λi=>(⟨s.toArray⟩:ByteArray)[i]! ==c.toNat.toUInt8 with|some i=>pure (goInt i)|none=>pure (goInt (-1))):=rfl;rw[e,bH,List.range_eq_range'];unfold aS;rw[<-key];generalize List.find? _ _=o;cases o<;>rfl
theorem jw {G:Glo}(s:List UInt8)(c:Int)(h0:0<=c)(h1:c<=255):ak prog G 55 [.str s,.int .u8 c] (.int .i64 (aS s c)):=by
 have hb:=m6 (G:=G) s c h0 h1;refine ax func55 call55 λC hC hGL=> ?_;exact bB
theorem aL {G:Glo}(s:List UInt8)(c:Int)(h0:0<=c)(h1:c<=255):ak prog G 30 [.str s,.int .u8 c] (.int .i64 (aS s c)):=by
 have hb:=jw (G:=G) s c h0 h1;refine ax func30 call30 λC hC hGL=> ?_;exact bB
end
end Go.Proofs.YtnbaflecdkgihaaGreatDoor
namespace Go.Proofs
open Tryz
open Go.Shelf
def Tryz.lays159_ren:Go.Shelf.Ren:=⟨fun|159=>31|165=>56|166=>57|167=>58|169=>59|230=>60|204=>61|240=>123|241=>124|197=>125|118=>126|168=>127|270=>128|262=>129|276=>177|277=>178|260=>179|242=>180|313=>181|278=>219|274=>220|275=>221|n=>n,fun|9=>9|4=>4|3=>3|5=>5|72=>129|0=>0|76=>117|75=>31|107=>135|70=>127|20=>20|37=>89|127=>205|21=>21|105=>206|164=>193|162=>256|203=>254|119=>236|46=>163|139=>295|138=>294|51=>284|160=>296|208=>340|206=>338|80=>133|n=>n,fun|13=>4|3=>6|4=>7|n=>n⟩
theorem Tryz.lays159:Go.Proofs.Lays.n159 prog lays159_ren:={
 mixed:=by kernel_rfl
 f118:=func126.trans (congrArg some be)
 f159:=func31.trans (congrArg some be)
 f165:=func56.trans (congrArg some be)
 f166:=func57.trans (congrArg some be)
 f167:=func58.trans (congrArg some be)
 f168:=func127.trans (congrArg some be)
 f169:=func59.trans (congrArg some be)
 f197:=func125.trans (congrArg some be)
 f204:=func61.trans (congrArg some be)
 f230:=func60.trans (congrArg some be)
 f240:=func123.trans (congrArg some be)
 f241:=func124.trans (congrArg some be)
 f242:=func180.trans (congrArg some be)
 f260:=func179.trans (congrArg some be)
 f262:=func129.trans (congrArg some be)
 f270:=func128.trans (congrArg some be)
 f274:=func220.trans (congrArg some be)
 f275:=func221.trans (congrArg some be)
 f276:=func177.trans (congrArg some be)
 f277:=func178.trans (congrArg some be)
 f278:=func219.trans (congrArg some be)
 f313:=func181.trans (congrArg some be)
 t0:=underlying0
 a0:=isAgg0
 z0:=sizeOf0
 v0:=zeroValue0
 t3:=underlying3
 a3:=isAgg3
 z3:=sizeOf3
 v3:=zeroValue3
 t4:=underlying4
 a4:=isAgg4
 z4:=sizeOf4
 v4:=zeroValue4
 t5:=underlying5
 a5:=isAgg5
 z5:=sizeOf5
 v5:=zeroValue5
 t9:=underlying9
 a9:=isAgg9
 z9:=sizeOf9
 v9:=zeroValue9
 t20:=underlying20
 a20:=isAgg20
 z20:=sizeOf20
 v20:=zeroValue20
 t21:=underlying21
 a21:=isAgg21
 z21:=sizeOf21
 v21:=zeroValue21
 t37:=underlying89
 a37:=isAgg89
 z37:=sizeOf89
 v37:=zeroValue89
 t46:=underlying163
 a46:=isAgg163
 z46:=sizeOf163
 v46:=zeroValue163
 t51:=underlying284
 a51:=isAgg284
 z51:=sizeOf284
 v51:=zeroValue284
 t70:=underlying127
 a70:=isAgg127
 z70:=sizeOf127
 v70:=zeroValue127
 t72:=underlying129
 a72:=isAgg129
 z72:=sizeOf129
 v72:=zeroValue129
 t75:=underlying31
 a75:=isAgg31
 z75:=sizeOf31
 v75:=zeroValue31
 t76:=underlying117
 a76:=isAgg117
 z76:=sizeOf117
 v76:=zeroValue117
 t105:=underlying206
 a105:=isAgg206
 z105:=sizeOf206
 v105:=zeroValue206
 t107:=underlying135
 a107:=isAgg135
 z107:=sizeOf135
 v107:=zeroValue135
 t119:=underlying236
 a119:=isAgg236
 z119:=sizeOf236
 t127:=underlying205
 a127:=isAgg205
 z127:=sizeOf205
 v127:=zeroValue205
 t138:=underlying294
 a138:=isAgg294
 z138:=sizeOf294
 v138:=zeroValue294
 t139:=underlying295
 a139:=isAgg295
 z139:=sizeOf295
 v139:=zeroValue295
 t160:=underlying296
 a160:=isAgg296
 z160:=sizeOf296
 v160:=zeroValue296
 t162:=underlying256
 a162:=isAgg256
 z162:=sizeOf256
 v162:=zeroValue256
 t164:=underlying193
 a164:=isAgg193
 z164:=sizeOf193
 v164:=zeroValue193
 t203:=underlying254
 a203:=isAgg254
 z203:=sizeOf254
 v203:=zeroValue254
 t206:=underlying338
 a206:=isAgg338
 z206:=sizeOf338
 v206:=zeroValue338
 t208:=underlying340
 a208:=isAgg340
 z208:=sizeOf340
 v208:=zeroValue340
 g3:=by kernel_rfl
 g4:=by kernel_rfl
 g13:=by kernel_rfl}
theorem Tryz.Builder_Extra_159:Builder.Extra prog lays159_ren:={
 sizeBuilder:=by kernel_rfl
 liesBuilder:=by kernel_rfl
 t5:=underlying5
 a5:=isAgg5
 z5:=sizeOf5
 v5:=zeroValue5
 infoByte:=by kernel_rfl
 cellsByte:=by kernel_rfl
 sizeByte:=by kernel_rfl
 neB5:=by decide}
open Go.RowKit in
theorem Tryz.strings_ToLower_ascii (s:ByteArray)(w:World)(hs:s.size<=140737488355328)(hascii:∀(j:Nat) (b:UInt8),s.data.toList[j]? =some b->b.toNat<128):
  Calls prog 31 #[.string s] w λe w'=>e= .returned (.string ⟨(Lib.toLowerA s.data.toList).toArray⟩)/\Below w.heap.size w w':=Any.strings_ToLower_ascii lays159 Tryz.Builder_Extra_159 s w hs hascii
def Tryz.lays156_ren:Go.Shelf.Ren:=⟨fun|156=>195|165=>56|166=>57|169=>59|240=>123|241=>124|276=>177|277=>178|n=>n,fun|31=>56|9=>9|3=>3|4=>4|0=>0|20=>20|72=>129|76=>117|70=>127|37=>89|75=>31|127=>205|164=>193|5=>5|80=>133|n=>n,fun|n=>n⟩
theorem Tryz.lays156:Go.Proofs.Lays.n156 prog lays156_ren:={
 mixed:=by kernel_rfl
 f156:=func195.trans (congrArg some be)
 f165:=func56.trans (congrArg some be)
 f166:=func57.trans (congrArg some be)
 f169:=func59.trans (congrArg some be)
 f240:=func123.trans (congrArg some be)
 f241:=func124.trans (congrArg some be)
 f276:=func177.trans (congrArg some be)
 f277:=func178.trans (congrArg some be)
 t0:=underlying0
 a0:=isAgg0
 z0:=sizeOf0
 v0:=zeroValue0
 t3:=underlying3
 a3:=isAgg3
 z3:=sizeOf3
 v3:=zeroValue3
 t4:=underlying4
 a4:=isAgg4
 z4:=sizeOf4
 v4:=zeroValue4
 t9:=underlying9
 a9:=isAgg9
 z9:=sizeOf9
 v9:=zeroValue9
 t20:=underlying20
 a20:=isAgg20
 z20:=sizeOf20
 v20:=zeroValue20
 t31:=underlying56
 a31:=isAgg56
 z31:=sizeOf56
 v31:=zeroValue56
 t37:=underlying89
 a37:=isAgg89
 z37:=sizeOf89
 v37:=zeroValue89
 t70:=underlying127
 a70:=isAgg127
 z70:=sizeOf127
 v70:=zeroValue127
 t72:=underlying129
 a72:=isAgg129
 z72:=sizeOf129
 v72:=zeroValue129
 t75:=underlying31
 a75:=isAgg31
 z75:=sizeOf31
 v75:=zeroValue31
 t76:=underlying117
 a76:=isAgg117
 z76:=sizeOf117
 v76:=zeroValue117
 t127:=underlying205
 a127:=isAgg205
 z127:=sizeOf205
 v127:=zeroValue205
 t164:=underlying193
 a164:=isAgg193
 z164:=sizeOf193
 v164:=zeroValue193}
theorem Tryz.Builder_Extra_156:Builder.Extra prog lays156_ren:={
 sizeBuilder:=by kernel_rfl
 liesBuilder:=by kernel_rfl
 t5:=underlying5
 a5:=isAgg5
 z5:=sizeOf5
 v5:=zeroValue5
 infoByte:=by kernel_rfl
 cellsByte:=by kernel_rfl
 sizeByte:=by kernel_rfl
 neB5:=by decide}
open Go.RowKit in
theorem Tryz.strings_Join_none (a:Option Addr)(c:Nat)(sep:ByteArray)(w:World):
  Calls prog 195 #[.slice a 0 c,.string sep] w λe w'=>e= .returned (.string ⟨#[]⟩)/\w'=w:=Any.strings_Join_none lays156 Tryz.Builder_Extra_156 a c sep w
open Go.RowKit in
theorem Tryz.strings_Join (bk o c:Nat)(xs:List ByteArray)(sep:ByteArray)(w:World)(hcells:∀(j:Nat) x,xs[j]? =some x->w.cell? ⟨bk,o+j,none⟩=some (.string x))(hbk:bk<w.heap.size)(hN:xs.length<=140737488355328)(hcap:xs.length<=c)(hlen:(Lib.join (xs.map (·.data.toList)) sep.data.toList).length<=140737488355328):
  Calls prog 195 #[.slice (some ⟨bk,o,none⟩) xs.length c,.string sep] w λe w'=>e= .returned (.string ⟨(Lib.join (xs.map (·.data.toList)) sep.data.toList).toArray⟩)/\Below w.heap.size w w':=Any.strings_Join lays156 Tryz.Builder_Extra_156 bk o c xs sep w hcells hbk hN hcap hlen
def Tryz.laysM171_ren:Go.Shelf.Ren:=⟨fun|171=>187|243=>225|246=>243|283=>250|284=>251|285=>252|286=>253|129=>261|317=>260|318=>262|319=>263|320=>264|337=>271|338=>272|n=>n,fun|3=>3|9=>9|2=>2|4=>4|171=>352|0=>0|53=>332|37=>89|5=>5|173=>355|212=>372|51=>284|20=>20|213=>373|46=>163|232=>399|233=>400|n=>n,fun|17=>10|18=>11|19=>12|n=>n⟩
theorem Tryz.laysM171:Go.Proofs.LaysM.n171 prog laysM171_ren:={
 mixed:=by kernel_rfl
 f129:=func261.trans (congrArg some be)
 f171:=func187.trans (congrArg some be)
 f243:=func225.trans (congrArg some be)
 f246:=func243.trans (congrArg some be)
 f283:=func250.trans (congrArg some be)
 f284:=func251.trans (congrArg some be)
 f285:=func252.trans (congrArg some be)
 f286:=func253.trans (congrArg some be)
 f317:=func260.trans (congrArg some be)
 f318:=func262.trans (congrArg some be)
 f319:=func263.trans (congrArg some be)
 f320:=func264.trans (congrArg some be)
 f337:=func271.trans (congrArg some be)
 f338:=func272.trans (congrArg some be)
 t0:=underlying0
 a0:=isAgg0
 z0:=sizeOf0
 v0:=zeroValue0
 t2:=underlying2
 a2:=isAgg2
 z2:=sizeOf2
 v2:=zeroValue2
 t3:=underlying3
 a3:=isAgg3
 z3:=sizeOf3
 v3:=zeroValue3
 t4:=underlying4
 a4:=isAgg4
 z4:=sizeOf4
 v4:=zeroValue4
 t5:=underlying5
 a5:=isAgg5
 z5:=sizeOf5
 v5:=zeroValue5
 t9:=underlying9
 a9:=isAgg9
 z9:=sizeOf9
 v9:=zeroValue9
 t20:=underlying20
 a20:=isAgg20
 z20:=sizeOf20
 v20:=zeroValue20
 t37:=underlying89
 a37:=isAgg89
 z37:=sizeOf89
 v37:=zeroValue89
 t46:=underlying163
 a46:=isAgg163
 z46:=sizeOf163
 v46:=zeroValue163
 t51:=underlying284
 a51:=isAgg284
 z51:=sizeOf284
 v51:=zeroValue284
 t53:=underlying332
 a53:=isAgg332
 z53:=sizeOf332
 v53:=zeroValue332
 t171:=underlying352
 a171:=isAgg352
 z171:=sizeOf352
 v171:=zeroValue352
 t173:=underlying355
 a173:=isAgg355
 z173:=sizeOf355
 v173:=zeroValue355
 t212:=underlying372
 a212:=isAgg372
 z212:=sizeOf372
 v212:=zeroValue372
 t213:=underlying373
 a213:=isAgg373
 z213:=sizeOf373
 t232:=underlying399
 a232:=isAgg399
 z232:=sizeOf399
 v232:=zeroValue399
 t233:=underlying400
 a233:=isAgg400
 z233:=sizeOf400
 v233:=zeroValue400
 g17:=by kernel_rfl
 g18:=by kernel_rfl
 g19:=by kernel_rfl
 i0:=by kernel_rfl
 i2:=by kernel_rfl
 i3:=by kernel_rfl
 i4:=by kernel_rfl
 i5:=by kernel_rfl
 i9:=by kernel_rfl
 i20:=by kernel_rfl
 i37:=by kernel_rfl
 i46:=by kernel_rfl
 i51:=by kernel_rfl
 i53:=by kernel_rfl
 i171:=by kernel_rfl
 i173:=by kernel_rfl
 i212:=by kernel_rfl
 i232:=by kernel_rfl
 i233:=by kernel_rfl
 m17:=by kernel_rfl
 m18:=by kernel_rfl
 m19:=by kernel_rfl}
open Go.RowKit Go.Sort Go.Lib in
theorem Tryz.strconv_Itoa (n:Int)(h0: -9223372036854775808≤n)(h1:n≤9223372036854775807)(w:World)(htab:Lib.TabIs prog w "internal/strconv.uint64pow10" .u64 Lib.pow10Tab):
  Calls prog 187 #[.int .i64 n] w fun e w'=>e= .returned (.string ⟨(Lib.itoa n).toArray⟩)∧∃k os,w'=grow (w.drewN k) os:=Any.strconv_Itoa laysM171 n h0 h1 w htab
def Tryz.laysM173_ren:Go.Shelf.Ren:=⟨fun|173=>244|246=>243|283=>250|284=>251|285=>252|286=>253|129=>261|317=>260|318=>262|319=>263|320=>264|337=>271|338=>272|n=>n,fun|2=>2|3=>3|9=>9|4=>4|171=>352|0=>0|53=>332|37=>89|5=>5|173=>355|212=>372|51=>284|20=>20|213=>373|46=>163|232=>399|233=>400|n=>n,fun|17=>10|18=>11|19=>12|n=>n⟩
theorem Tryz.laysM173:Go.Proofs.LaysM.n173 prog laysM173_ren:={
 mixed:=by kernel_rfl
 f129:=func261.trans (congrArg some be)
 f173:=func244.trans (congrArg some be)
 f246:=func243.trans (congrArg some be)
 f283:=func250.trans (congrArg some be)
 f284:=func251.trans (congrArg some be)
 f285:=func252.trans (congrArg some be)
 f286:=func253.trans (congrArg some be)
 f317:=func260.trans (congrArg some be)
 f318:=func262.trans (congrArg some be)
 f319:=func263.trans (congrArg some be)
 f320:=func264.trans (congrArg some be)
 f337:=func271.trans (congrArg some be)
 f338:=func272.trans (congrArg some be)
 t0:=underlying0
 a0:=isAgg0
 z0:=sizeOf0
 v0:=zeroValue0
 t2:=underlying2
 a2:=isAgg2
 z2:=sizeOf2
 v2:=zeroValue2
 t3:=underlying3
 a3:=isAgg3
 z3:=sizeOf3
 v3:=zeroValue3
 t4:=underlying4
 a4:=isAgg4
 z4:=sizeOf4
 v4:=zeroValue4
 t5:=underlying5
 a5:=isAgg5
 z5:=sizeOf5
 v5:=zeroValue5
 t9:=underlying9
 a9:=isAgg9
 z9:=sizeOf9
 v9:=zeroValue9
 t20:=underlying20
 a20:=isAgg20
 z20:=sizeOf20
 v20:=zeroValue20
 t37:=underlying89
 a37:=isAgg89
 z37:=sizeOf89
 v37:=zeroValue89
 t46:=underlying163
 a46:=isAgg163
 z46:=sizeOf163
 v46:=zeroValue163
 t51:=underlying284
 a51:=isAgg284
 z51:=sizeOf284
 v51:=zeroValue284
 t53:=underlying332
 a53:=isAgg332
 z53:=sizeOf332
 v53:=zeroValue332
 t171:=underlying352
 a171:=isAgg352
 z171:=sizeOf352
 v171:=zeroValue352
 t173:=underlying355
 a173:=isAgg355
 z173:=sizeOf355
 v173:=zeroValue355
 t212:=underlying372
 a212:=isAgg372
 z212:=sizeOf372
 v212:=zeroValue372
 t213:=underlying373
 a213:=isAgg373
 z213:=sizeOf373
 t232:=underlying399
 a232:=isAgg399
 z232:=sizeOf399
 v232:=zeroValue399
 t233:=underlying400
 a233:=isAgg400
 z233:=sizeOf400
 v233:=zeroValue400
 g17:=by kernel_rfl
 g18:=by kernel_rfl
 g19:=by kernel_rfl
 i0:=by kernel_rfl
 i2:=by kernel_rfl
 i3:=by kernel_rfl
 i4:=by kernel_rfl
 i5:=by kernel_rfl
 i9:=by kernel_rfl
 i20:=by kernel_rfl
 i37:=by kernel_rfl
 i46:=by kernel_rfl
 i51:=by kernel_rfl
 i53:=by kernel_rfl
 i171:=by kernel_rfl
 i173:=by kernel_rfl
 i212:=by kernel_rfl
 i232:=by kernel_rfl
 i233:=by kernel_rfl
 m17:=by kernel_rfl
 m18:=by kernel_rfl
 m19:=by kernel_rfl}
open Go.RowKit Go.Sort Go.Lib in
theorem Tryz.strconv_FormatInt_10 (n:Int)(h0: -9223372036854775808≤n)(h1:n≤9223372036854775807)(w:World)(htab:Lib.TabIs prog w "internal/strconv.uint64pow10" .u64 Lib.pow10Tab):
  Calls prog 244 #[.int .i64 n,.int .i64 10] w fun e w'=>e= .returned (.string ⟨(Lib.itoa n).toArray⟩)∧∃k os,w'=grow (w.drewN k) os:=Any.strconv_FormatInt_10 laysM173 n h0 h1 w htab
def Tryz.lays173_ren:Go.Shelf.Ren:=⟨fun|173=>244|246=>243|283=>250|284=>251|285=>252|286=>253|129=>261|317=>260|318=>262|319=>263|320=>264|337=>271|338=>272|n=>n,fun|2=>2|3=>3|9=>9|4=>4|171=>352|0=>0|53=>332|37=>89|5=>5|173=>355|212=>372|51=>284|20=>20|213=>373|46=>163|232=>399|233=>400|n=>n,fun|17=>10|18=>11|19=>12|n=>n⟩
theorem Tryz.lays173:Go.Proofs.Lays.n173 prog lays173_ren:={
 mixed:=by kernel_rfl
 f129:=func261.trans (congrArg some be)
 f173:=func244.trans (congrArg some be)
 f246:=func243.trans (congrArg some be)
 f283:=func250.trans (congrArg some be)
 f284:=func251.trans (congrArg some be)
 f285:=func252.trans (congrArg some be)
 f286:=func253.trans (congrArg some be)
 f317:=func260.trans (congrArg some be)
 f318:=func262.trans (congrArg some be)
 f319:=func263.trans (congrArg some be)
 f320:=func264.trans (congrArg some be)
 f337:=func271.trans (congrArg some be)
 f338:=func272.trans (congrArg some be)
 t0:=underlying0
 a0:=isAgg0
 z0:=sizeOf0
 v0:=zeroValue0
 t2:=underlying2
 a2:=isAgg2
 z2:=sizeOf2
 v2:=zeroValue2
 t3:=underlying3
 a3:=isAgg3
 z3:=sizeOf3
 v3:=zeroValue3
 t4:=underlying4
 a4:=isAgg4
 z4:=sizeOf4
 v4:=zeroValue4
 t5:=underlying5
 a5:=isAgg5
 z5:=sizeOf5
 v5:=zeroValue5
 t9:=underlying9
 a9:=isAgg9
 z9:=sizeOf9
 v9:=zeroValue9
 t20:=underlying20
 a20:=isAgg20
 z20:=sizeOf20
 v20:=zeroValue20
 t37:=underlying89
 a37:=isAgg89
 z37:=sizeOf89
 v37:=zeroValue89
 t46:=underlying163
 a46:=isAgg163
 z46:=sizeOf163
 v46:=zeroValue163
 t51:=underlying284
 a51:=isAgg284
 z51:=sizeOf284
 v51:=zeroValue284
 t53:=underlying332
 a53:=isAgg332
 z53:=sizeOf332
 v53:=zeroValue332
 t171:=underlying352
 a171:=isAgg352
 z171:=sizeOf352
 v171:=zeroValue352
 t173:=underlying355
 a173:=isAgg355
 z173:=sizeOf355
 v173:=zeroValue355
 t212:=underlying372
 a212:=isAgg372
 z212:=sizeOf372
 v212:=zeroValue372
 t213:=underlying373
 a213:=isAgg373
 z213:=sizeOf373
 t232:=underlying399
 a232:=isAgg399
 z232:=sizeOf399
 v232:=zeroValue399
 t233:=underlying400
 a233:=isAgg400
 z233:=sizeOf400
 v233:=zeroValue400
 g17:=by kernel_rfl
 g18:=by kernel_rfl
 g19:=by kernel_rfl}
open Go.RowKit Go.Sort Go.Lib in
theorem Tryz.strconv_FormatInt_10_small (i:Nat)(hi:i<100)(w:World):
  Calls prog 244 #[.int .i64 i,.int .i64 10] w λe w'=>e= .returned (.string ⟨(Lib.decDigits i).toArray⟩)/\w'=w:=Any.strconv_FormatInt_10_small lays173 i hi w
def Tryz.laysC172_ren:Go.Shelf.Ren:=⟨fun|172=>117|244=>172|245=>173|247=>214|279=>215|280=>216|281=>217|282=>218|287=>237|316=>238|171=>187|205=>239|321=>248|322=>249|243=>225|246=>243|283=>250|284=>251|285=>252|286=>253|129=>261|317=>260|318=>262|319=>263|320=>264|337=>271|338=>272|n=>n,fun|9=>9|3=>3|75=>31|76=>117|4=>4|5=>5|167=>287|37=>89|0=>0|85=>288|2=>2|168=>290|53=>332|175=>333|46=>163|210=>336|127=>205|145=>351|143=>349|21=>21|171=>352|173=>355|212=>372|51=>284|20=>20|213=>373|232=>399|233=>400|80=>133|n=>n,fun|15=>8|16=>9|17=>10|18=>11|19=>12|n=>n⟩
theorem Tryz.laysC172:Go.Proofs.LaysC.n172 prog laysC172_ren:={
 mixed:=by kernel_rfl
 f129:=func261.trans (congrArg some be)
 f171:=func187.trans (congrArg some be)
 f172:=func117.trans (congrArg some be)
 f205:=func239.trans (congrArg some be)
 f243:=func225.trans (congrArg some be)
 f244:=func172.trans (congrArg some be)
 f245:=func173.trans (congrArg some be)
 f246:=func243.trans (congrArg some be)
 f247:=func214.trans (congrArg some be)
 f279:=func215.trans (congrArg some be)
 f280:=func216.trans (congrArg some be)
 f281:=func217.trans (congrArg some be)
 f282:=func218.trans (congrArg some be)
 f283:=func250.trans (congrArg some be)
 f284:=func251.trans (congrArg some be)
 f285:=func252.trans (congrArg some be)
 f286:=func253.trans (congrArg some be)
 f287:=func237.trans (congrArg some be)
 f316:=func238.trans (congrArg some be)
 f317:=func260.trans (congrArg some be)
 f318:=func262.trans (congrArg some be)
 f319:=func263.trans (congrArg some be)
 f320:=func264.trans (congrArg some be)
 f321:=func248.trans (congrArg some be)
 f322:=func249.trans (congrArg some be)
 f337:=func271.trans (congrArg some be)
 f338:=func272.trans (congrArg some be)
 t0:=underlying0
 a0:=isAgg0
 z0:=sizeOf0
 v0:=zeroValue0
 t2:=underlying2
 a2:=isAgg2
 z2:=sizeOf2
 v2:=zeroValue2
 t3:=underlying3
 a3:=isAgg3
 z3:=sizeOf3
 v3:=zeroValue3
 t4:=underlying4
 a4:=isAgg4
 z4:=sizeOf4
 v4:=zeroValue4
 t5:=underlying5
 a5:=isAgg5
 z5:=sizeOf5
 v5:=zeroValue5
 t9:=underlying9
 a9:=isAgg9
 z9:=sizeOf9
 v9:=zeroValue9
 t20:=underlying20
 a20:=isAgg20
 z20:=sizeOf20
 v20:=zeroValue20
 t21:=underlying21
 a21:=isAgg21
 z21:=sizeOf21
 v21:=zeroValue21
 t37:=underlying89
 a37:=isAgg89
 z37:=sizeOf89
 v37:=zeroValue89
 t46:=underlying163
 a46:=isAgg163
 z46:=sizeOf163
 v46:=zeroValue163
 t51:=underlying284
 a51:=isAgg284
 z51:=sizeOf284
 v51:=zeroValue284
 t53:=underlying332
 a53:=isAgg332
 z53:=sizeOf332
 v53:=zeroValue332
 t75:=underlying31
 a75:=isAgg31
 z75:=sizeOf31
 v75:=zeroValue31
 t76:=underlying117
 a76:=isAgg117
 z76:=sizeOf117
 v76:=zeroValue117
 t85:=underlying288
 a85:=isAgg288
 z85:=sizeOf288
 v85:=zeroValue288
 t127:=underlying205
 a127:=isAgg205
 z127:=sizeOf205
 v127:=zeroValue205
 t143:=underlying349
 a143:=isAgg349
 z143:=sizeOf349
 v143:=zeroValue349
 t145:=underlying351
 a145:=isAgg351
 z145:=sizeOf351
 v145:=zeroValue351
 t167:=underlying287
 a167:=isAgg287
 z167:=sizeOf287
 v167:=zeroValue287
 t168:=underlying290
 a168:=isAgg290
 z168:=sizeOf290
 v168:=zeroValue290
 t171:=underlying352
 a171:=isAgg352
 z171:=sizeOf352
 v171:=zeroValue352
 t173:=underlying355
 a173:=isAgg355
 z173:=sizeOf355
 v173:=zeroValue355
 t175:=underlying333
 a175:=isAgg333
 z175:=sizeOf333
 v175:=zeroValue333
 t210:=underlying336
 a210:=isAgg336
 z210:=sizeOf336
 v210:=zeroValue336
 t212:=underlying372
 a212:=isAgg372
 z212:=sizeOf372
 v212:=zeroValue372
 t213:=underlying373
 a213:=isAgg373
 z213:=sizeOf373
 t232:=underlying399
 a232:=isAgg399
 z232:=sizeOf399
 v232:=zeroValue399
 t233:=underlying400
 a233:=isAgg400
 z233:=sizeOf400
 v233:=zeroValue400
 g15:=by kernel_rfl
 g16:=by kernel_rfl
 g17:=by kernel_rfl
 g18:=by kernel_rfl
 g19:=by kernel_rfl
 t80:=underlying133
 a80:=isAgg133
 z80:=sizeOf133
 v80:=zeroValue133
 i0:=by kernel_rfl
 i2:=by kernel_rfl
 i3:=by kernel_rfl
 i4:=by kernel_rfl
 i5:=by kernel_rfl
 i9:=by kernel_rfl
 i20:=by kernel_rfl
 i21:=by kernel_rfl
 i37:=by kernel_rfl
 i46:=by kernel_rfl
 i51:=by kernel_rfl
 i53:=by kernel_rfl
 i75:=by kernel_rfl
 i76:=by kernel_rfl
 i80:=by kernel_rfl
 i85:=by kernel_rfl
 i127:=by kernel_rfl
 i143:=by kernel_rfl
 i145:=by kernel_rfl
 i167:=by kernel_rfl
 i168:=by kernel_rfl
 i171:=by kernel_rfl
 i173:=by kernel_rfl
 i175:=by kernel_rfl
 i210:=by kernel_rfl
 i212:=by kernel_rfl
 i232:=by kernel_rfl
 i233:=by kernel_rfl
 m15:=by kernel_rfl
 m16:=by kernel_rfl
 m17:=by kernel_rfl
 m18:=by kernel_rfl
 m19:=by kernel_rfl
 c0:=by kernel_rfl
 c2:=by kernel_rfl
 c3:=by kernel_rfl
 c4:=by kernel_rfl
 c5:=by kernel_rfl
 c9:=by kernel_rfl
 c20:=by kernel_rfl
 c21:=by kernel_rfl
 c37:=by kernel_rfl
 c46:=by kernel_rfl
 c51:=by kernel_rfl
 c53:=by kernel_rfl
 c75:=by kernel_rfl
 c76:=by kernel_rfl
 c80:=by kernel_rfl
 c85:=by kernel_rfl
 c127:=by kernel_rfl
 c143:=by kernel_rfl
 c145:=by kernel_rfl
 c167:=by kernel_rfl
 c168:=by kernel_rfl
 c171:=by kernel_rfl
 c173:=by kernel_rfl
 c175:=by kernel_rfl
 c210:=by kernel_rfl
 c212:=by kernel_rfl
 c213:=by kernel_rfl
 c232:=by kernel_rfl
 c233:=by kernel_rfl}
open Go.RowKit in
theorem Tryz.strconv_Atoi_ok (s:ByteArray)(hmax:s.size<=9223372036854775806)(v:Int)(h:Lib.atoiAll s.data.toList= .ok v)(w:World):
  Calls prog 117 #[.string s] w λe w'=>e= .returned (.tuple #[.int .i64 v,.nilIface])/\(w'=w\/∃t,w'=Lib.bytesWorld w 5 t):=Any.strconv_Atoi_ok laysC172 s hmax v h w
open Go.RowKit in
theorem Tryz.strconv_Atoi_syntax (s:ByteArray)(hlim:s.size<=281474976710656)(h:Lib.atoiAll s.data.toList=Lib.NumEnd.syntax)(ev:Value)(w:World)(hv:w.cell? ⟨8,0,none⟩=some ev)(hev:ev= .nilIface\/∃te pe,ev= .iface te pe):
  Calls prog 117 #[.string s] w λe w'=>∃N,e= .returned (.tuple #[.int .i64 (0),.iface 290 (.pointer (some ⟨N,0,none⟩))])/\w.heap.size<=N/\w'.heap[N]? =some (.cells #[.string ⟨#[65,116,111,105]⟩,.string s,ev] 336 (0,0))/\Below w.heap.size w w':=Any.strconv_Atoi_syntax laysC172 s hlim h ev w hv hev
open Go.RowKit in
theorem Tryz.strconv_Atoi_range (s:ByteArray)(hlim:s.size<=281474976710656)(h:Lib.atoiAll s.data.toList= .range)(ev:Value)(w:World)(hv:w.cell? ⟨9,0,none⟩=some ev)(hev:ev= .nilIface\/∃te pe,ev= .iface te pe):
  Calls prog 117 #[.string s] w λe w'=>∃N,e= .returned (.tuple #[.int .i64 (Lib.atoiSat s.data.toList),.iface 290 (.pointer (some ⟨N,0,none⟩))])/\w.heap.size<=N/\w'.heap[N]? =some (.cells #[.string ⟨#[65,116,111,105]⟩,.string s,ev] 336 (0,0))/\Below w.heap.size w w':=Any.strconv_Atoi_range laysC172 s hlim h ev w hv hev
def Tryz.lays143_ren:Go.Shelf.Ren:=⟨fun|143=>131|219=>182|217=>55|225=>88|224=>87|267=>222|266=>122|314=>240|n=>n,fun|9=>9|3=>3|4=>4|5=>5|46=>163|146=>341|51=>284|n=>n,fun|1=>2|n=>n⟩
theorem Tryz.lays143:Go.Proofs.Lays.n143 prog lays143_ren:={
 mixed:=by kernel_rfl
 f143:=func131.trans (congrArg some be)
 f217:=func55.trans (congrArg some be)
 f219:=func182.trans (congrArg some be)
 f224:=func87.trans (congrArg some be)
 f225:=func88.trans (congrArg some be)
 f266:=func122.trans (congrArg some be)
 f267:=func222.trans (congrArg some be)
 f314:=func240.trans (congrArg some be)
 t3:=underlying3
 a3:=isAgg3
 z3:=sizeOf3
 v3:=zeroValue3
 t4:=underlying4
 a4:=isAgg4
 z4:=sizeOf4
 v4:=zeroValue4
 t5:=underlying5
 a5:=isAgg5
 z5:=sizeOf5
 v5:=zeroValue5
 t9:=underlying9
 a9:=isAgg9
 z9:=sizeOf9
 v9:=zeroValue9
 t46:=underlying163
 a46:=isAgg163
 z46:=sizeOf163
 v46:=zeroValue163
 t51:=underlying284
 a51:=isAgg284
 z51:=sizeOf284
 v51:=zeroValue284
 t146:=underlying341
 a146:=isAgg341
 z146:=sizeOf341
 v146:=zeroValue341
 g1:=by kernel_rfl}
open Go.RowKit Go.Lib in
theorem Tryz.strings_Index (s sub:ByteArray)(m:Int)(w:World)(hs:s.size<4294967281)(hm:w.cell? ⟨2,0,none⟩=some (.int .i64 m)):
  Calls prog 131 #[.string s,.string sub] w λe w'=>e= .returned (.int .i64 (Lib.index s.data.toList sub.data.toList))/\w'=w:=Any.strings_Index lays143 s sub m w hs hm
def Tryz.lays144_ren:Go.Shelf.Ren:=⟨fun|144=>145|143=>131|219=>182|217=>55|225=>88|224=>87|267=>222|266=>122|314=>240|n=>n,fun|9=>9|4=>4|3=>3|5=>5|46=>163|146=>341|51=>284|n=>n,fun|1=>2|n=>n⟩
theorem Tryz.lays144:Go.Proofs.Lays.n144 prog lays144_ren:={
 mixed:=by kernel_rfl
 f143:=func131.trans (congrArg some be)
 f144:=func145.trans (congrArg some be)
 f217:=func55.trans (congrArg some be)
 f219:=func182.trans (congrArg some be)
 f224:=func87.trans (congrArg some be)
 f225:=func88.trans (congrArg some be)
 f266:=func122.trans (congrArg some be)
 f267:=func222.trans (congrArg some be)
 f314:=func240.trans (congrArg some be)
 t3:=underlying3
 a3:=isAgg3
 z3:=sizeOf3
 v3:=zeroValue3
 t4:=underlying4
 a4:=isAgg4
 z4:=sizeOf4
 v4:=zeroValue4
 t5:=underlying5
 a5:=isAgg5
 z5:=sizeOf5
 v5:=zeroValue5
 t9:=underlying9
 a9:=isAgg9
 z9:=sizeOf9
 v9:=zeroValue9
 t46:=underlying163
 a46:=isAgg163
 z46:=sizeOf163
 v46:=zeroValue163
 t51:=underlying284
 a51:=isAgg284
 z51:=sizeOf284
 v51:=zeroValue284
 t146:=underlying341
 a146:=isAgg341
 z146:=sizeOf341
 v146:=zeroValue341
 g1:=by kernel_rfl}
open Go.RowKit Go.Lib in
theorem Tryz.strings_Contains_one (s:ByteArray)(c:UInt8)(w:World):
  Calls prog 145 #[.string s,.string ⟨#[c]⟩] w λe w'=>e= .returned (.bool (decide (0<=Lib.indexByte s.data.toList c)))/\w'=w:=Any.strings_Contains_one lays144 s c w
open Go.RowKit Go.Lib in
theorem Tryz.strings_Contains (s sub:ByteArray)(m:Int)(w:World)(hs:s.size<4294967281)(hm:w.cell? ⟨2,0,none⟩=some (.int .i64 m)):
  Calls prog 145 #[.string s,.string sub] w λe w'=>e= .returned (.bool (Lib.contains s.data.toList sub.data.toList))/\w'=w:=Any.strings_Contains lays144 s sub m w hs hm
def Tryz.lays145_ren:Go.Shelf.Ren:=⟨fun|145=>109|220=>160|219=>182|217=>55|225=>88|224=>87|267=>222|266=>122|314=>240|n=>n,fun|9=>9|4=>4|59=>185|3=>3|5=>5|46=>163|146=>341|51=>284|n=>n,fun|1=>2|n=>n⟩
theorem Tryz.lays145:Go.Proofs.Lays.n145 prog lays145_ren:={
 mixed:=by kernel_rfl
 f145:=func109.trans (congrArg some be)
 f217:=func55.trans (congrArg some be)
 f219:=func182.trans (congrArg some be)
 f220:=func160.trans (congrArg some be)
 f224:=func87.trans (congrArg some be)
 f225:=func88.trans (congrArg some be)
 f266:=func122.trans (congrArg some be)
 f267:=func222.trans (congrArg some be)
 f314:=func240.trans (congrArg some be)
 t3:=underlying3
 a3:=isAgg3
 z3:=sizeOf3
 v3:=zeroValue3
 t4:=underlying4
 a4:=isAgg4
 z4:=sizeOf4
 v4:=zeroValue4
 t5:=underlying5
 a5:=isAgg5
 z5:=sizeOf5
 v5:=zeroValue5
 t9:=underlying9
 a9:=isAgg9
 z9:=sizeOf9
 v9:=zeroValue9
 t46:=underlying163
 a46:=isAgg163
 z46:=sizeOf163
 v46:=zeroValue163
 t51:=underlying284
 a51:=isAgg284
 z51:=sizeOf284
 v51:=zeroValue284
 t59:=underlying185
 a59:=isAgg185
 z59:=sizeOf185
 v59:=zeroValue185
 t146:=underlying341
 a146:=isAgg341
 z146:=sizeOf341
 v146:=zeroValue341
 g1:=by kernel_rfl}
open Go.RowKit Go.Lib in
theorem Tryz.strings_Cut (s sep:ByteArray)(m:Int)(w:World)(hs:s.size<4294967281)(hm:w.cell? ⟨2,0,none⟩=some (.int .i64 m)):
  Calls prog 109 #[.string s,.string sep] w λe w'=>e= .returned (.tuple #[.string ⟨(Lib.cut s.data.toList sep.data.toList).1.toArray⟩,.string ⟨(Lib.cut s.data.toList sep.data.toList).2.1.toArray⟩,.bool (Lib.cut s.data.toList sep.data.toList).2.2])/\∃n,w'=w.drewN n:=Any.strings_Cut lays145 s sep m w hs hm
def Tryz.lays138_ren:Go.Shelf.Ren:=⟨fun|138=>223|195=>241|218=>242|143=>131|219=>182|217=>55|225=>88|224=>87|267=>222|266=>122|314=>240|n=>n,fun|9=>9|3=>3|4=>4|5=>5|0=>0|46=>163|146=>341|51=>284|n=>n,fun|1=>2|n=>n⟩
theorem Tryz.lays138:Go.Proofs.Lays.n138 prog lays138_ren:={
 mixed:=by kernel_rfl
 f138:=func223.trans (congrArg some be)
 f143:=func131.trans (congrArg some be)
 f195:=func241.trans (congrArg some be)
 f217:=func55.trans (congrArg some be)
 f218:=func242.trans (congrArg some be)
 f219:=func182.trans (congrArg some be)
 f224:=func87.trans (congrArg some be)
 f225:=func88.trans (congrArg some be)
 f266:=func122.trans (congrArg some be)
 f267:=func222.trans (congrArg some be)
 f314:=func240.trans (congrArg some be)
 t0:=underlying0
 a0:=isAgg0
 z0:=sizeOf0
 v0:=zeroValue0
 t3:=underlying3
 a3:=isAgg3
 z3:=sizeOf3
 v3:=zeroValue3
 t4:=underlying4
 a4:=isAgg4
 z4:=sizeOf4
 v4:=zeroValue4
 t5:=underlying5
 a5:=isAgg5
 z5:=sizeOf5
 v5:=zeroValue5
 t9:=underlying9
 a9:=isAgg9
 z9:=sizeOf9
 v9:=zeroValue9
 t46:=underlying163
 a46:=isAgg163
 z46:=sizeOf163
 v46:=zeroValue163
 t51:=underlying284
 a51:=isAgg284
 z51:=sizeOf284
 v51:=zeroValue284
 t146:=underlying341
 a146:=isAgg341
 z146:=sizeOf341
 v146:=zeroValue341
 g1:=by kernel_rfl}
open Go.RowKit Go.Lib in
theorem Tryz.strings_Count_one (s:ByteArray)(c:UInt8)(w:World):
  Calls prog 223 #[.string s,.string ⟨#[c]⟩] w λe w'=>e= .returned (.int .i64 (Lib.countByte s.data.toList c))/\w'=w:=Any.strings_Count_one lays138 s c w
def Tryz.lays99_ren:Go.Shelf.Ren:=⟨fun|99=>25|206=>44|n=>n,fun|9=>9|4=>4|3=>3|n=>n,fun|n=>n⟩
theorem Tryz.lays99:Go.Proofs.Lays.n99 prog lays99_ren:={
 mixed:=by kernel_rfl
 f99:=func25.trans (congrArg some be)
 f206:=func44.trans (congrArg some be)
 t3:=underlying3
 a3:=isAgg3
 z3:=sizeOf3
 v3:=zeroValue3
 t4:=underlying4
 a4:=isAgg4
 z4:=sizeOf4
 v4:=zeroValue4
 t9:=underlying9
 a9:=isAgg9
 z9:=sizeOf9
 v9:=zeroValue9}
open Go.RowKit Go.Lib in
theorem Tryz.strings_HasPrefix (s p:ByteArray)(w:World):
  Calls prog 25 #[.string s,.string p] w λe w'=>e= .returned (.bool (Lib.hasPrefix s.data.toList p.data.toList))/\w'=w:=Any.strings_HasPrefix lays99 s p w
def Tryz.lays146_ren:Go.Shelf.Ren:=⟨fun|146=>141|221=>185|268=>224|138=>223|143=>131|195=>241|197=>125|218=>242|219=>182|260=>179|217=>55|225=>88|224=>87|267=>222|266=>122|314=>240|n=>n,fun|9=>9|31=>56|3=>3|4=>4|0=>0|105=>206|21=>21|5=>5|46=>163|119=>236|139=>295|138=>294|146=>341|51=>284|n=>n,fun|1=>2|3=>6|4=>7|n=>n⟩
theorem Tryz.lays146:Go.Proofs.Lays.n146 prog lays146_ren:={
 mixed:=by kernel_rfl
 f138:=func223.trans (congrArg some be)
 f143:=func131.trans (congrArg some be)
 f146:=func141.trans (congrArg some be)
 f195:=func241.trans (congrArg some be)
 f197:=func125.trans (congrArg some be)
 f217:=func55.trans (congrArg some be)
 f218:=func242.trans (congrArg some be)
 f219:=func182.trans (congrArg some be)
 f221:=func185.trans (congrArg some be)
 f224:=func87.trans (congrArg some be)
 f225:=func88.trans (congrArg some be)
 f260:=func179.trans (congrArg some be)
 f266:=func122.trans (congrArg some be)
 f267:=func222.trans (congrArg some be)
 f268:=func224.trans (congrArg some be)
 f314:=func240.trans (congrArg some be)
 t0:=underlying0
 a0:=isAgg0
 z0:=sizeOf0
 v0:=zeroValue0
 t3:=underlying3
 a3:=isAgg3
 z3:=sizeOf3
 v3:=zeroValue3
 t4:=underlying4
 a4:=isAgg4
 z4:=sizeOf4
 v4:=zeroValue4
 t5:=underlying5
 a5:=isAgg5
 z5:=sizeOf5
 v5:=zeroValue5
 t9:=underlying9
 a9:=isAgg9
 z9:=sizeOf9
 v9:=zeroValue9
 t21:=underlying21
 a21:=isAgg21
 z21:=sizeOf21
 v21:=zeroValue21
 t31:=underlying56
 a31:=isAgg56
 z31:=sizeOf56
 v31:=zeroValue56
 t46:=underlying163
 a46:=isAgg163
 z46:=sizeOf163
 v46:=zeroValue163
 t51:=underlying284
 a51:=isAgg284
 z51:=sizeOf284
 v51:=zeroValue284
 t105:=underlying206
 a105:=isAgg206
 z105:=sizeOf206
 v105:=zeroValue206
 t119:=underlying236
 a119:=isAgg236
 z119:=sizeOf236
 t138:=underlying294
 a138:=isAgg294
 z138:=sizeOf294
 v138:=zeroValue294
 t139:=underlying295
 a139:=isAgg295
 z139:=sizeOf295
 v139:=zeroValue295
 t146:=underlying341
 a146:=isAgg341
 z146:=sizeOf341
 v146:=zeroValue341
 g1:=by kernel_rfl
 g3:=by kernel_rfl
 g4:=by kernel_rfl}
open Go.RowKit Go.Lib in
theorem Tryz.strings_Split (s sep:ByteArray)(m:Int)(w:World)(hs:s.size<4294967281)(hm:w.cell? ⟨2,0,none⟩=some (.int .i64 m))(h1:1<=sep.size):
  Calls prog 141 #[.string s,.string sep] w λe w'=>
   e= .returned (.slice (some ⟨w.heap.size,0,none⟩) (Lib.countB s sep+1) (Lib.countB s sep+1))/\w'=w.alloc (.cells ((Lib.splitB sep 0 (Lib.countB s sep) s).map Value.string).toArray 9):=Any.strings_Split lays146 be s sep m w hs hm h1
def Tryz.lays157_ren:Go.Shelf.Ren:=⟨fun|157=>116|229=>170|199=>171|261=>213|311=>235|312=>236|n=>n,fun|9=>9|31=>56|3=>3|5=>5|4=>4|119=>236|0=>0|40=>161|152=>281|21=>21|154=>283|51=>284|141=>286|196=>324|193=>321|198=>327|49=>325|194=>322|201=>330|226=>346|46=>163|227=>347|n=>n,fun|0=>3|6=>5|n=>n⟩
theorem Tryz.lays157:Go.Proofs.Lays.n157 prog lays157_ren:={
 mixed:=by kernel_rfl
 f157:=func116.trans (congrArg some be)
 f199:=func171.trans (congrArg some be)
 f229:=func170.trans (congrArg some be)
 f261:=func213.trans (congrArg some be)
 f311:=func235.trans (congrArg some be)
 f312:=func236.trans (congrArg some be)
 t0:=underlying0
 a0:=isAgg0
 z0:=sizeOf0
 v0:=zeroValue0
 t3:=underlying3
 a3:=isAgg3
 z3:=sizeOf3
 v3:=zeroValue3
 t4:=underlying4
 a4:=isAgg4
 z4:=sizeOf4
 v4:=zeroValue4
 t5:=underlying5
 a5:=isAgg5
 z5:=sizeOf5
 v5:=zeroValue5
 t9:=underlying9
 a9:=isAgg9
 z9:=sizeOf9
 v9:=zeroValue9
 t21:=underlying21
 a21:=isAgg21
 z21:=sizeOf21
 v21:=zeroValue21
 t31:=underlying56
 a31:=isAgg56
 z31:=sizeOf56
 v31:=zeroValue56
 t40:=underlying161
 a40:=isAgg161
 z40:=sizeOf161
 v40:=zeroValue161
 t46:=underlying163
 a46:=isAgg163
 z46:=sizeOf163
 v46:=zeroValue163
 t49:=underlying325
 a49:=isAgg325
 z49:=sizeOf325
 v49:=zeroValue325
 t51:=underlying284
 a51:=isAgg284
 z51:=sizeOf284
 v51:=zeroValue284
 t119:=underlying236
 a119:=isAgg236
 z119:=sizeOf236
 t141:=underlying286
 a141:=isAgg286
 z141:=sizeOf286
 v141:=zeroValue286
 t152:=underlying281
 a152:=isAgg281
 z152:=sizeOf281
 v152:=zeroValue281
 t154:=underlying283
 a154:=isAgg283
 z154:=sizeOf283
 v154:=zeroValue283
 t193:=underlying321
 a193:=isAgg321
 z193:=sizeOf321
 v193:=zeroValue321
 t194:=underlying322
 a194:=isAgg322
 z194:=sizeOf322
 v194:=zeroValue322
 t196:=underlying324
 a196:=isAgg324
 z196:=sizeOf324
 v196:=zeroValue324
 t198:=underlying327
 a198:=isAgg327
 z198:=sizeOf327
 v198:=zeroValue327
 t201:=underlying330
 a201:=isAgg330
 z201:=sizeOf330
 v201:=zeroValue330
 t226:=underlying346
 a226:=isAgg346
 z226:=sizeOf346
 v226:=zeroValue346
 t227:=underlying347
 a227:=isAgg347
 z227:=sizeOf347
 v227:=zeroValue347
 g0:=by kernel_rfl
 g6:=by kernel_rfl}
open Go.RowKit Go.Lib in
theorem Tryz.strings_Fields (s:ByteArray)(w:World)(hs:s.size<4294967281)(hascii:∀(j:Nat) b,s.data.toList[j]? =some b→b.toNat<128)(htab:Lib.TabIs prog w "strings.asciiSpace" .u8 Lib.asciiSpaceTab):
  Calls prog 116 #[.string s] w fun e w'=>
   e= .returned (.slice (some ⟨w.heap.size,0,none⟩) (Lib.fields s.data.toList).length (Lib.fields s.data.toList).length)∧w'=w.alloc (.cells ((Lib.fields s.data.toList).map fun l=>Value.string ⟨l.toArray⟩).toArray 9):=Any.strings_Fields lays157 be be s w hs hascii htab
def Tryz.lays155_ren:Go.Shelf.Ren:=⟨fun|155=>136|154=>184|138=>223|165=>56|143=>131|166=>57|197=>125|169=>59|195=>241|218=>242|240=>123|241=>124|219=>182|260=>179|276=>177|277=>178|217=>55|225=>88|224=>87|267=>222|266=>122|314=>240|n=>n,fun|9=>9|3=>3|4=>4|72=>129|0=>0|76=>117|105=>206|21=>21|5=>5|70=>127|20=>20|37=>89|75=>31|127=>205|164=>193|46=>163|119=>236|139=>295|138=>294|146=>341|51=>284|80=>133|n=>n,fun|1=>2|3=>6|4=>7|n=>n⟩
theorem Tryz.lays155:Go.Proofs.Lays.n155 prog lays155_ren:={
 mixed:=by kernel_rfl
 f138:=func223.trans (congrArg some be)
 f143:=func131.trans (congrArg some be)
 f154:=func184.trans (congrArg some be)
 f155:=func136.trans (congrArg some be)
 f165:=func56.trans (congrArg some be)
 f166:=func57.trans (congrArg some be)
 f169:=func59.trans (congrArg some be)
 f195:=func241.trans (congrArg some be)
 f197:=func125.trans (congrArg some be)
 f217:=func55.trans (congrArg some be)
 f218:=func242.trans (congrArg some be)
 f219:=func182.trans (congrArg some be)
 f224:=func87.trans (congrArg some be)
 f225:=func88.trans (congrArg some be)
 f240:=func123.trans (congrArg some be)
 f241:=func124.trans (congrArg some be)
 f260:=func179.trans (congrArg some be)
 f266:=func122.trans (congrArg some be)
 f267:=func222.trans (congrArg some be)
 f276:=func177.trans (congrArg some be)
 f277:=func178.trans (congrArg some be)
 f314:=func240.trans (congrArg some be)
 t0:=underlying0
 a0:=isAgg0
 z0:=sizeOf0
 v0:=zeroValue0
 t3:=underlying3
 a3:=isAgg3
 z3:=sizeOf3
 v3:=zeroValue3
 t4:=underlying4
 a4:=isAgg4
 z4:=sizeOf4
 v4:=zeroValue4
 t5:=underlying5
 a5:=isAgg5
 z5:=sizeOf5
 v5:=zeroValue5
 t9:=underlying9
 a9:=isAgg9
 z9:=sizeOf9
 v9:=zeroValue9
 t20:=underlying20
 a20:=isAgg20
 z20:=sizeOf20
 v20:=zeroValue20
 t21:=underlying21
 a21:=isAgg21
 z21:=sizeOf21
 v21:=zeroValue21
 t37:=underlying89
 a37:=isAgg89
 z37:=sizeOf89
 v37:=zeroValue89
 t46:=underlying163
 a46:=isAgg163
 z46:=sizeOf163
 v46:=zeroValue163
 t51:=underlying284
 a51:=isAgg284
 z51:=sizeOf284
 v51:=zeroValue284
 t70:=underlying127
 a70:=isAgg127
 z70:=sizeOf127
 v70:=zeroValue127
 t72:=underlying129
 a72:=isAgg129
 z72:=sizeOf129
 v72:=zeroValue129
 t75:=underlying31
 a75:=isAgg31
 z75:=sizeOf31
 v75:=zeroValue31
 t76:=underlying117
 a76:=isAgg117
 z76:=sizeOf117
 v76:=zeroValue117
 t105:=underlying206
 a105:=isAgg206
 z105:=sizeOf206
 v105:=zeroValue206
 t119:=underlying236
 a119:=isAgg236
 z119:=sizeOf236
 t127:=underlying205
 a127:=isAgg205
 z127:=sizeOf205
 v127:=zeroValue205
 t138:=underlying294
 a138:=isAgg294
 z138:=sizeOf294
 v138:=zeroValue294
 t139:=underlying295
 a139:=isAgg295
 z139:=sizeOf295
 v139:=zeroValue295
 t146:=underlying341
 a146:=isAgg341
 z146:=sizeOf341
 v146:=zeroValue341
 t164:=underlying193
 a164:=isAgg193
 z164:=sizeOf193
 v164:=zeroValue193
 g1:=by kernel_rfl
 g3:=by kernel_rfl
 g4:=by kernel_rfl}
theorem Tryz.Builder_Extra_155:Builder.Extra prog lays155_ren:={
 sizeBuilder:=by kernel_rfl
 liesBuilder:=by kernel_rfl
 t5:=underlying5
 a5:=isAgg5
 z5:=sizeOf5
 v5:=zeroValue5
 infoByte:=by kernel_rfl
 cellsByte:=by kernel_rfl
 sizeByte:=by kernel_rfl
 neB5:=by decide}
open Go.RowKit Go.Lib in
theorem Tryz.strings_ReplaceAll (s old new:ByteArray)(m:Int)(w:World)(hs:s.size<4294967281)(hm:w.cell? ⟨2,0,none⟩=some (.int .i64 m))(h1:1<=old.size)(hlen:s.size+Lib.countB s old*new.size<=140737488355328):
  Calls prog 136 #[.string s,.string old,.string new] w λe w'=>
   e= .returned (.string ⟨(Lib.replaceAll s.data.toList old.data.toList new.data.toList).toArray⟩)/\Below w.heap.size w w':=Any.strings_ReplaceAll lays155 Tryz.Builder_Extra_155 s old new m w hs hm h1 hlen
def Tryz.lays153_ren:Go.Shelf.Ren:=⟨fun|153=>24|152=>40|226=>41|227=>42|228=>43|137=>30|119=>86|224=>87|225=>88|217=>55|266=>122|n=>n,fun|9=>9|3=>3|4=>4|5=>5|21=>21|117=>112|116=>111|0=>0|46=>163|124=>164|n=>n,fun|n=>n⟩
theorem Tryz.lays153:Go.Proofs.Lays.n153 prog lays153_ren:={
 mixed:=by kernel_rfl
 f119:=func86.trans (congrArg some be)
 f137:=func30.trans (congrArg some be)
 f152:=func40.trans (congrArg some be)
 f153:=func24.trans (congrArg some be)
 f217:=func55.trans (congrArg some be)
 f224:=func87.trans (congrArg some be)
 f225:=func88.trans (congrArg some be)
 f226:=func41.trans (congrArg some be)
 f227:=func42.trans (congrArg some be)
 f228:=func43.trans (congrArg some be)
 f266:=func122.trans (congrArg some be)
 t0:=underlying0
 a0:=isAgg0
 z0:=sizeOf0
 v0:=zeroValue0
 t3:=underlying3
 a3:=isAgg3
 z3:=sizeOf3
 v3:=zeroValue3
 t4:=underlying4
 a4:=isAgg4
 z4:=sizeOf4
 v4:=zeroValue4
 t5:=underlying5
 a5:=isAgg5
 z5:=sizeOf5
 v5:=zeroValue5
 t9:=underlying9
 a9:=isAgg9
 z9:=sizeOf9
 v9:=zeroValue9
 t21:=underlying21
 a21:=isAgg21
 z21:=sizeOf21
 v21:=zeroValue21
 t46:=underlying163
 a46:=isAgg163
 z46:=sizeOf163
 v46:=zeroValue163
 t116:=underlying111
 a116:=isAgg111
 z116:=sizeOf111
 t117:=underlying112
 a117:=isAgg112
 z117:=sizeOf112
 v117:=zeroValue112
 t124:=underlying164
 a124:=isAgg164
 z124:=sizeOf164
 v124:=zeroValue164}
open Go.RowKit Go.Lib in
theorem Tryz.strings_IndexAny_long (hv116:∀w,(zeroValue 111).run prog w= .ok (.agg (Array.replicate 256 (.bool false))) w)(s chars:ByteArray)(w:World)(h2:2<=chars.size)(h8:8<s.size)(hs:s.size<4294967281)(hcs:chars.size<4294967281)(hascii:∀(j:Nat) b,chars.data.toList[j]? =some b->b.toNat<128):
  Calls prog 24 #[.string s,.string chars] w λe w'=>e= .returned (.int .i64 (Lib.indexAny s.data.toList chars.data.toList))/\w'=((w.alloc (.cells (Lib.setCells chars.data.toList) 111)).alloc (.cells (Lib.setCells chars.data.toList) 111)):=Any.strings_IndexAny_long lays153 hv116 be s chars w h2 h8 hs hcs hascii
def Tryz.lays230_ren:Go.Shelf.Ren:=⟨fun|230=>60|197=>125|118=>126|165=>56|166=>57|168=>127|270=>128|167=>58|169=>59|260=>179|240=>123|241=>124|242=>180|276=>177|277=>178|278=>219|n=>n,fun|107=>135|9=>9|72=>129|0=>0|4=>4|3=>3|21=>21|105=>206|76=>117|5=>5|75=>31|70=>127|20=>20|37=>89|127=>205|119=>236|46=>163|139=>295|138=>294|164=>193|51=>284|80=>133|n=>n,fun|3=>6|4=>7|n=>n⟩
theorem Tryz.lays230:Go.Proofs.Lays.n230 prog lays230_ren:={
 mixed:=by kernel_rfl
 f118:=func126.trans (congrArg some be)
 f165:=func56.trans (congrArg some be)
 f166:=func57.trans (congrArg some be)
 f167:=func58.trans (congrArg some be)
 f168:=func127.trans (congrArg some be)
 f169:=func59.trans (congrArg some be)
 f197:=func125.trans (congrArg some be)
 f230:=func60.trans (congrArg some be)
 f240:=func123.trans (congrArg some be)
 f241:=func124.trans (congrArg some be)
 f242:=func180.trans (congrArg some be)
 f260:=func179.trans (congrArg some be)
 f270:=func128.trans (congrArg some be)
 f276:=func177.trans (congrArg some be)
 f277:=func178.trans (congrArg some be)
 f278:=func219.trans (congrArg some be)
 t0:=underlying0
 a0:=isAgg0
 z0:=sizeOf0
 v0:=zeroValue0
 t3:=underlying3
 a3:=isAgg3
 z3:=sizeOf3
 v3:=zeroValue3
 t4:=underlying4
 a4:=isAgg4
 z4:=sizeOf4
 v4:=zeroValue4
 t5:=underlying5
 a5:=isAgg5
 z5:=sizeOf5
 v5:=zeroValue5
 t9:=underlying9
 a9:=isAgg9
 z9:=sizeOf9
 v9:=zeroValue9
 t20:=underlying20
 a20:=isAgg20
 z20:=sizeOf20
 v20:=zeroValue20
 t21:=underlying21
 a21:=isAgg21
 z21:=sizeOf21
 v21:=zeroValue21
 t37:=underlying89
 a37:=isAgg89
 z37:=sizeOf89
 v37:=zeroValue89
 t46:=underlying163
 a46:=isAgg163
 z46:=sizeOf163
 v46:=zeroValue163
 t51:=underlying284
 a51:=isAgg284
 z51:=sizeOf284
 v51:=zeroValue284
 t70:=underlying127
 a70:=isAgg127
 z70:=sizeOf127
 v70:=zeroValue127
 t72:=underlying129
 a72:=isAgg129
 z72:=sizeOf129
 v72:=zeroValue129
 t75:=underlying31
 a75:=isAgg31
 z75:=sizeOf31
 v75:=zeroValue31
 t76:=underlying117
 a76:=isAgg117
 z76:=sizeOf117
 v76:=zeroValue117
 t105:=underlying206
 a105:=isAgg206
 z105:=sizeOf206
 v105:=zeroValue206
 t107:=underlying135
 a107:=isAgg135
 z107:=sizeOf135
 v107:=zeroValue135
 t119:=underlying236
 a119:=isAgg236
 z119:=sizeOf236
 t127:=underlying205
 a127:=isAgg205
 z127:=sizeOf205
 v127:=zeroValue205
 t138:=underlying294
 a138:=isAgg294
 z138:=sizeOf294
 v138:=zeroValue294
 t139:=underlying295
 a139:=isAgg295
 z139:=sizeOf295
 v139:=zeroValue295
 t164:=underlying193
 a164:=isAgg193
 z164:=sizeOf193
 v164:=zeroValue193
 g3:=by kernel_rfl
 g4:=by kernel_rfl}
theorem Tryz.Builder_Extra_230:Builder.Extra prog lays230_ren:={
 sizeBuilder:=by kernel_rfl
 liesBuilder:=by kernel_rfl
 t5:=underlying5
 a5:=isAgg5
 z5:=sizeOf5
 v5:=zeroValue5
 infoByte:=by kernel_rfl
 cellsByte:=by kernel_rfl
 sizeByte:=by kernel_rfl
 neB5:=by decide}
open Go.RowKit Go.Lib in
theorem Tryz.strings_Map_grows (g:Nat)(lb:Array Value)(eg:∀args w,(callFunc g args).run prog w= .ok (.enter g args) w)(f:Int->Int)(s:ByteArray)(w:World)(hs:s.size<35184372088832)(hf:MapGrows prog g lb f w)(hnn:∀x:Nat,x<=1114111-> -2147483648<=f x/\f x<=2147483647)(hT:Lib.Utf8Tabs 6 7 w):
  Calls prog 60 #[.func (.func g) #[] lb,.string s] w λe w'=>e= .returned (.string ⟨(Lib.mapD f s.data.toList).toArray⟩)/\Below w.heap.size w w':=Any.strings_Map_grows lays230 Tryz.Builder_Extra_230 g lb eg f s w hs hf hnn hT
end Go.Proofs
namespace Go.Proofs.YtnbaflecdkgihaaGreatDoor
open Go Go.RowKit
open Tryz
set_option maxRecDepth 20000
set_option maxHeartbeats 4000000
section
attribute [local irreducible] bG au aa az aR ab ad
attribute [local irreducible] aS
theorem uI {G:Glo}(s:List UInt8)(hs:s.length<=140737488355328)(ha:∀j,j<s.length->aa s j<128):ak prog G 31 [.str s] (.str (Lib.toLowerA s)):=by
 refine bK rfl call31 ?_;intro R args hr w _ _;obtain⟨x,t,e,hx,rfl⟩:=hr
 have hx:=aD.1 hx
 subst hx
 obtain rfl:args=#[.string ⟨s.toArray⟩]:=by cases args;simp_all
 have:=strings_ToLower_ascii ⟨s.toArray⟩ w (by rw[bH];exact hs) (λj b hb=>by
  have hb':s[j]? =some b:=by simpa using hb
  have hj:=(List.getElem?_eq_some_iff.1 hb').1
  have h2:=ha j hj
  unfold aa at h2
  simpa[List.getD,hb'] using h2)
 simp only[AVal.conc]
 simpa using this
def kn:List UInt8:=[65,66,67,68,69,70,71,72,73,74,75,76,77,78,79,80,81,82,83,84,85,86,87,88,89,90]
def abcL:List UInt8:=[97,98,99,100,101,102,103,104,105,106,107,108,109,110,111,112,113,114,115,116,117,118,119,120,121,122]
def P9:List UInt8:=[48,49,50,51,52,53,54,55,56,57,45]
theorem lT {G:Glo}:ak prog G 31 [.str kn] (.str abcL):=by
 have h:=uI (G:=G) kn b_ (by decide+kernel);have e:Lib.toLowerA kn=abcL:=by decide
 rwa [e] at h
theorem na {p:Int->Bool}(h:∀c:Fin 256,p (c.1:Int)=true){c:Int}(h0:0<=c)(h1:c<=255):p c=true:=by
 have:=h ⟨c.toNat,a_⟩;simpa only[Int.toNat_of_nonneg h0] using this
theorem xW {c:Int}(h0:0<=c)(h1:c<=255):decide (aS ((kn++abcL)++P9) c<0)= !aU c:=by
 have:=na (p:=λc=>decide (aS ((kn++abcL)++P9) c<0)== !aU c) (by decide+kernel) h0 h1;simpa using this
theorem th {G:Glo}(s:List UInt8)(hl:s.length<=9223372036854775807):ak prog G 66 [.str s] (.bool (isS s)):=by
 refine ax func66 call66 λC hC hGL=> ?_;have hT:=lT (G:=G);have hI:=λc h0 h1=>aL (G:=G) ((kn++abcL)++P9) c h0 h1;have hW:=fF (G:=G) (s.length:Int) 1 40;repeat' (first|(conv=>whnf);first|refine .w ?_|refine .v ?_|refine eh ?_ ?_<;>(intro hb;try exact dd hb)|apply aT|apply bM|(apply cR<;>intro hb)|(apply cX;intro hbd)|(apply cY;intro bl)|(apply dv;intro va vk vc hva)|(apply du;intro v)|(apply dw;intro bl cap hcap)|apply dI|(apply dq<;>intro hnx)|apply d8 mixed hC hGL be|(show Rt _ _ _;exact cP)|fail)
 all_goals try conv=>whnf
 refine lp hC hGL (λ(i:Nat)=>[(0,.str s),(6,.own 0 (.slice (some ⟨bl,0,none⟩) s.length cap)),(7,.int .i64 s.length),(8,.int .i64 i)]) (λ_=>[.buf bl s cap]) (λi=>i<=s.length/\∀j,j<i->aU (aa s j)=true) (λi=>s.length-i) 0 ?_ ah rfl ?_
 ·exact⟨Nat.zero_le _,by intro j hj;omega⟩
 rintro i ⟨hi,hb0⟩;repeat' (first|(conv=>whnf);first|refine .w ?_|refine .v ?_|refine eh ?_ ?_<;>(intro hb;try exact dd hb)|apply aT|apply bM|(apply cR<;>intro hb)|(apply cX;intro hbd)|(apply bD;first|exact hT|exact hW|(exact hI _ a_ a_))|(apply aV (i:=0) rfl;first|exact hT|exact hW|(exact hI _ a_ a_))|(apply cY;intro bl)|(apply dv;intro va vk vc hva)|(apply du;intro v)|(apply dw;intro bl cap hcap)|apply dI|(apply dq<;>intro hnx)|apply d8 mixed hC hGL be|(apply cq;assumption;(first|exact hT|exact hW|(exact hI _ a_ a_));exact rfl)|(show Rt _ _ _;exact cP)|fail)
 all_goals try conv=>whnf
 ·apply aj;have hx:=xW (c:=(aa s i:Int)) a_ a_;rw[decide_eq_true hb] at hx;rw[isS,IV (j:=i) a_ (by simpa using hx.symm)];rfl
 ·have hx:=xW (c:=(aa s i:Int)) a_ a_;rw[decide_eq_false a_] at hx;refine cQ (i+1) ?_ ?_ ah rfl
  ·exact⟨a_,dj hb0 (by simpa using hx.symm)⟩
  ·omega
 ·apply aj;refine congrArg AVal.bool ?_;have ha:CZ aU s=true:=ub.2 λj hj=>hb0 j a_;simp only[isS,ha,YT];rw[w_];simp only[l_,n_];omega
theorem Pu {c:Int}(h0:0<=c)(h1:c<=255):(if 0<=aS abcL c then aS abcL c<26/\(aa kn (aS abcL c).toNat:Int)=eb 97 122 (-32) c.toNat else eb 97 122 (-32) c.toNat=c):=by
 have:=na (p:=λc=>decide (if 0<=aS abcL c then aS abcL c<26/\(aa kn (aS abcL c).toNat:Int)=eb 97 122 (-32) c.toNat else eb 97 122 (-32) c.toNat=c)) (by decide+kernel) h0 h1;simpa using this
theorem J5 {c:Int}(h0:0<=c)(h1:c<=255):(if 0<=aS kn c then aS kn c<26/\(aa abcL (aS kn c).toNat:Int)=eb 65 90 32 c.toNat else eb 65 90 32 c.toNat=c):=by
 have:=na (p:=λc=>decide (if 0<=aS kn c then aS kn c<26/\(aa abcL (aS kn c).toNat:Int)=eb 65 90 32 c.toNat else eb 65 90 32 c.toNat=c)) (by decide+kernel) h0 h1;simpa using this
theorem LA {G:Glo}(s:List UInt8)(hl:s.length<=9223372036854775807):ak prog G 144 [.str s] (.str (am 97 122 (-32) s)):=by
 refine ax func144 call144 λC hC hGL=> ?_;have hT:=lT (G:=G);have hcT:=call31;have hcI:=call30;have hI:=λc h0 h1=>aL (G:=G) abcL c h0 h1;have eU:kn.length=26:=rfl;repeat' (first|(conv=>whnf);first|refine .w ?_|refine .v ?_|refine eh ?_ ?_<;>(intro hb;try exact dd hb)|apply aT|apply bM|(apply cR<;>intro hb)|(apply cX;intro hbd)|(apply cY;intro bl)|(apply dv;intro va vk vc hva)|(apply du;intro v)|(apply dw;intro bl cap hcap)|apply dI|(apply dq<;>intro hnx)|apply d8 mixed hC hGL be|(show Rt _ _ _;exact cP)|fail)
 all_goals try conv=>whnf
 refine lp hC hGL (λ(x:Nat×List UInt8)=>[(3,.own 0 (.slice (some ⟨bl,0,none⟩) s.length cap)),(9,.int .i64 s.length),(10,.int .i64 x.1)]) (λx=>[.buf bl x.2 cap]) (mz 97 122 (-32) s) (λx=>s.length-x.1) (0,s) ?_ ah rfl ?_
 ·exact vZ
 rintro⟨i,t⟩ hI0;have hi:=hI0.1;have ht:=hI0.2.1;dsimp only at hi ht ⊢;repeat' (first|(conv=>whnf);first|refine .w ?_|refine .v ?_|refine eh ?_ ?_<;>(intro hb;try exact dd hb)|apply aT|apply bM|(apply cR<;>intro hb)|(apply cX;intro hbd)|(apply bD;first|exact hT|(exact hI _ a_ a_))|(apply aV (i:=0) rfl;first|exact hT|(exact hI _ a_ a_))|(apply cY;intro bl)|(apply dv;intro va vk vc hva)|(apply du;intro v)|(apply dw;intro bl cap hcap)|apply dI|(apply dq<;>intro hnx)|apply d8 mixed hC hGL be|(apply cq;assumption;(first|exact hT|(exact hI _ a_ a_));exact rfl)|(show Rt _ _ _;exact cP)|fail)
 all_goals try conv=>whnf
 ·have e:=lc hI0 a_;have hx:=Pu (c:=(aa s i:Int)) a_ a_;rw[if_pos (by rw[<-e];exact hb),<-e] at hx;refine aK ?_;intros;refine cQ (i+1,t.set i (UInt8.ofNat ((aa kn (aS abcL (aa t i)).toNat:Nat):Int).toNat)) ?_ ?_ ah rfl
  ·refine qI hI0 a_ ?_ a_ (by have:=bu kn (aS abcL (aa t i)).toNat;omega);rw[hx.2,e];simp only[B_]
  ·dsimp only;omega
 ·have e:=lc hI0 a_;have hx:=Pu (c:=(aa s i:Int)) a_ a_;rw[if_neg (by rw[<-e];omega)] at hx;refine cQ (i+1,t) ?_ ?_ ah rfl
  ·exact oj hI0 a_ (by simpa using hx)
  ·dsimp only;omega
 ·apply aj;rw[qJ b_ b_ hI0 a_]
theorem pJ {G:Glo}(s:List UInt8)(hl:s.length<=9223372036854775807):ak prog G 21 [.str s] (.str (am 65 90 32 s)):=by
 refine ax func21 call21 λC hC hGL=> ?_;have hT:=lT (G:=G);have hI:=λc h0 h1=>aL (G:=G) kn c h0 h1;have eL:abcL.length=26:=rfl;repeat' (first|(conv=>whnf);first|refine .w ?_|refine .v ?_|refine eh ?_ ?_<;>(intro hb;try exact dd hb)|apply aT|apply bM|(apply cR<;>intro hb)|(apply cX;intro hbd)|(apply cY;intro bl)|(apply dv;intro va vk vc hva)|(apply du;intro v)|(apply dw;intro bl cap hcap)|apply dI|(apply dq<;>intro hnx)|apply d8 mixed hC hGL be|(show Rt _ _ _;exact cP)|fail)
 all_goals try conv=>whnf
 refine lp hC hGL (λ(x:Nat×List UInt8)=>[(3,.own 0 (.slice (some ⟨bl,0,none⟩) s.length cap)),(9,.int .i64 s.length),(10,.int .i64 x.1)]) (λx=>[.buf bl x.2 cap]) (mz 65 90 32 s) (λx=>s.length-x.1) (0,s) ?_ ah rfl ?_
 ·exact vZ
 rintro⟨i,t⟩ hI0;have hi:=hI0.1;have ht:=hI0.2.1;dsimp only at hi ht ⊢;repeat' (first|(conv=>whnf);first|refine .w ?_|refine .v ?_|refine eh ?_ ?_<;>(intro hb;try exact dd hb)|apply aT|apply bM|(apply cR<;>intro hb)|(apply cX;intro hbd)|(apply bD;first|exact hT|(exact hI _ a_ a_))|(apply aV (i:=0) rfl;first|exact hT|(exact hI _ a_ a_))|(apply cY;intro bl)|(apply dv;intro va vk vc hva)|(apply du;intro v)|(apply dw;intro bl cap hcap)|apply dI|(apply dq<;>intro hnx)|apply d8 mixed hC hGL be|(apply cq;assumption;(first|exact hT|(exact hI _ a_ a_));exact rfl)|(show Rt _ _ _;exact cP)|fail)
 all_goals try conv=>whnf
 ·have e:=lc hI0 a_;have hx:=J5 (c:=(aa s i:Int)) a_ a_;rw[if_pos (by rw[<-e];exact hb),<-e] at hx;refine aK ?_;intros;refine cQ (i+1,t.set i (UInt8.ofNat ((aa abcL (aS kn (aa t i)).toNat:Nat):Int).toNat)) ?_ ?_ ah rfl
  ·refine qI hI0 a_ ?_ a_ (by have:=bu abcL (aS kn (aa t i)).toNat;omega);rw[hx.2,e];simp only[B_]
  ·dsimp only;omega
 ·have e:=lc hI0 a_;have hx:=J5 (c:=(aa s i:Int)) a_ a_;rw[if_neg (by rw[<-e];omega)] at hx;refine cQ (i+1,t) ?_ ?_ ah rfl
  ·exact oj hI0 a_ (by simpa using hx)
  ·dsimp only;omega
 ·apply aj;rw[qJ b_ b_ hI0 a_]
end
section
open Go Go.Extern
attribute [local irreducible] bG au aa az aR ab ad
noncomputable def jV (t:TypeId):Value:=typeHandle prog t
theorem uQ (t:Addr)(w:World):(ReflectliteValue.unpack (.iface 126 (.pointer (some t)))).run prog w
  = .ok (.agg #[jV 126,.pointer (some ⟨w.heap.size,0,none⟩),.int .u64 150]) (w.alloc (.cells #[.pointer (some t)] 126)):=by kernel_rfl
theorem rI (e:Int)(w:World):(ReflectliteValue.unpack (.iface 25 (.int .i64 e))).run prog w
  = .ok (.agg #[jV 25,.pointer (some ⟨w.heap.size,0,none⟩),.int .u64 130]) (w.alloc (.cells #[.int .i64 e] 25)):=by kernel_rfl
theorem kX {R:Seal}{a:AVal}{args:Array Value}(h:dO R [a] args.toList):∃v,args=#[v]/\bx R a v:=by
 obtain⟨x,t,e,hx,rfl⟩:=h;exact⟨x,by cases args;simp_all,hx⟩
theorem rq {R:Seal}{a b:AVal}{args:Array Value}(h:dO R [a,b] args.toList):∃v u,args=#[v,u]/\bx R a v/\bx R b u:=by
 obtain⟨x,t,e,hx,y,t',e',hy,rfl⟩:=h;exact⟨x,y,by cases args;simp_all,hx,hy⟩
theorem mV {R:Seal}{t:TypeId}{a:AVal}{v:Value}(h:bx R (.iface t a) v):∃u,v= .iface t u/\bx R a u:=by
 obtain⟨u,e,h1,h2⟩:=bE h rfl;simp only[o_,and_true] at e;exact⟨u,e,h1,h2⟩
theorem Dj {G:Glo}(bl:Nat):ak prog G 118 [.iface 126 (.raw (.pointer (some ⟨bl,0,none⟩)))]
  (.agg [.raw (jV 126),.rop [.raw (.pointer (some ⟨bl,0,none⟩))] 0,.int .u64 150]):=by
 refine n5 func118 be be be (e:=λargs=>ReflectliteValue.unpack (args.getD 0 (.tuple #[]))) be ?_;intro R args w ha;obtain⟨v,rfl,hv⟩:=kX ha;obtain⟨u,rfl,hu⟩:=mV hv;obtain rfl:=ar.1 hu;refine⟨_,_,_,uQ _ w,λR' _ hR=>⟨⟨_,_,rfl,rfl,_,_,rfl,?_,_,_,rfl,rfl,rfl⟩,rfl⟩⟩;exact(gS (R:=R') (cs:=[.raw (.pointer (some ⟨bl,0,none⟩))]) (off:=0) (Nat.le_refl _) ⟨_,_,_,hR,⟨_,_,rfl,rfl,rfl⟩⟩).1
theorem qi {G:Glo}(e:Int):ak prog G 118 [.iface 25 (.int .i64 e)]
  (.agg [.raw (jV 25),.rop [.int .i64 e] 0,.int .u64 130]):=by
 refine n5 func118 be be be (e:=λargs=>ReflectliteValue.unpack (args.getD 0 (.tuple #[]))) be ?_;intro R args w ha;obtain⟨v,rfl,hv⟩:=kX ha;obtain⟨u,rfl,hu⟩:=mV hv;obtain rfl:=aq.1 hu;refine⟨_,_,_,rI _ w,λR' _ hR=>⟨⟨_,_,rfl,rfl,_,_,rfl,?_,_,_,rfl,rfl,rfl⟩,rfl⟩⟩;exact(gS (R:=R') (cs:=[.int .i64 e]) (off:=0) (Nat.le_refl _) ⟨_,_,_,hR,⟨_,_,rfl,rfl,rfl⟩⟩).1
noncomputable abbrev rty (t:TypeId):AVal:=.iface 240 (.agg [.raw (jV t)])
theorem rN {R:Seal}(t:TypeId):bx R (rty t) (.iface 240 (.agg #[jV t])):=⟨⟨_,rfl,⟨_,_,rfl,rfl,rfl⟩,rfl⟩,rfl⟩
theorem jo {R:Seal}{x:Value}{v:Value}(hx:dc x=false)(h:bx R (.agg [.raw x]) v):v= .agg #[x]:=by
 obtain⟨h1,h2⟩:=h;cases v<;>simp only[AVal.isAgg,dc,Bool.true_eq_false] at h2
 rename_i cs;obtain⟨a,t,e,ha,rfl⟩:=h1;simp only[Value.cells] at e;have ha:[a]=x.cells.toList:=ha;have:x.cells.toList=[x]:=by cases x<;>first|rfl|(simp[dc] at hx)
 rw[this] at ha;simp only[o_,and_true] at ha;subst ha;have:cs=#[a]:=by cases cs;simp_all
 rw[this]
theorem BJ {R:Seal}{t:TypeId}{v:Value}(h:bx R (rty t) v):v= .iface 240 (.agg #[jV t]):=by
 obtain⟨u,rfl,hu⟩:=mV h;rw[jo rfl hu]
theorem sL {R:Seal}{x:Value}{k:IntKind}{n:Int}{c:AVal}{v:Value}(hx:dc x=false)(h:bx R (.agg [.raw x,.rop [c] 0,.int k n]) v):
  ∃b o,v= .agg #[x,.pointer (some ⟨b,o,none⟩),.int k n]/\dK R b o [c]:=by
 obtain⟨h1,h2⟩:=h;cases v<;>simp only[AVal.isAgg,dc,Bool.true_eq_false] at h2
 rename_i cs;obtain⟨a,t,e,ha,a',t',e',ha',a'',t'',e'',ha'',rfl⟩:=h1;simp only[Value.cells] at e;have ha:[a]=x.cells.toList:=ha;have hxl:x.cells.toList=[x]:=by cases x<;>first|rfl|(simp[dc] at hx)
 rw[hxl] at ha;simp only[o_,and_true] at ha;subst ha;have ha'':[a'']=[Value.int k n]:=ha'';simp only[o_,and_true] at ha'';subst ha'';obtain⟨b,o,e2,ho,hs⟩:=ic (cT ha' rfl);subst e2;refine⟨b,o,?_,by simpa using hs⟩;have:cs=#[a,.pointer (some ⟨b,o,none⟩),.int k n]:=by cases cs;simp_all
 rw[this]
theorem rp {G:Glo}(e:Int):ak prog G 174 [.iface 25 (.int .i64 e)] (rty 25):=by
 refine dU func174 be be be (e:=ReflectliteType.typeOf) be ?_;intro R args ha w;obtain⟨v,rfl,hv⟩:=kX ha;obtain⟨u,rfl,hu⟩:=mV hv;exact⟨.iface 240 (.agg #[jV 25]),be,rN _⟩
theorem K2 {G:Glo}(a:AVal):ak prog G 174 [.iface 74 a] (rty 74):=by
 refine dU func174 be be be (e:=ReflectliteType.typeOf) be ?_;intro R args ha w;obtain⟨v,rfl,hv⟩:=kX ha;obtain⟨u,rfl,hu⟩:=mV hv;exact⟨.iface 240 (.agg #[jV 74]),be,rN _⟩
theorem Nw {G:Glo}(c:AVal):ak prog G 119 [.agg [.raw (jV 126),.rop [c] 0,.int .u64 150]] (rty 126):=by
 refine dU func119 be be be
  (e:=ReflectliteValue.methodAny (ReflectliteValue.valueError "reflectlite.Value.Type" 0) fun t _ _ _=>ReflectliteType.toType t) be ?_
 intro R args ha w
 obtain⟨v,rfl,hv⟩:=kX ha
 obtain⟨b,o,rfl,_⟩:=sL rfl hv
 exact⟨.iface 240 (.agg #[jV 126]),be,rN _⟩
theorem Gh {G:Glo}(t:TypeId)(k:Int)(h:∀w,(((ReflectliteType.abiMethod λt=>do pure (.int .u8 (<-Rtype.kind t))) #[jV t]).run prog w)= .ok (.int .u8 k) w):ak prog G 303 [.raw (jV t)] (.int .u8 k):=by
 refine dU func303 be be be
  (e:=ReflectliteType.abiMethod λt=>do pure (.int .u8 (<-Rtype.kind t))) be ?_
 intro R args ha w;obtain⟨v,rfl,hv⟩:=kX ha;obtain rfl:=ar.1 hv;exact⟨.int .u8 k,h w,aq.2 rfl⟩
theorem Po {G:Glo}:ak prog G 303 [.raw (jV 126)] (.int .u8 22):=Gh _ _ (λw=>by kernel_rfl)
theorem HP {G:Glo}:ak prog G 303 [.raw (jV 25)] (.int .u8 2):=Gh _ _ (λw=>by kernel_rfl)
theorem P5 {G:Glo}:ak prog G 315 [.agg [.raw (jV 126)]] (rty 25):=by
 refine dU func315 be be be (e:=ReflectliteType.method ReflectliteType.elem) be ?_;intro R args ha w;obtain⟨v,rfl,hv⟩:=kX ha;obtain rfl:=jo rfl hv;exact⟨.iface 240 (.agg #[jV 25]),be,rN _⟩
theorem tG {G:Glo}:ak prog G 316 [.agg [.raw (jV 25)],rty 31] (.bool true):=by
 refine dU func316 be be be (e:=ReflectliteType.relation "Implements" ReflectliteType.implements_) be ?_
 intro R args ha w
 obtain⟨v,u,rfl,hv,hu⟩:=rq ha
 obtain rfl:=jo rfl hv
 obtain rfl:=BJ hu
 exact⟨.bool true,be,aO.2 rfl⟩
theorem m8 {G:Glo}:ak prog G 313 [.agg [.raw (jV 25)],rty 25] (.bool true):=by
 refine dU func313 be be be (e:=ReflectliteType.relation "AssignableTo" ReflectliteType.assignableTo) be ?_
 intro R args ha w
 obtain⟨v,u,rfl,hv,hu⟩:=rq ha
 obtain rfl:=jo rfl hv
 obtain rfl:=BJ hu
 exact⟨.bool true,be,aO.2 rfl⟩
theorem zD {G:Glo}:ak prog G 313 [.agg [.raw (jV 74)],rty 25] (.bool false):=by
 refine dU func313 be be be (e:=ReflectliteType.relation "AssignableTo" ReflectliteType.assignableTo) be ?_
 intro R args ha w
 obtain⟨v,u,rfl,hv,hu⟩:=rq ha
 obtain rfl:=jo rfl hv
 obtain rfl:=BJ hu
 exact⟨.bool false,be,aO.2 rfl⟩
theorem rlm (z:Sem Value)(f:TypeId->Addr->Nat->Nat->Sem Value)(v:Value):
  ReflectliteValue.method z f #[v]=(do match <-ReflectliteValue.parts v with|none=>z|some (t,a,fl)=>f t a fl (fl%32)):=rfl
theorem Ae (a:Addr)(w:World):(ReflectliteValue.parts (.agg #[jV 126,.pointer (some a),.int .u64 150])).run prog w= .ok (some (126,a,150)) w:=by kernel_rfl
theorem LM (a:Addr)(w:World):(ReflectliteValue.parts (.agg #[jV 25,.pointer (some a),.int .u64 386])).run prog w= .ok (some (25,a,386)) w:=by kernel_rfl
theorem Es (a:Addr)(w:World):(ReflectliteValue.parts (.agg #[jV 25,.pointer (some a),.int .u64 130])).run prog w= .ok (some (25,a,130)) w:=by kernel_rfl
theorem Iq (w:World):(Rtype.elem? 126).run prog w= .ok (some 25) w:=by kernel_rfl
theorem Vx (p:Addr)(w:World):(ReflectliteValue.mk 25 p ReflectliteValue.flagAddr).run prog w= .ok (.agg #[jV 25,.pointer (some p),.int .u64 386]) w:=by kernel_rfl
theorem LX {G:Glo}(bl:Nat):ak prog G 120 [.agg [.raw (jV 126),.rop [.raw (.pointer (some ⟨bl,0,none⟩))] 0,.int .u64 150]] (.bool false):=by
 refine jW func120 be be be (e:=ReflectliteValue.method (ReflectliteValue.valueError "reflectlite.Value.IsNil" 0) ReflectliteValue.isNil) be ?_
 intro C R args w hm ha
 obtain⟨v,rfl,hv⟩:=kX ha
 obtain⟨b,o,rfl,hs⟩:=sL rfl hv
 obtain⟨u,hu,hr⟩:=hs.cell hm.sealed (i:=0) rfl
 rw[Nat.add_zero] at hu
 have hr:[u]=[Value.pointer (some ⟨bl,0,none⟩)]:=hr
 simp only[o_,and_true] at hr
 subst hr
 refine⟨.bool false,w,R,?_,Seal.le_refl R,aO.2 rfl,hm⟩
 rw[rlm]
 simp only[e_,Ae,Result.andThen]
 simp[ReflectliteValue.isNil,loadVar,isAgg,underlying,underlying126,hu,Result.andThen]
theorem AY {G:Glo}(bl:Nat):ak prog G 175 [.agg [.raw (jV 126),.rop [.raw (.pointer (some ⟨bl,0,none⟩))] 0,.int .u64 150]] (.agg [.raw (jV 25),.raw (.pointer (some ⟨bl,0,none⟩)),.int .u64 386]):=by
 refine jW func175 be be be (e:=ReflectliteValue.method (ReflectliteValue.valueError "reflectlite.Value.Elem" 0) ReflectliteValue.elem) be ?_
 intro C R args w hm ha
 obtain⟨v,rfl,hv⟩:=kX ha
 obtain⟨b,o,rfl,hs⟩:=sL rfl hv
 obtain⟨u,hu,hr⟩:=hs.cell hm.sealed (i:=0) rfl
 rw[Nat.add_zero] at hu
 have hr:[u]=[Value.pointer (some ⟨bl,0,none⟩)]:=hr
 simp only[o_,and_true] at hr
 subst hr
 refine⟨.agg #[jV 25,.pointer (some ⟨bl,0,none⟩),.int .u64 386],w,R,?_,Seal.le_refl R,⟨⟨_,_,rfl,rfl,_,_,rfl,rfl,_,_,rfl,rfl,rfl⟩,rfl⟩,hm⟩
 rw[rlm]
 simp only[e_,Ae,Result.andThen]
 simp[ReflectliteValue.elem,loadVar,isAgg,underlying,underlying126,hu,Result.andThen,Iq,Vx]
end
end Go.Proofs.YtnbaflecdkgihaaGreatDoor
