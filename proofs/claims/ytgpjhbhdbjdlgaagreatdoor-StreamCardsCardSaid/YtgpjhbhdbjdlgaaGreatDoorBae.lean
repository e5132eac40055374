/- Parts of the proof of streamCards_card. -/
import Derived.Laws.Externs
import Derived.Shelf.Strings.Builder1
import Derived.Shelf.Strings.Builder2
import Derived.Shelf.Strings.OnBuilder
import Derived.Shelf.Small.Utf8
import Derived.Shelf.Small.Strs
import Derived.Shelf.Strings.BuilderF
import Derived.Shelf.Strings.BuilderK
import Derived.Shelf.Strings.BuilderRune
import Derived.Shelf.Utf8.RuneCount
import Derived.Shelf.Strings.Builder2Cap
import Derived.Shelf.Strconv.Atoi
import Derived.Shelf.Strconv.Itoa0
import Derived.Shelf.Strconv.Itoa1
import Derived.Shelf.LaysM
import Derived.Shelf.Strconv.Itoa2
import Derived.Shelf.Strconv.Itoa3
import Derived.Shelf.Strconv.Itoa4
import Derived.Shelf.Strconv.AtoiErrFast
import Derived.Shelf.Strconv.ParseIntEmpty
import Derived.Shelf.Strconv.AtoiFail
import Derived.Shelf.Strconv.Clone
import Derived.Shelf.Strconv.SyntaxError
import Derived.Shelf.LaysC
import Derived.Shelf.Strconv.ToError
import Derived.Shelf.Strconv.AtoiErr
import Derived.Shelf.Strconv.Lower
import Derived.Shelf.Strconv.ParseUint10
import Derived.Shelf.Strconv.ParseUint10Empty
import Derived.Shelf.Strconv.ParseUint10Any
import Derived.Shelf.Strconv.ParseInt10
import Derived.Shelf.Strconv.AtoiLong
import Derived.Shelf.Strconv.AtoiInnerAll
import Derived.Shelf.Strconv.RangeError
import Derived.Shelf.Strconv.ToErrorRange
import Derived.Shelf.Strconv.AtoiAll
import Derived.Shelf.Strconv.ErrVarAll
import Derived.Shelf.Strconv.ParseUintEmpty
import Derived.Shelf.Strings.Search1
import Derived.Shelf.Strings.Search2
import Derived.Shelf.Strings.Search3
import Derived.Shelf.Strings.Cut
import Derived.Shelf.Strings.Count
import Derived.Shelf.Strings.Shaped
import Derived.Shelf.Strings.LastIndex
import Derived.Shelf.Strings.Prefix
import Derived.Shelf.Strings.Split
import Derived.Shelf.Strings.Fields
import Derived.Shelf.Strings.Replace
import Derived.Shelf.Strings.SplitShaped
import Derived.Shelf.Unicode.Latin
import Derived.Shelf.Unicode.Decode
import Derived.Shelf.Strings.Runes
import Derived.Shelf.Strings.RuneCount
import Derived.Shelf.Strings.IndexAny
import Derived.Shelf.Strings.AsciiSet
import Derived.Shelf.Strings.IndexAnyAll
import Derived.Shelf.Strings.Explode
import Derived.Shelf.Unicode.DecodeSlow
import Derived.Shelf.Unicode.DecodeAny
import Derived.Shelf.Unicode.Is16White
import Derived.Shelf.Unicode.IsSpaceAny
import Derived.Shelf.Unicode.CaseLookup
import Derived.Shelf.Unicode.CaseConvert
import Derived.Shelf.Unicode.CaseTo
import Derived.Shelf.Unicode.CaseLaid
import Derived.Shelf.Strings.MapAny
import Derived.Shelf.Strings.BuilderCap
import Derived.Shelf.Strings.MapGrows
import Derived.Test.YtgpjhbhdbjdlgaaGreatDoorBad
set_option linter.unusedVariables false
set_option linter.unusedSimpArgs false
set_option linter.unusedSectionVars false
namespace Go.Proofs.YtgpjhbhdbjdlgaaGreatDoor
open Go Go.RowKit
open Tryz
set_option maxRecDepth 20000
set_option maxHeartbeats 4000000
section
attribute [local irreducible] bJ au aa ax aR ab ad
theorem lY {s t:ω}(h:t.length=s.length)(hb:∀j,j<s.length->aa t j=aa s j):t=s:=by
 apply List.ext_getElem h;intro i h1 h2;have:=hb i h2;simp only[aa,List.getD,y_ h1,y_ h2,aam] at this
 exact UInt8.toNat_inj.1 this
def eo (low high by_:Int)(c:Nat):Int:=if low<=c/\(c:Int)<=high then c+by_ else c
def am (low high by_:Int)(s:ω):ω:=s.map λc=>UInt8.ofNat (eo low high by_ c.toNat).toNat
theorem GP {low high by_:Int}(h1:0<=low+by_)(h2:high+by_<=255){s:ω}{j:Nat}(h:j<s.length):(aa (am low high by_ s) j:Int)=eo low high by_ (aa s j):=by
 have e:(aa (am low high by_ s) j)=(UInt8.ofNat (eo low high by_ s[j].toNat).toNat).toNat:=by
  simp[aa,am,List.getD,h]
 have e2:aa s j=s[j].toNat:=by simp[aa,List.getD,h]
 rw[e,e2,UInt8.toNat_ofNat'];have:=UInt8.toNat_lt s[j];unfold eo;split<;>omega
def mS (low high by_:Int)(s:ω)(x:Nat×ω):Prop:=
 x.1<=s.length/\x.2.length=s.length/\∀j,j<s.length->(aa x.2 j:Int)=if j<x.1 then eo low high by_ (aa s j) else aa s j
theorem wL {low high by_:Int}{s:ω}:mS low high by_ s (0,s):=⟨Nat.zero_le _,rfl,λj _=>by rw[if_neg (by simp)]⟩
theorem lx {low high by_:Int}{s:ω}{i:Nat}{t:ω}(h:mS low high by_ s (i,t))(hi:i<s.length):aa t i=aa s i:=by
 have:=h.2.2 i hi;rw[if_neg (by simp)] at this;exact Int.ofNat.inj this
theorem qX {low high by_:Int}{s:ω}{i:Nat}{t:ω}(h:mS low high by_ s (i,t))(hi:i<s.length){m:Int}(hm:m=eo low high by_ (aa s i))(h0:0<=m)(h1:m<=255):
  mS low high by_ s (i+1,t.set i (UInt8.ofNat m.toNat)):=by
 obtain⟨h2,h3,h4⟩:=h;refine⟨hi,by simp only[F_];exact h3,λj hj=> ?_⟩;dsimp only at*
 rw[JB a_ a_ a_];by_cases e:j=i
 ·subst e;rw[if_pos rfl,if_pos a_,hm]
 ·rw[if_neg e,h4 j hj];by_cases e2:j<i
  ·rw[if_pos e2,if_pos a_]
  ·rw[if_neg e2,if_neg a_]
theorem oD {low high by_:Int}{s:ω}{i:Nat}{t:ω}(h:mS low high by_ s (i,t))(hi:i<s.length)(hm:eo low high by_ (aa s i)=aa s i):
  mS low high by_ s (i+1,t):=by
 refine⟨hi,h.2.1,λj hj=> ?_⟩;have:=h.2.2 j hj;dsimp only at*
 rw[this];by_cases e:j=i
 ·subst e;rw[if_neg a_,if_pos a_,hm]
 ·by_cases e2:j<i
  ·rw[if_pos e2,if_pos a_]
  ·rw[if_neg e2,if_neg a_]
theorem qY {low high by_:Int}(h1:0<=low+by_)(h2:high+by_<=255){s:ω}{i:Nat}{t:ω}(h:mS low high by_ s (i,t))(hi:s.length<=i):t=am low high by_ s:=by
 refine lY (by simp only[am,C_];exact h.2.1) (λj hj=> ?_);have hj':j<s.length:=by simpa[am] using hj
 have:=h.2.2 j hj';rw[if_pos (show j<i by omega),<-GP h1 h2 hj'] at this;exact Int.ofNat.inj this
theorem AY {G:Glo}(s:ω)(low high by_:Int)(h1:0<=low+by_)(h2:high+by_<=255)(h3:0<=low)(h4:high<=255)(h5: -300<=by_)(h6:by_<=300)(hl:s.length<=9223372036854775807):
  ai prog G 47 [.str s,.int .u8 low,.int .u8 high,.int .i64 by_] (.str (am low high by_ s)):=by
 refine aw func47 call47 λC hC hGL=> ?_;repeat' (first|(conv=>whnf);first|refine .w ?_|refine .v ?_|refine ez ?_ ?_<;>(intro hb;try exact dd hb)|apply aT|apply bP|(apply cR<;>intro hb)|(apply cX;intro hbd)|(apply cY;intro bl)|(apply dv;intro va vk vc hva)|(apply du;intro v)|(apply dw;intro bl cap hcap)|apply dP|(apply dq<;>intro hnx)|apply ef mixed hC hGL be|(show Rt _ _ _;exact cP)|fail)
 all_goals try conv=>whnf
 refine lp hC hGL (λ(x:Nat×ω)=>[(1,.int .u8 low),(2,.int .u8 high),(3,.int .i64 by_),(9,.own 0 (.slice (some ⟨bl,0,none⟩) s.length cap)),(14,.own 0 (.slice (some ⟨bl,0,none⟩) s.length cap)),(15,.int .i64 s.length),(16,.int .i64 x.1)]) (λx=>[.buf bl x.2 cap]) (mS low high by_ s) (λx=>s.length-x.1) (0,s) ?_ ae rfl ?_
 ·exact wL
 rintro⟨i,t⟩ hI;have hi:=hI.1;have ht:=hI.2.1;dsimp only at hi ht ⊢;refine xw ?_;repeat' first|exact .n|apply Lc.mk
 all_goals intros
 ·refine cQ (i+1,t.set i (UInt8.ofNat ((aa t i:Int)+by_).toNat)) ?_ ?_ ae rfl
  ·have e:=lx hI a_;refine qX hI a_ ?_ a_ a_;unfold eo;rw[if_pos a_];omega
  ·dsimp only;omega
 iterate 2
  ·refine cQ (i+1,t) ?_ ?_ ae rfl
   ·have e:=lx hI a_;refine oD hI a_ ?_;unfold eo;rw[if_neg a_]
   ·dsimp only;omega
 ·apply aj;rw[qY h1 h2 hI a_]
theorem jV {G:Glo}(s:ω)(hl:s.length<=9223372036854775807):ai prog G 28 [.str s] (.str (am 97 122 (-32) s)):=by
 refine aw func28 call28 λC hC hGL=> ?_;have ht:=AY (G:=G) s 97 122 (-32) b_ b_ b_ b_ b_ b_ hl;exact bq
theorem Ir {G:Glo}(s:ω)(hl:s.length<=9223372036854775807):ai prog G 99 [.str s] (.str (am 65 90 32 s)):=by
 refine aw func99 call99 λC hC hGL=> ?_;have ht:=AY (G:=G) s 65 90 32 b_ b_ b_ b_ b_ b_ hl;exact bq
theorem jW {G:Glo}(s t:ω)(hl:s.length<=9223372036854775807)(hm:t.length<=9223372036854775807):ai prog G 16 [.str s,.str t] (.bool (aW (am 97 122 (-32) s) (am 97 122 (-32) t))):=by
 refine aw func16 call16 λC hC hGL=> ?_;have h1:=jV (G:=G) s hl;have h2:=jV (G:=G) t hm;exact bq
def aU (c:Int):Bool:=decide ((97<=c/\c<=122)\/(65<=c/\c<=90)\/(48<=c/\c<=57)\/c=45)
theorem tZ {c:Int}:aU c=true↔((97<=c/\c<=122)\/(65<=c/\c<=90)\/(48<=c/\c<=57)\/c=45):=by simp[aU]
attribute [local irreducible] aU
theorem o5 {G:Glo}(c:Int):ai prog G 198 [.int .u8 c] (.bool (aU c)):=by
 refine aw func198 call198 λC hC hGL=> ?_;refine xw ?_;repeat' first|exact .n|apply Lc.mk
 all_goals intros
 all_goals (apply aj;refine congrArg AVal.bool ?_;rw[w_];simp only[tZ,fJ,true_iff];omega)
def DK (f:Int->Bool)(s:ω):Bool:=s.all λc=>f (c.toNat:Int)
theorem uA {f:Int->Bool}{s:ω}:DK f s=true↔∀j,j<s.length->f (aa s j)=true:=by
 unfold DK;rw[Bw];constructor
 ·intro h j hj;have:=h s[j] (K_ hj)
  simpa[aa,List.getD,hj] using this
 ·intro h c hc
  obtain⟨j,hj,rfl⟩:=D_ hc
  simpa[aa,List.getD,hj] using h j hj
theorem JN {f:Int->Bool}{s:ω}{j:Nat}(hj:j<s.length)(h:f (aa s j)=false):DK f s=false:=by
 rw[Bool.eq_false_iff];intro h2;rw[uA.1 h2 j hj] at h;cases h
theorem dj {p:Nat->Prop}{i:Nat}(h:∀j,j<i->p j)(k:p i):∀j,j<i+1->p j:=by
 intro j hj;by_cases e:j=i
 ·subst e;exact k
 ·exact h j a_
def isS (s:ω):Bool:=DK aU s&&(decide (s.length≠0)&&decide (s.length<=40))
theorem p8 {G:Glo}(s:ω)(hl:s.length<=9223372036854775807):ai prog G 152 [.str s] (.bool (isS s)):=by
 refine aw func152 call152 λC hC hGL=> ?_;refine aH ?_;intros;refine lp hC hGL (λ(i:Nat)=>[(0,.str s),(5,.int .i64 s.length),(6,.int .i64 i)]) (λ_=>[]) (λi=>i<=s.length/\∀j,j<i->aU (aa s j)=true) (λi=>s.length-i) 0 ?_ ae rfl ?_
 ·exact⟨Nat.zero_le _,by intro j hj;omega⟩
 rintro i ⟨hi,hb0⟩
 repeat' (first|(conv=>whnf);first|refine .w ?_|refine .v ?_|refine ez ?_ ?_<;>(intro hb;try exact dd hb)|apply aT|apply bP|(apply cR<;>intro hb)|(apply cX;intro hbd)|(apply bG;exact o5 _)|(apply aV (i:=0) rfl;exact o5 _)|(apply cY;intro bl)|(apply dv;intro va vk vc hva)|(apply du;intro v)|(apply dw;intro bl cap hcap)|apply dP|(apply dq<;>intro hnx)|apply ef mixed hC hGL be|(apply cq;assumption;exact o5 _;exact rfl)|(show Rt _ _ _;exact cP)|fail)
 all_goals try conv=>whnf
 ·refine cQ (i+1) ?_ ?_ ae rfl
  ·exact⟨a_,dj hb0 hb⟩
  ·omega
 ·apply aj
  rw[isS,JN a_ hb]
  rfl
 all_goals (
  apply aj
  refine congrArg AVal.bool ?_
  have ha:DK aU s=true:=uA.2 λj hj=>hb0 j a_
  have e:isS s=true↔(s.length≠0/\s.length<=40):=by simp only[isS,ha,aae,l_,n_]
  rw[w_,e]
  try simp only[Bool.not_eq_true',o8,reduceCtorEq,false_iff]
  omega)
theorem fN {G:Glo}(m low high:Int):ai prog G 74 [.int .i64 m,.int .i64 low,.int .i64 high] (.bool (decide (low<=m)&&decide (m<=high))):=by
 refine aw func74 call74 λC hC hGL=> ?_;refine xw ?_;repeat' first|exact .n|apply Lc.mk
 all_goals intros
 all_goals (apply aj;refine congrArg AVal.bool ?_;rw[w_];simp[o8,Bool.not_eq_true']<;>omega)
end
section
theorem bO {P:Program}{G:Glo}{f:FuncId}{avs:List AVal}{v:AVal}(hdet:v.det=true)(hc:∀args w,(callFunc f args).run P w= .ok (.enter f args) w)
  (h:∀R args,dy R avs args.toList->∀w,G.p R->fh R w->Calls P f args w λe w'=>e= .returned v.conc/\Below w.heap.size w w'):ai P G f avs v:=by
 intro R w args hG hm ha;refine .inl ⟨hc args w,(h R args ha w hG hm.sealed).mono ?_⟩;rintro e w' ⟨rfl,hb⟩;refine⟨.ret v,[],R,⟨rfl,rfl⟩,⟨_,rfl,vZ hdet⟩,?_⟩;refine⟨?_,Seal.le_refl R,λ_ hb=>.inl hb,⟨λ_ h=>absurd h t_,List.nodup_nil,λ_ h=>absurd h t_⟩,λ_ h=>absurd h t_,
  ⟨hb.os,hb.tape,hb.output,hb.size,λb hlt _=>hb.block b hlt⟩⟩
 intro b o ho;have h1:=hm.sealed b o ho;have hlt:b<w.heap.size:=by
  rcases aaj b w.heap.size with h|h
  ·exact h
  ·rw[Array.getElem?_eq_none h] at h1;cases h1
 rw[hb.block b hlt,h1]
theorem iC {P:Program}{G:Glo}{f:FuncId}{avs:List AVal}{v:AVal}(u:Value)(hu:∀R,bn R v u)(hc:∀args w,(callFunc f args).run P w= .ok (.enter f args) w)
  (h:∀R args,dy R avs args.toList->∀w,G.p R->fh R w->Calls P f args w λe w'=>e= .returned u/\Below w.heap.size w w'):ai P G f avs v:=by
 intro R w args hG hm ha;refine .inl ⟨hc args w,(h R args ha w hG hm.sealed).mono ?_⟩;rintro e w' ⟨rfl,hb⟩;refine⟨.ret v,[],R,⟨rfl,rfl⟩,⟨_,rfl,hu R⟩,?_⟩;refine⟨?_,Seal.le_refl R,λ_ hb=>.inl hb,⟨λ_ h=>absurd h t_,List.nodup_nil,λ_ h=>absurd h t_⟩,λ_ h=>absurd h t_,
  ⟨hb.os,hb.tape,hb.output,hb.size,λb hlt _=>hb.block b hlt⟩⟩
 intro b o ho;have h1:=hm.sealed b o ho;have hlt:b<w.heap.size:=by
  rcases aaj b w.heap.size with h|h
  ·exact h
  ·rw[Array.getElem?_eq_none h] at h1;cases h1
 rw[hb.block b hlt,h1]
theorem fR {args:Array Value}{l:List Value}(h:args.toList=l):args=l.toArray:=by rw[<-h]
theorem nc {R:Seal}{a b:AVal}{x y:Value}(h:bn R a x)(k:bn R b y):bn R (.tuple [a,b]) (.tuple #[x,y]):=
 ⟨⟨_,rfl,_,_,rfl,⟨h.1,h.2⟩,_,_,rfl,⟨k.1,k.2⟩,rfl⟩,rfl⟩
theorem Pd {R:Seal}{a b c:AVal}{x y z:Value}(h:bn R a x)(k:bn R b y)(l:bn R c z):bn R (.tuple [a,b,c]) (.tuple #[x,y,z]):=
 ⟨⟨_,rfl,_,_,rfl,⟨h.1,h.2⟩,_,_,rfl,⟨k.1,k.2⟩,_,_,rfl,⟨l.1,l.2⟩,rfl⟩,rfl⟩
theorem ea {P:Program}{G:Glo}{f:FuncId}{fn:Func}{e:Array Value→Sem Value}{avs:List AVal}{v:AVal}(hf:P.funcs[f]? =some fn)(hname:(fn.name== "runtime.NumGoroutine")=false)
  (hb:fn.body.isNone=true) (hn:Extern.findNext fn=none) (he:Extern.find fn=some e)
  (h:∀R args,dy R avs args.toList→∀w,∃x,(e args).run P w= .ok x w∧bn R v x):ai P G f avs v:=by
 intro R w args hG hm ha
 obtain⟨x,hx,hr⟩:=h R args ha w
 refine .inr ⟨x,w,?_,.ret v,[],R,⟨rfl,rfl⟩,⟨x,rfl,hr⟩,hm⟩
 rw[run_callFunc_extern hf hname hb hn he]
 simp only[hx,c_]
theorem kg {P:Program}{G:Glo}{f:FuncId}{fn:Func}{e:Array Value→Sem Value}{avs:List AVal}{H:Heap}{v:AVal}{H':Heap}(hf:P.funcs[f]? =some fn)(hname:(fn.name== "runtime.NumGoroutine")=false)
  (hb:fn.body.isNone=true) (hn:Extern.findNext fn=none) (he:Extern.find fn=some e)
  (h:∀C R args w,MS C R H w→dy R avs args.toList→∃x w' R',(e args).run P w= .ok x w'∧R.le R'∧bn R' v x∧MS C R' H' w'):ad P G f avs H (fun r h=>r= .ret v∧h=H'):=by
 intro R w args hG hm ha
 obtain⟨x,w',R',hx,hle,hr,hm'⟩:=h _ R args w hm ha
 refine .inr ⟨x,w',?_,.ret v,H',R',⟨rfl,rfl⟩,⟨x,rfl,hr⟩,hm'⟩
 rw[run_callFunc_extern hf hname hb hn he]
 simp only[hx,c_]
theorem ot {P:Program}{G:Glo}{f:FuncId}{fn:Func}{e:Array Value→Sem Value}{avs:List AVal}{v:AVal}(hf:P.funcs[f]? =some fn)(hname:(fn.name== "runtime.NumGoroutine")=false)
  (hb:fn.body.isNone=true) (hn:Extern.findNext fn=none) (he:Extern.find fn=some e)
  (h:∀R args w,dy R avs args.toList→∃x cs t,(e args).run P w= .ok x (w.alloc (.cells cs t))∧∀R',R.le R'→R' w.heap.size=some (.cells cs t)→bn R' v x):ai P G f avs v:=by
 refine kg hf hname hb hn he fun C R args w hm ha=> ?_
 obtain⟨x,cs,t,hx,hr⟩:=h R args w ha
 exact⟨x,_,R.put w.heap.size (.cells cs t),hx,Seal.put_le hm.seal_free,hr _ (Seal.put_le hm.seal_free) (Seal.put_at _ _ _),hm.alloc_sealed _⟩
end
section
attribute [local irreducible] bJ au aa ax aR ab ad
def kE (c:Int):ω->Nat->Int
 |[],_=> -1
 |x::t,k=>if(x.toNat:Int)=c then k else kE c t (k+1)
def aS (s:ω)(c:Int):Int:=kE c s 0
theorem Bg {c:UInt8}(b:ByteArray):∀(t:ω) (k:Nat),(∀j,j<t.length->b[k+j]! =t.getD j 0)->
  (match (List.range' k t.length).find? λi=>b[i]! ==c with|some i=>(i:Int)|none=> -1)=kE (c.toNat:Int) t k
 |[],_,_=>by simp[kE]
 |x::t,k,h=>by
  have h0:=h 0 (by simp);simp only[Nat.add_zero,List.getD_cons_zero] at h0;rw[j_,List.range'_succ,List.find?_cons,h0]
  by_cases e:x=c
  ·subst e;simp[kE]
  ·have e1:(x==c)=false:=by simpa using e
   rw[e1];have e2:¬((x.toNat:Int)=(c.toNat:Int)):=by
    intro h;exact e (UInt8.toNat_inj.1 a_)
   simp only[kE,if_neg e2];exact Bg b t (k+1) (λj hj=>by
    have:=h (j+1) (by simpa using hj)
    rw[show k+1+j=k+(j+1) by omega,this];simp)
theorem nr {G:Glo}(s:ω)(c:Int)(h0:0<=c)(h1:c<=255):ai prog G 123 [.str s,.int .u8 c] (.int .i64 (aS s c)):=by
 refine ea func123 be be be (e:=Go.Extern.BytealgIndexByte.indexByte) be ?_;intro R args ha w;obtain⟨x,t,e,hx,y,t',e',hy,rfl⟩:=ha;have hx:=aD.1 hx;have hy:=ap.1 hy;subst hx hy;obtain rfl:args=#[.string ⟨s.toArray⟩,.int .u8 c]:=by cases args;simp_all
 refine⟨.int .i64 (aS s c),?_,ap.2 rfl⟩;have hc:(c.toNat.toUInt8).toNat=c.toNat:=by
  show(UInt8.ofNat c.toNat).toNat=_;rw[UInt8.toNat_ofNat'];omega
 have key:=Bg (c:=c.toNat.toUInt8) ⟨s.toArray⟩ s 0 (λj hj=>by
  rw[Nat.zero_add];rw[getElem!_pos (⟨s.toArray⟩:ByteArray) j (by rw[bM];exact hj)];show s.toArray[j]=_;simp[List.getD,hj])
 rw[hc,Int.toNat_of_nonneg h0] at key;have e:Go.Extern.BytealgIndexByte.indexByte #[.string ⟨s.toArray⟩,.int .u8 c]=(match (List.range (⟨s.toArray⟩:ByteArray).size).find? λi=>(⟨s.toArray⟩:ByteArray)[i]! ==c.toNat.toUInt8 with|some i=>pure (goInt i)|none=>pure (goInt (-1))):=rfl;rw[e,bM,List.range_eq_range'];unfold aS;rw[<-key];generalize List.find? _ _=o;cases o<;>rfl
theorem jI {G:Glo}(s:ω)(c:Int)(h0:0<=c)(h1:c<=255):ai prog G 57 [.str s,.int .u8 c] (.int .i64 (aS s c)):=by
 have hb:=nr (G:=G) s c h0 h1;refine aw func57 call57 λC hC hGL=> ?_;exact bq
theorem aK {G:Glo}(s:ω)(c:Int)(h0:0<=c)(h1:c<=255):ai prog G 32 [.str s,.int .u8 c] (.int .i64 (aS s c)):=by
 have hb:=jI (G:=G) s c h0 h1;refine aw func32 call32 λC hC hGL=> ?_;exact bq
end
end Go.Proofs.YtgpjhbhdbjdlgaaGreatDoor
namespace Go.Proofs
open Tryz
open Go.Shelf
def Tryz.lays159_ren:Go.Shelf.Ren:=⟨fun|159=>33|165=>58|166=>59|167=>60|169=>61|230=>62|204=>63|240=>124|241=>125|197=>126|118=>127|168=>128|270=>129|262=>130|276=>178|277=>179|260=>180|242=>181|313=>182|278=>220|274=>221|275=>222|n=>n,fun|9=>9|4=>4|3=>3|5=>5|72=>135|0=>0|76=>123|75=>29|107=>141|70=>133|20=>20|37=>94|127=>210|21=>21|105=>211|164=>198|162=>261|203=>259|119=>241|46=>169|139=>300|138=>299|51=>289|160=>301|208=>345|206=>343|80=>139|n=>n,fun|13=>4|3=>6|4=>7|n=>n⟩
theorem Tryz.lays159:Go.Proofs.Lays.n159 prog lays159_ren:=by repeat' first|kernel_rfl|(intro w;kernel_rfl)|decide|constructor
theorem Tryz.Builder_Extra_159:Builder.Extra prog lays159_ren:=by repeat' first|kernel_rfl|(intro w;kernel_rfl)|decide|constructor
open Go.RowKit in
theorem Tryz.strings_ToLower_ascii (s:ByteArray)(w:World)(hs:s.size<=140737488355328)(hascii:∀(j:Nat) (b:UInt8),s.data.toList[j]? =some b->b.toNat<128):
  Calls prog 33 #[.string s] w λe w'=>e= .returned (.string ⟨(Lib.toLowerA s.data.toList).toArray⟩)/\Below w.heap.size w w':=Any.strings_ToLower_ascii lays159 Tryz.Builder_Extra_159 s w hs hascii
def Tryz.lays156_ren:Go.Shelf.Ren:=⟨fun|156=>196|165=>58|166=>59|169=>61|240=>124|241=>125|276=>178|277=>179|n=>n,fun|31=>67|9=>9|3=>3|4=>4|0=>0|20=>20|72=>135|76=>123|70=>133|37=>94|75=>29|127=>210|164=>198|5=>5|80=>139|n=>n,fun|n=>n⟩
theorem Tryz.lays156:Go.Proofs.Lays.n156 prog lays156_ren:=by repeat' first|kernel_rfl|(intro w;kernel_rfl)|decide|constructor
theorem Tryz.Builder_Extra_156:Builder.Extra prog lays156_ren:=by repeat' first|kernel_rfl|(intro w;kernel_rfl)|decide|constructor
open Go.RowKit in
theorem Tryz.strings_Join_none (a:Option Addr)(c:Nat)(sep:ByteArray)(w:World):
  Calls prog 196 #[.slice a 0 c,.string sep] w λe w'=>e= .returned (.string ⟨#[]⟩)/\w'=w:=Any.strings_Join_none lays156 Tryz.Builder_Extra_156 a c sep w
open Go.RowKit in
theorem Tryz.strings_Join (bk o c:Nat)(xs:List ByteArray)(sep:ByteArray)(w:World)(hcells:∀(j:Nat) x,xs[j]? =some x->w.cell? ⟨bk,o+j,none⟩=some (.string x))(hbk:bk<w.heap.size)(hN:xs.length<=140737488355328)(hcap:xs.length<=c)(hlen:(Lib.join (xs.map (·.data.toList)) sep.data.toList).length<=140737488355328):
  Calls prog 196 #[.slice (some ⟨bk,o,none⟩) xs.length c,.string sep] w λe w'=>e= .returned (.string ⟨(Lib.join (xs.map (·.data.toList)) sep.data.toList).toArray⟩)/\Below w.heap.size w w':=Any.strings_Join lays156 Tryz.Builder_Extra_156 bk o c xs sep w hcells hbk hN hcap hlen
def Tryz.laysM171_ren:Go.Shelf.Ren:=⟨fun|171=>188|243=>226|246=>244|283=>251|284=>252|285=>253|286=>254|129=>262|317=>261|318=>263|319=>264|320=>265|337=>272|338=>273|n=>n,fun|3=>3|9=>9|2=>2|4=>4|171=>357|0=>0|53=>337|37=>94|5=>5|173=>360|212=>377|51=>289|20=>20|213=>378|46=>169|232=>404|233=>405|n=>n,fun|17=>10|18=>11|19=>12|n=>n⟩
theorem Tryz.laysM171:Go.Proofs.LaysM.n171 prog laysM171_ren:=by repeat' first|kernel_rfl|(intro w;kernel_rfl)|decide|constructor
open Go.RowKit Go.Sort Go.Lib in
theorem Tryz.strconv_Itoa (n:Int)(h0: -9223372036854775808≤n)(h1:n≤9223372036854775807)(w:World)(htab:Lib.TabIs prog w "internal/strconv.uint64pow10" .u64 Lib.pow10Tab):
  Calls prog 188 #[.int .i64 n] w fun e w'=>e= .returned (.string ⟨(Lib.itoa n).toArray⟩)∧∃k os,w'=grow (w.drewN k) os:=Any.strconv_Itoa laysM171 n h0 h1 w htab
def Tryz.laysM173_ren:Go.Shelf.Ren:=⟨fun|173=>245|246=>244|283=>251|284=>252|285=>253|286=>254|129=>262|317=>261|318=>263|319=>264|320=>265|337=>272|338=>273|n=>n,fun|2=>2|3=>3|9=>9|4=>4|171=>357|0=>0|53=>337|37=>94|5=>5|173=>360|212=>377|51=>289|20=>20|213=>378|46=>169|232=>404|233=>405|n=>n,fun|17=>10|18=>11|19=>12|n=>n⟩
theorem Tryz.laysM173:Go.Proofs.LaysM.n173 prog laysM173_ren:=by repeat' first|kernel_rfl|(intro w;kernel_rfl)|decide|constructor
open Go.RowKit Go.Sort Go.Lib in
theorem Tryz.strconv_FormatInt_10 (n:Int)(h0: -9223372036854775808≤n)(h1:n≤9223372036854775807)(w:World)(htab:Lib.TabIs prog w "internal/strconv.uint64pow10" .u64 Lib.pow10Tab):
  Calls prog 245 #[.int .i64 n,.int .i64 10] w fun e w'=>e= .returned (.string ⟨(Lib.itoa n).toArray⟩)∧∃k os,w'=grow (w.drewN k) os:=Any.strconv_FormatInt_10 laysM173 n h0 h1 w htab
def Tryz.lays173_ren:Go.Shelf.Ren:=⟨fun|173=>245|246=>244|283=>251|284=>252|285=>253|286=>254|129=>262|317=>261|318=>263|319=>264|320=>265|337=>272|338=>273|n=>n,fun|2=>2|3=>3|9=>9|4=>4|171=>357|0=>0|53=>337|37=>94|5=>5|173=>360|212=>377|51=>289|20=>20|213=>378|46=>169|232=>404|233=>405|n=>n,fun|17=>10|18=>11|19=>12|n=>n⟩
theorem Tryz.lays173:Go.Proofs.Lays.n173 prog lays173_ren:=by repeat' first|kernel_rfl|(intro w;kernel_rfl)|decide|constructor
open Go.RowKit Go.Sort Go.Lib in
theorem Tryz.strconv_FormatInt_10_small (i:Nat)(hi:i<100)(w:World):
  Calls prog 245 #[.int .i64 i,.int .i64 10] w λe w'=>e= .returned (.string ⟨(Lib.decDigits i).toArray⟩)/\w'=w:=Any.strconv_FormatInt_10_small lays173 i hi w
def Tryz.laysC172_ren:Go.Shelf.Ren:=⟨fun|172=>118|244=>173|245=>174|247=>215|279=>216|280=>217|281=>218|282=>219|287=>238|316=>239|171=>188|205=>240|321=>249|322=>250|243=>226|246=>244|283=>251|284=>252|285=>253|286=>254|129=>262|317=>261|318=>263|319=>264|320=>265|337=>272|338=>273|n=>n,fun|9=>9|3=>3|75=>29|76=>123|4=>4|5=>5|167=>292|37=>94|0=>0|85=>293|2=>2|168=>295|53=>337|175=>338|46=>169|210=>341|127=>210|145=>356|143=>354|21=>21|171=>357|173=>360|212=>377|51=>289|20=>20|213=>378|232=>404|233=>405|80=>139|n=>n,fun|15=>8|16=>9|17=>10|18=>11|19=>12|n=>n⟩
theorem Tryz.laysC172:Go.Proofs.LaysC.n172 prog laysC172_ren:=by repeat' first|kernel_rfl|(intro w;kernel_rfl)|decide|constructor
open Go.RowKit in
theorem Tryz.strconv_Atoi_ok (s:ByteArray)(hmax:s.size<=9223372036854775806)(v:Int)(h:Lib.atoiAll s.data.toList= .ok v)(w:World):
  Calls prog 118 #[.string s] w λe w'=>e= .returned (.tuple #[.int .i64 v,.nilIface])/\(w'=w\/∃t,w'=Lib.bytesWorld w 5 t):=Any.strconv_Atoi_ok laysC172 s hmax v h w
open Go.RowKit in
theorem Tryz.strconv_Atoi_syntax (s:ByteArray)(hlim:s.size<=281474976710656)(h:Lib.atoiAll s.data.toList=Lib.NumEnd.syntax)(ev:Value)(w:World)(hv:w.cell? ⟨8,0,none⟩=some ev)(hev:ev= .nilIface\/∃te pe,ev= .iface te pe):
  Calls prog 118 #[.string s] w λe w'=>∃N,e= .returned (.tuple #[.int .i64 (0),.iface 295 (.pointer (some ⟨N,0,none⟩))])/\w.heap.size<=N/\w'.heap[N]? =some (.cells #[.string ⟨#[65,116,111,105]⟩,.string s,ev] 341 (0,0))/\Below w.heap.size w w':=Any.strconv_Atoi_syntax laysC172 s hlim h ev w hv hev
open Go.RowKit in
theorem Tryz.strconv_Atoi_range (s:ByteArray)(hlim:s.size<=281474976710656)(h:Lib.atoiAll s.data.toList= .range)(ev:Value)(w:World)(hv:w.cell? ⟨9,0,none⟩=some ev)(hev:ev= .nilIface\/∃te pe,ev= .iface te pe):
  Calls prog 118 #[.string s] w λe w'=>∃N,e= .returned (.tuple #[.int .i64 (Lib.atoiSat s.data.toList),.iface 295 (.pointer (some ⟨N,0,none⟩))])/\w.heap.size<=N/\w'.heap[N]? =some (.cells #[.string ⟨#[65,116,111,105]⟩,.string s,ev] 341 (0,0))/\Below w.heap.size w w':=Any.strconv_Atoi_range laysC172 s hlim h ev w hv hev
def Tryz.lays143_ren:Go.Shelf.Ren:=⟨fun|143=>132|219=>183|217=>57|225=>90|224=>89|267=>223|266=>123|314=>241|n=>n,fun|9=>9|3=>3|4=>4|5=>5|46=>169|146=>346|51=>289|n=>n,fun|1=>2|n=>n⟩
theorem Tryz.lays143:Go.Proofs.Lays.n143 prog lays143_ren:=by repeat' first|kernel_rfl|(intro w;kernel_rfl)|decide|constructor
open Go.RowKit Go.Lib in
theorem Tryz.strings_Index (s sub:ByteArray)(m:Int)(w:World)(hs:s.size<4294967281)(hm:w.cell? ⟨2,0,none⟩=some (.int .i64 m)):
  Calls prog 132 #[.string s,.string sub] w λe w'=>e= .returned (.int .i64 (Lib.index s.data.toList sub.data.toList))/\w'=w:=Any.strings_Index lays143 s sub m w hs hm
def Tryz.lays144_ren:Go.Shelf.Ren:=⟨fun|144=>146|143=>132|219=>183|217=>57|225=>90|224=>89|267=>223|266=>123|314=>241|n=>n,fun|9=>9|4=>4|3=>3|5=>5|46=>169|146=>346|51=>289|n=>n,fun|1=>2|n=>n⟩
theorem Tryz.lays144:Go.Proofs.Lays.n144 prog lays144_ren:=by repeat' first|kernel_rfl|(intro w;kernel_rfl)|decide|constructor
open Go.RowKit Go.Lib in
theorem Tryz.strings_Contains_one (s:ByteArray)(c:UInt8)(w:World):
  Calls prog 146 #[.string s,.string ⟨#[c]⟩] w λe w'=>e= .returned (.bool (decide (0<=Lib.indexByte s.data.toList c)))/\w'=w:=Any.strings_Contains_one lays144 s c w
open Go.RowKit Go.Lib in
theorem Tryz.strings_Contains (s sub:ByteArray)(m:Int)(w:World)(hs:s.size<4294967281)(hm:w.cell? ⟨2,0,none⟩=some (.int .i64 m)):
  Calls prog 146 #[.string s,.string sub] w λe w'=>e= .returned (.bool (Lib.contains s.data.toList sub.data.toList))/\w'=w:=Any.strings_Contains lays144 s sub m w hs hm
def Tryz.lays145_ren:Go.Shelf.Ren:=⟨fun|145=>110|220=>161|219=>183|217=>57|225=>90|224=>89|267=>223|266=>123|314=>241|n=>n,fun|9=>9|4=>4|59=>190|3=>3|5=>5|46=>169|146=>346|51=>289|n=>n,fun|1=>2|n=>n⟩
theorem Tryz.lays145:Go.Proofs.Lays.n145 prog lays145_ren:=by repeat' first|kernel_rfl|(intro w;kernel_rfl)|decide|constructor
open Go.RowKit Go.Lib in
theorem Tryz.strings_Cut (s sep:ByteArray)(m:Int)(w:World)(hs:s.size<4294967281)(hm:w.cell? ⟨2,0,none⟩=some (.int .i64 m)):
  Calls prog 110 #[.string s,.string sep] w λe w'=>e= .returned (.tuple #[.string ⟨(Lib.cut s.data.toList sep.data.toList).1.toArray⟩,.string ⟨(Lib.cut s.data.toList sep.data.toList).2.1.toArray⟩,.bool (Lib.cut s.data.toList sep.data.toList).2.2])/\∃n,w'=w.drewN n:=Any.strings_Cut lays145 s sep m w hs hm
def Tryz.lays138_ren:Go.Shelf.Ren:=⟨fun|138=>224|195=>242|218=>243|143=>132|219=>183|217=>57|225=>90|224=>89|267=>223|266=>123|314=>241|n=>n,fun|9=>9|3=>3|4=>4|5=>5|0=>0|46=>169|146=>346|51=>289|n=>n,fun|1=>2|n=>n⟩
theorem Tryz.lays138:Go.Proofs.Lays.n138 prog lays138_ren:=by repeat' first|kernel_rfl|(intro w;kernel_rfl)|decide|constructor
open Go.RowKit Go.Lib in
theorem Tryz.strings_Count_one (s:ByteArray)(c:UInt8)(w:World):
  Calls prog 224 #[.string s,.string ⟨#[c]⟩] w λe w'=>e= .returned (.int .i64 (Lib.countByte s.data.toList c))/\w'=w:=Any.strings_Count_one lays138 s c w
def Tryz.lays99_ren:Go.Shelf.Ren:=⟨fun|99=>27|206=>46|n=>n,fun|9=>9|4=>4|3=>3|n=>n,fun|n=>n⟩
theorem Tryz.lays99:Go.Proofs.Lays.n99 prog lays99_ren:=by repeat' first|kernel_rfl|(intro w;kernel_rfl)|decide|constructor
open Go.RowKit Go.Lib in
theorem Tryz.strings_HasPrefix (s p:ByteArray)(w:World):
  Calls prog 27 #[.string s,.string p] w λe w'=>e= .returned (.bool (Lib.hasPrefix s.data.toList p.data.toList))/\w'=w:=Any.strings_HasPrefix lays99 s p w
def Tryz.lays146_ren:Go.Shelf.Ren:=⟨fun|146=>142|221=>186|268=>225|138=>224|143=>132|195=>242|197=>126|218=>243|219=>183|260=>180|217=>57|225=>90|224=>89|267=>223|266=>123|314=>241|n=>n,fun|9=>9|31=>67|3=>3|4=>4|0=>0|105=>211|21=>21|5=>5|46=>169|119=>241|139=>300|138=>299|146=>346|51=>289|n=>n,fun|1=>2|3=>6|4=>7|n=>n⟩
theorem Tryz.lays146:Go.Proofs.Lays.n146 prog lays146_ren:=by repeat' first|kernel_rfl|(intro w;kernel_rfl)|decide|constructor
open Go.RowKit Go.Lib in
theorem Tryz.strings_Split (s sep:ByteArray)(m:Int)(w:World)(hs:s.size<4294967281)(hm:w.cell? ⟨2,0,none⟩=some (.int .i64 m))(h1:1<=sep.size):
  Calls prog 142 #[.string s,.string sep] w λe w'=>
   e= .returned (.slice (some ⟨w.heap.size,0,none⟩) (Lib.countB s sep+1) (Lib.countB s sep+1))/\w'=w.alloc (.cells ((Lib.splitB sep 0 (Lib.countB s sep) s).map Value.string).toArray 9):=Any.strings_Split lays146 be s sep m w hs hm h1
def Tryz.lays157_ren:Go.Shelf.Ren:=⟨fun|157=>117|229=>171|199=>172|261=>214|311=>236|312=>237|n=>n,fun|9=>9|31=>67|3=>3|5=>5|4=>4|119=>241|0=>0|40=>167|152=>286|21=>21|154=>288|51=>289|141=>291|196=>329|193=>326|198=>332|49=>330|194=>327|201=>335|226=>351|46=>169|227=>352|n=>n,fun|0=>3|6=>5|n=>n⟩
theorem Tryz.lays157:Go.Proofs.Lays.n157 prog lays157_ren:=by repeat' first|kernel_rfl|(intro w;kernel_rfl)|decide|constructor
open Go.RowKit Go.Lib in
theorem Tryz.strings_Fields (s:ByteArray)(w:World)(hs:s.size<4294967281)(hascii:∀(j:Nat) b,s.data.toList[j]? =some b→b.toNat<128)(htab:Lib.TabIs prog w "strings.asciiSpace" .u8 Lib.asciiSpaceTab):
  Calls prog 117 #[.string s] w fun e w'=>
   e= .returned (.slice (some ⟨w.heap.size,0,none⟩) (Lib.fields s.data.toList).length (Lib.fields s.data.toList).length)∧w'=w.alloc (.cells ((Lib.fields s.data.toList).map fun l=>Value.string ⟨l.toArray⟩).toArray 9):=Any.strings_Fields lays157 be be s w hs hascii htab
def Tryz.lays155_ren:Go.Shelf.Ren:=⟨fun|155=>137|154=>185|138=>224|165=>58|143=>132|166=>59|197=>126|169=>61|195=>242|218=>243|240=>124|241=>125|219=>183|260=>180|276=>178|277=>179|217=>57|225=>90|224=>89|267=>223|266=>123|314=>241|n=>n,fun|9=>9|3=>3|4=>4|72=>135|0=>0|76=>123|105=>211|21=>21|5=>5|70=>133|20=>20|37=>94|75=>29|127=>210|164=>198|46=>169|119=>241|139=>300|138=>299|146=>346|51=>289|80=>139|n=>n,fun|1=>2|3=>6|4=>7|n=>n⟩
theorem Tryz.lays155:Go.Proofs.Lays.n155 prog lays155_ren:=by repeat' first|kernel_rfl|(intro w;kernel_rfl)|decide|constructor
theorem Tryz.Builder_Extra_155:Builder.Extra prog lays155_ren:=by repeat' first|kernel_rfl|(intro w;kernel_rfl)|decide|constructor
open Go.RowKit Go.Lib in
theorem Tryz.strings_ReplaceAll (s old new:ByteArray)(m:Int)(w:World)(hs:s.size<4294967281)(hm:w.cell? ⟨2,0,none⟩=some (.int .i64 m))(h1:1<=old.size)(hlen:s.size+Lib.countB s old*new.size<=140737488355328):
  Calls prog 137 #[.string s,.string old,.string new] w λe w'=>
   e= .returned (.string ⟨(Lib.replaceAll s.data.toList old.data.toList new.data.toList).toArray⟩)/\Below w.heap.size w w':=Any.strings_ReplaceAll lays155 Tryz.Builder_Extra_155 s old new m w hs hm h1 hlen
def Tryz.lays153_ren:Go.Shelf.Ren:=⟨fun|153=>26|152=>42|226=>43|227=>44|228=>45|137=>32|119=>88|224=>89|225=>90|217=>57|266=>123|n=>n,fun|9=>9|3=>3|4=>4|5=>5|21=>21|117=>117|116=>116|0=>0|46=>169|124=>170|n=>n,fun|n=>n⟩
theorem Tryz.lays153:Go.Proofs.Lays.n153 prog lays153_ren:=by repeat' first|kernel_rfl|(intro w;kernel_rfl)|decide|constructor
open Go.RowKit Go.Lib in
theorem Tryz.strings_IndexAny_long (hv116:∀w,(zeroValue 116).run prog w= .ok (.agg (Array.replicate 256 (.bool false))) w)(s chars:ByteArray)(w:World)(h2:2<=chars.size)(h8:8<s.size)(hs:s.size<4294967281)(hcs:chars.size<4294967281)(hascii:∀(j:Nat) b,chars.data.toList[j]? =some b->b.toNat<128):
  Calls prog 26 #[.string s,.string chars] w λe w'=>e= .returned (.int .i64 (Lib.indexAny s.data.toList chars.data.toList))/\w'=((w.alloc (.cells (Lib.setCells chars.data.toList) 116)).alloc (.cells (Lib.setCells chars.data.toList) 116)):=Any.strings_IndexAny_long lays153 hv116 be s chars w h2 h8 hs hcs hascii
def Tryz.lays230_ren:Go.Shelf.Ren:=⟨fun|230=>62|197=>126|118=>127|165=>58|166=>59|168=>128|270=>129|167=>60|169=>61|260=>180|240=>124|241=>125|242=>181|276=>178|277=>179|278=>220|n=>n,fun|107=>141|9=>9|72=>135|0=>0|4=>4|3=>3|21=>21|105=>211|76=>123|5=>5|75=>29|70=>133|20=>20|37=>94|127=>210|119=>241|46=>169|139=>300|138=>299|164=>198|51=>289|80=>139|n=>n,fun|3=>6|4=>7|n=>n⟩
theorem Tryz.lays230:Go.Proofs.Lays.n230 prog lays230_ren:=by repeat' first|kernel_rfl|(intro w;kernel_rfl)|decide|constructor
theorem Tryz.Builder_Extra_230:Builder.Extra prog lays230_ren:=by repeat' first|kernel_rfl|(intro w;kernel_rfl)|decide|constructor
open Go.RowKit Go.Lib in
theorem Tryz.strings_Map_grows (g:Nat)(lb:Array Value)(eg:∀args w,(callFunc g args).run prog w= .ok (.enter g args) w)(f:Int->Int)(s:ByteArray)(w:World)(hs:s.size<35184372088832)(hf:MapGrows prog g lb f w)(hnn:∀x:Nat,x<=1114111-> -2147483648<=f x/\f x<=2147483647)(hT:Lib.Utf8Tabs 6 7 w):
  Calls prog 62 #[.func (.func g) #[] lb,.string s] w λe w'=>e= .returned (.string ⟨(Lib.mapD f s.data.toList).toArray⟩)/\Below w.heap.size w w':=Any.strings_Map_grows lays230 Tryz.Builder_Extra_230 g lb eg f s w hs hf hnn hT
end Go.Proofs
namespace Go.Proofs.YtgpjhbhdbjdlgaaGreatDoor
open Go Go.RowKit
open Tryz
set_option maxRecDepth 20000
set_option maxHeartbeats 4000000
section
attribute [local irreducible] bJ au aa ax aR ab ad aS
theorem u9 {G:Glo}(s:ω)(hs:s.length<=140737488355328)(ha:∀j,j<s.length->aa s j<128):ai prog G 33 [.str s] (.str (Lib.toLowerA s)):=by
 refine bO rfl call33 ?_;intro R args hr w _ _;obtain⟨x,t,e,hx,rfl⟩:=hr
 have hx:=aD.1 hx
 subst hx
 obtain rfl:args=#[.string ⟨s.toArray⟩]:=by cases args;simp_all
 have:=strings_ToLower_ascii ⟨s.toArray⟩ w (by rw[bM];exact hs) (λj b hb=>by
  have hb':s[j]? =some b:=by simpa using hb
  have hj:=(List.getElem?_eq_some_iff.1 hb').1
  have h2:=ha j hj
  unfold aa at h2
  simpa[List.getD,hb'] using h2)
 simp only[AVal.conc]
 simpa using this
def kI:ω:=[65,66,67,68,69,70,71,72,73,74,75,76,77,78,79,80,81,82,83,84,85,86,87,88,89,90]
def abcL:ω:=[97,98,99,100,101,102,103,104,105,106,107,108,109,110,111,112,113,114,115,116,117,118,119,120,121,122]
def Q9:ω:=[48,49,50,51,52,53,54,55,56,57,45]
theorem mm {G:Glo}:ai prog G 33 [.str kI] (.str abcL):=by
 have h:=u9 (G:=G) kI b_ (by decide+kernel);have e:Lib.toLowerA kI=abcL:=by decide
 rwa [e] at h
theorem nv {p:Int->Bool}(h:∀c:Fin 256,p (c.1:Int)=true){c:Int}(h0:0<=c)(h1:c<=255):p c=true:=by
 have:=h ⟨c.toNat,a_⟩;simpa only[Int.toNat_of_nonneg h0] using this
theorem yA {c:Int}(h0:0<=c)(h1:c<=255):decide (aS ((kI++abcL)++Q9) c<0)= !aU c:=by
 have:=nv (p:=λc=>decide (aS ((kI++abcL)++Q9) c<0)== !aU c) (by decide+kernel) h0 h1;simpa using this
theorem tM {G:Glo}(s:ω)(hl:s.length<=9223372036854775807):ai prog G 68 [.str s] (.bool (isS s)):=by
 refine aw func68 call68 λC hC hGL=> ?_;have hT:=mm (G:=G);have hI:=λc h0 h1=>aK (G:=G) ((kI++abcL)++Q9) c h0 h1;have hW:=fN (G:=G) (s.length:Int) 1 40;repeat' (first|(conv=>whnf);first|refine .w ?_|refine .v ?_|refine ez ?_ ?_<;>(intro hb;try exact dd hb)|apply aT|apply bP|(apply cR<;>intro hb)|(apply cX;intro hbd)|(apply cY;intro bl)|(apply dv;intro va vk vc hva)|(apply du;intro v)|(apply dw;intro bl cap hcap)|apply dP|(apply dq<;>intro hnx)|apply ef mixed hC hGL be|(show Rt _ _ _;exact cP)|fail)
 all_goals try conv=>whnf
 refine lp hC hGL (λ(i:Nat)=>[(0,.str s),(6,.own 0 (.slice (some ⟨bl,0,none⟩) s.length cap)),(7,.int .i64 s.length),(8,.int .i64 i)]) (λ_=>[.buf bl s cap]) (λi=>i<=s.length/\∀j,j<i->aU (aa s j)=true) (λi=>s.length-i) 0 ?_ ae rfl ?_
 ·exact⟨Nat.zero_le _,by intro j hj;omega⟩
 rintro i ⟨hi,hb0⟩;repeat' (first|(conv=>whnf);first|refine .w ?_|refine .v ?_|refine ez ?_ ?_<;>(intro hb;try exact dd hb)|apply aT|apply bP|(apply cR<;>intro hb)|(apply cX;intro hbd)|(apply bG;first|exact hT|exact hW|(exact hI _ a_ a_))|(apply aV (i:=0) rfl;first|exact hT|exact hW|(exact hI _ a_ a_))|(apply cY;intro bl)|(apply dv;intro va vk vc hva)|(apply du;intro v)|(apply dw;intro bl cap hcap)|apply dP|(apply dq<;>intro hnx)|apply ef mixed hC hGL be|(apply cq;assumption;(first|exact hT|exact hW|(exact hI _ a_ a_));exact rfl)|(show Rt _ _ _;exact cP)|fail)
 all_goals try conv=>whnf
 ·apply aj;have hx:=yA (c:=(aa s i:Int)) a_ a_;rw[decide_eq_true hb] at hx;rw[isS,JN (j:=i) a_ (by simpa using hx.symm)];rfl
 ·have hx:=yA (c:=(aa s i:Int)) a_ a_;rw[decide_eq_false a_] at hx;refine cQ (i+1) ?_ ?_ ae rfl
  ·exact⟨a_,dj hb0 (by simpa using hx.symm)⟩
  ·omega
 ·apply aj;refine congrArg AVal.bool ?_;have ha:DK aU s=true:=uA.2 λj hj=>hb0 j a_;simp only[isS,ha,aae];rw[w_];simp only[l_,n_];omega
theorem Qr {c:Int}(h0:0<=c)(h1:c<=255):(if 0<=aS abcL c then aS abcL c<26/\(aa kI (aS abcL c).toNat:Int)=eo 97 122 (-32) c.toNat else eo 97 122 (-32) c.toNat=c):=by
 have:=nv (p:=λc=>decide (if 0<=aS abcL c then aS abcL c<26/\(aa kI (aS abcL c).toNat:Int)=eo 97 122 (-32) c.toNat else eo 97 122 (-32) c.toNat=c)) (by decide+kernel) h0 h1;simpa using this
theorem KY {c:Int}(h0:0<=c)(h1:c<=255):(if 0<=aS kI c then aS kI c<26/\(aa abcL (aS kI c).toNat:Int)=eo 65 90 32 c.toNat else eo 65 90 32 c.toNat=c):=by
 have:=nv (p:=λc=>decide (if 0<=aS kI c then aS kI c<26/\(aa abcL (aS kI c).toNat:Int)=eo 65 90 32 c.toNat else eo 65 90 32 c.toNat=c)) (by decide+kernel) h0 h1;simpa using this
theorem Mr {G:Glo}(s:ω)(hl:s.length<=9223372036854775807):ai prog G 145 [.str s] (.str (am 97 122 (-32) s)):=by
 refine aw func145 call145 λC hC hGL=> ?_;have hT:=mm (G:=G);have hcT:=call33;have hcI:=call32;have hI:=λc h0 h1=>aK (G:=G) abcL c h0 h1;have eU:kI.length=26:=rfl;repeat' (first|(conv=>whnf);first|refine .w ?_|refine .v ?_|refine ez ?_ ?_<;>(intro hb;try exact dd hb)|apply aT|apply bP|(apply cR<;>intro hb)|(apply cX;intro hbd)|(apply cY;intro bl)|(apply dv;intro va vk vc hva)|(apply du;intro v)|(apply dw;intro bl cap hcap)|apply dP|(apply dq<;>intro hnx)|apply ef mixed hC hGL be|(show Rt _ _ _;exact cP)|fail)
 all_goals try conv=>whnf
 refine lp hC hGL (λ(x:Nat×ω)=>[(3,.own 0 (.slice (some ⟨bl,0,none⟩) s.length cap)),(9,.int .i64 s.length),(10,.int .i64 x.1)]) (λx=>[.buf bl x.2 cap]) (mS 97 122 (-32) s) (λx=>s.length-x.1) (0,s) ?_ ae rfl ?_
 ·exact wL
 rintro⟨i,t⟩ hI0;have hi:=hI0.1;have ht:=hI0.2.1;dsimp only at hi ht ⊢;repeat' (first|(conv=>whnf);first|refine .w ?_|refine .v ?_|refine ez ?_ ?_<;>(intro hb;try exact dd hb)|apply aT|apply bP|(apply cR<;>intro hb)|(apply cX;intro hbd)|(apply bG;first|exact hT|(exact hI _ a_ a_))|(apply aV (i:=0) rfl;first|exact hT|(exact hI _ a_ a_))|(apply cY;intro bl)|(apply dv;intro va vk vc hva)|(apply du;intro v)|(apply dw;intro bl cap hcap)|apply dP|(apply dq<;>intro hnx)|apply ef mixed hC hGL be|(apply cq;assumption;(first|exact hT|(exact hI _ a_ a_));exact rfl)|(show Rt _ _ _;exact cP)|fail)
 all_goals try conv=>whnf
 ·have e:=lx hI0 a_;have hx:=Qr (c:=(aa s i:Int)) a_ a_;rw[if_pos (by rw[<-e];exact hb),<-e] at hx;refine aH ?_;intros;refine cQ (i+1,t.set i (UInt8.ofNat ((aa kI (aS abcL (aa t i)).toNat:Nat):Int).toNat)) ?_ ?_ ae rfl
  ·refine qX hI0 a_ ?_ a_ (by have:=bB kI (aS abcL (aa t i)).toNat;omega);rw[hx.2,e];simp only[B_]
  ·dsimp only;omega
 ·have e:=lx hI0 a_;have hx:=Qr (c:=(aa s i:Int)) a_ a_;rw[if_neg (by rw[<-e];omega)] at hx;refine cQ (i+1,t) ?_ ?_ ae rfl
  ·exact oD hI0 a_ (by simpa using hx)
  ·dsimp only;omega
 ·apply aj;rw[qY b_ b_ hI0 a_]
theorem pX {G:Glo}(s:ω)(hl:s.length<=9223372036854775807):ai prog G 23 [.str s] (.str (am 65 90 32 s)):=by
 refine aw func23 call23 λC hC hGL=> ?_;have hT:=mm (G:=G);have hI:=λc h0 h1=>aK (G:=G) kI c h0 h1;have eL:abcL.length=26:=rfl;repeat' (first|(conv=>whnf);first|refine .w ?_|refine .v ?_|refine ez ?_ ?_<;>(intro hb;try exact dd hb)|apply aT|apply bP|(apply cR<;>intro hb)|(apply cX;intro hbd)|(apply cY;intro bl)|(apply dv;intro va vk vc hva)|(apply du;intro v)|(apply dw;intro bl cap hcap)|apply dP|(apply dq<;>intro hnx)|apply ef mixed hC hGL be|(show Rt _ _ _;exact cP)|fail)
 all_goals try conv=>whnf
 refine lp hC hGL (λ(x:Nat×ω)=>[(3,.own 0 (.slice (some ⟨bl,0,none⟩) s.length cap)),(9,.int .i64 s.length),(10,.int .i64 x.1)]) (λx=>[.buf bl x.2 cap]) (mS 65 90 32 s) (λx=>s.length-x.1) (0,s) ?_ ae rfl ?_
 ·exact wL
 rintro⟨i,t⟩ hI0;have hi:=hI0.1;have ht:=hI0.2.1;dsimp only at hi ht ⊢;repeat' (first|(conv=>whnf);first|refine .w ?_|refine .v ?_|refine ez ?_ ?_<;>(intro hb;try exact dd hb)|apply aT|apply bP|(apply cR<;>intro hb)|(apply cX;intro hbd)|(apply bG;first|exact hT|(exact hI _ a_ a_))|(apply aV (i:=0) rfl;first|exact hT|(exact hI _ a_ a_))|(apply cY;intro bl)|(apply dv;intro va vk vc hva)|(apply du;intro v)|(apply dw;intro bl cap hcap)|apply dP|(apply dq<;>intro hnx)|apply ef mixed hC hGL be|(apply cq;assumption;(first|exact hT|(exact hI _ a_ a_));exact rfl)|(show Rt _ _ _;exact cP)|fail)
 all_goals try conv=>whnf
 ·have e:=lx hI0 a_;have hx:=KY (c:=(aa s i:Int)) a_ a_;rw[if_pos (by rw[<-e];exact hb),<-e] at hx;refine aH ?_;intros;refine cQ (i+1,t.set i (UInt8.ofNat ((aa abcL (aS kI (aa t i)).toNat:Nat):Int).toNat)) ?_ ?_ ae rfl
  ·refine qX hI0 a_ ?_ a_ (by have:=bB abcL (aS kI (aa t i)).toNat;omega);rw[hx.2,e];simp only[B_]
  ·dsimp only;omega
 ·have e:=lx hI0 a_;have hx:=KY (c:=(aa s i:Int)) a_ a_;rw[if_neg (by rw[<-e];omega)] at hx;refine cQ (i+1,t) ?_ ?_ ae rfl
  ·exact oD hI0 a_ (by simpa using hx)
  ·dsimp only;omega
 ·apply aj;rw[qY b_ b_ hI0 a_]
end
section
open Go Go.Extern
attribute [local irreducible] bJ au aa ax aR ab ad
noncomputable def ke (t:TypeId):Value:=typeHandle prog t
theorem vm (t:Addr)(w:World):(ReflectliteValue.unpack (.iface 132 (.pointer (some t)))).run prog w
  = .ok (.agg #[ke 132,.pointer (some ⟨w.heap.size,0,none⟩),.int .u64 150]) (w.alloc (.cells #[.pointer (some t)] 132)):=by kernel_rfl
theorem rX (e:Int)(w:World):(ReflectliteValue.unpack (.iface 23 (.int .i64 e))).run prog w
  = .ok (.agg #[ke 23,.pointer (some ⟨w.heap.size,0,none⟩),.int .u64 130]) (w.alloc (.cells #[.int .i64 e] 23)):=by kernel_rfl
theorem lk {R:Seal}{a:AVal}{args:Array Value}(h:dy R [a] args.toList):∃v,args=#[v]/\bn R a v:=by
 obtain⟨x,t,e,hx,rfl⟩:=h;exact⟨x,by cases args;simp_all,hx⟩
theorem rJ {R:Seal}{a b:AVal}{args:Array Value}(h:dy R [a,b] args.toList):∃v u,args=#[v,u]/\bn R a v/\bn R b u:=by
 obtain⟨x,t,e,hx,y,t',e',hy,rfl⟩:=h;exact⟨x,y,by cases args;simp_all,hx,hy⟩
theorem nj {R:Seal}{t:TypeId}{a:AVal}{v:Value}(h:bn R (.iface t a) v):∃u,v= .iface t u/\bn R a u:=by
 obtain⟨u,e,h1,h2⟩:=bC h rfl;simp only[o_,and_true] at e;exact⟨u,e,h1,h2⟩
theorem D3 {G:Glo}(bl:Nat):ai prog G 119 [.iface 132 (.raw (.pointer (some ⟨bl,0,none⟩)))]
  (.agg [.raw (ke 132),.rop [.raw (.pointer (some ⟨bl,0,none⟩))] 0,.int .u64 150]):=by
 refine ot func119 be be be (e:=λargs=>ReflectliteValue.unpack (args.getD 0 (.tuple #[]))) be ?_;intro R args w ha;obtain⟨v,rfl,hv⟩:=lk ha;obtain⟨u,rfl,hu⟩:=nj hv;obtain rfl:=aq.1 hu;refine⟨_,_,_,vm _ w,λR' _ hR=>⟨⟨_,_,rfl,rfl,_,_,rfl,?_,_,_,rfl,rfl,rfl⟩,rfl⟩⟩;exact(ik (R:=R') (cs:=[.raw (.pointer (some ⟨bl,0,none⟩))]) (off:=0) (Nat.le_refl _) ⟨_,_,_,hR,⟨_,_,rfl,rfl,rfl⟩⟩).1
theorem qx {G:Glo}(e:Int):ai prog G 119 [.iface 23 (.int .i64 e)]
  (.agg [.raw (ke 23),.rop [.int .i64 e] 0,.int .u64 130]):=by
 refine ot func119 be be be (e:=λargs=>ReflectliteValue.unpack (args.getD 0 (.tuple #[]))) be ?_;intro R args w ha;obtain⟨v,rfl,hv⟩:=lk ha;obtain⟨u,rfl,hu⟩:=nj hv;obtain rfl:=ap.1 hu;refine⟨_,_,_,rX _ w,λR' _ hR=>⟨⟨_,_,rfl,rfl,_,_,rfl,?_,_,_,rfl,rfl,rfl⟩,rfl⟩⟩;exact(ik (R:=R') (cs:=[.int .i64 e]) (off:=0) (Nat.le_refl _) ⟨_,_,_,hR,⟨_,_,rfl,rfl,rfl⟩⟩).1
noncomputable abbrev rty (t:TypeId):AVal:=.iface 245 (.agg [.raw (ke t)])
theorem sa {R:Seal}(t:TypeId):bn R (rty t) (.iface 245 (.agg #[ke t])):=⟨⟨_,rfl,⟨_,_,rfl,rfl,rfl⟩,rfl⟩,rfl⟩
theorem jC {R:Seal}{x:Value}{v:Value}(hx:dc x=false)(h:bn R (.agg [.raw x]) v):v= .agg #[x]:=by
 obtain⟨h1,h2⟩:=h;cases v<;>simp only[AVal.isAgg,dc,Bool.true_eq_false] at h2
 rename_i cs;obtain⟨a,t,e,ha,rfl⟩:=h1;simp only[Value.cells] at e;have ha:[a]=x.cells.toList:=ha;have:x.cells.toList=[x]:=by cases x<;>first|rfl|(simp[dc] at hx)
 rw[this] at ha;simp only[o_,and_true] at ha;subst ha;have:cs=#[a]:=by cases cs;simp_all
 rw[this]
theorem Co {R:Seal}{t:TypeId}{v:Value}(h:bn R (rty t) v):v= .iface 245 (.agg #[ke t]):=by
 obtain⟨u,rfl,hu⟩:=nj h;rw[jC rfl hu]
theorem tc {R:Seal}{x:Value}{k:IntKind}{n:Int}{c:AVal}{v:Value}(hx:dc x=false)(h:bn R (.agg [.raw x,.rop [c] 0,.int k n]) v):
  ∃b o,v= .agg #[x,.pointer (some ⟨b,o,none⟩),.int k n]/\dR R b o [c]:=by
 obtain⟨h1,h2⟩:=h;cases v<;>simp only[AVal.isAgg,dc,Bool.true_eq_false] at h2
 rename_i cs;obtain⟨a,t,e,ha,a',t',e',ha',a'',t'',e'',ha'',rfl⟩:=h1;simp only[Value.cells] at e;have ha:[a]=x.cells.toList:=ha;have hxl:x.cells.toList=[x]:=by cases x<;>first|rfl|(simp[dc] at hx)
 rw[hxl] at ha;simp only[o_,and_true] at ha;subst ha;have ha'':[a'']=[Value.int k n]:=ha'';simp only[o_,and_true] at ha'';subst ha'';obtain⟨b,o,e2,ho,hs⟩:=iw (cT ha' rfl);subst e2;refine⟨b,o,?_,by simpa using hs⟩;have:cs=#[a,.pointer (some ⟨b,o,none⟩),.int k n]:=by cases cs;simp_all
 rw[this]
theorem rI {G:Glo}(e:Int):ai prog G 175 [.iface 23 (.int .i64 e)] (rty 23):=by
 refine ea func175 be be be (e:=ReflectliteType.typeOf) be ?_;intro R args ha w;obtain⟨v,rfl,hv⟩:=lk ha;obtain⟨u,rfl,hu⟩:=nj hv;exact⟨.iface 245 (.agg #[ke 23]),be,sa _⟩
theorem LZ {G:Glo}(a:AVal):ai prog G 175 [.iface 79 a] (rty 79):=by
 refine ea func175 be be be (e:=ReflectliteType.typeOf) be ?_;intro R args ha w;obtain⟨v,rfl,hv⟩:=lk ha;obtain⟨u,rfl,hu⟩:=nj hv;exact⟨.iface 245 (.agg #[ke 79]),be,sa _⟩
theorem Ou {G:Glo}(c:AVal):ai prog G 120 [.agg [.raw (ke 132),.rop [c] 0,.int .u64 150]] (rty 132):=by
 refine ea func120 be be be
  (e:=ReflectliteValue.methodAny (ReflectliteValue.valueError "reflectlite.Value.Type" 0) fun t _ _ _=>ReflectliteType.toType t) be ?_
 intro R args ha w
 obtain⟨v,rfl,hv⟩:=lk ha
 obtain⟨b,o,rfl,_⟩:=tc rfl hv
 exact⟨.iface 245 (.agg #[ke 132]),be,sa _⟩
theorem G4 {G:Glo}(t:TypeId)(k:Int)(h:∀w,(((ReflectliteType.abiMethod λt=>do pure (.int .u8 (<-Rtype.kind t))) #[ke t]).run prog w)= .ok (.int .u8 k) w):ai prog G 304 [.raw (ke t)] (.int .u8 k):=by
 refine ea func304 be be be
  (e:=ReflectliteType.abiMethod λt=>do pure (.int .u8 (<-Rtype.kind t))) be ?_
 intro R args ha w;obtain⟨v,rfl,hv⟩:=lk ha;obtain rfl:=aq.1 hv;exact⟨.int .u8 k,h w,ap.2 rfl⟩
theorem Qk {G:Glo}:ai prog G 304 [.raw (ke 132)] (.int .u8 22):=G4 _ _ (λw=>by kernel_rfl)
theorem IJ {G:Glo}:ai prog G 304 [.raw (ke 23)] (.int .u8 2):=G4 _ _ (λw=>by kernel_rfl)
theorem Q5 {G:Glo}:ai prog G 316 [.agg [.raw (ke 132)]] (rty 23):=by
 refine ea func316 be be be (e:=ReflectliteType.method ReflectliteType.elem) be ?_;intro R args ha w;obtain⟨v,rfl,hv⟩:=lk ha;obtain rfl:=jC rfl hv;exact⟨.iface 245 (.agg #[ke 23]),be,sa _⟩
theorem uf {G:Glo}:ai prog G 317 [.agg [.raw (ke 23)],rty 29] (.bool true):=by
 refine ea func317 be be be (e:=ReflectliteType.relation "Implements" ReflectliteType.implements_) be ?_
 intro R args ha w
 obtain⟨v,u,rfl,hv,hu⟩:=rJ ha
 obtain rfl:=jC rfl hv
 obtain rfl:=Co hu
 exact⟨.bool true,be,aO.2 rfl⟩
theorem nt {G:Glo}:ai prog G 314 [.agg [.raw (ke 23)],rty 23] (.bool true):=by
 refine ea func314 be be be (e:=ReflectliteType.relation "AssignableTo" ReflectliteType.assignableTo) be ?_
 intro R args ha w
 obtain⟨v,u,rfl,hv,hu⟩:=rJ ha
 obtain rfl:=jC rfl hv
 obtain rfl:=Co hu
 exact⟨.bool true,be,aO.2 rfl⟩
theorem Ag {G:Glo}:ai prog G 314 [.agg [.raw (ke 79)],rty 23] (.bool false):=by
 refine ea func314 be be be (e:=ReflectliteType.relation "AssignableTo" ReflectliteType.assignableTo) be ?_
 intro R args ha w
 obtain⟨v,u,rfl,hv,hu⟩:=rJ ha
 obtain rfl:=jC rfl hv
 obtain rfl:=Co hu
 exact⟨.bool false,be,aO.2 rfl⟩
theorem rlm (z:Sem Value)(f:TypeId->Addr->Nat->Nat->Sem Value)(v:Value):
  ReflectliteValue.method z f #[v]=(do match <-ReflectliteValue.parts v with|none=>z|some (t,a,fl)=>f t a fl (fl%32)):=rfl
theorem AM (a:Addr)(w:World):(ReflectliteValue.parts (.agg #[ke 132,.pointer (some a),.int .u64 150])).run prog w= .ok (some (132,a,150)) w:=by kernel_rfl
theorem ME (a:Addr)(w:World):(ReflectliteValue.parts (.agg #[ke 23,.pointer (some a),.int .u64 386])).run prog w= .ok (some (23,a,386)) w:=by kernel_rfl
theorem E9 (a:Addr)(w:World):(ReflectliteValue.parts (.agg #[ke 23,.pointer (some a),.int .u64 130])).run prog w= .ok (some (23,a,130)) w:=by kernel_rfl
theorem Ji (w:World):(Rtype.elem? 132).run prog w= .ok (some 23) w:=by kernel_rfl
theorem WL (p:Addr)(w:World):(ReflectliteValue.mk 23 p ReflectliteValue.flagAddr).run prog w= .ok (.agg #[ke 23,.pointer (some p),.int .u64 386]) w:=by kernel_rfl
theorem MQ {G:Glo}(bl:Nat):ai prog G 121 [.agg [.raw (ke 132),.rop [.raw (.pointer (some ⟨bl,0,none⟩))] 0,.int .u64 150]] (.bool false):=by
 refine kg func121 be be be (e:=ReflectliteValue.method (ReflectliteValue.valueError "reflectlite.Value.IsNil" 0) ReflectliteValue.isNil) be ?_
 intro C R args w hm ha
 obtain⟨v,rfl,hv⟩:=lk ha
 obtain⟨b,o,rfl,hs⟩:=tc rfl hv
 obtain⟨u,hu,hr⟩:=hs.cell hm.sealed (i:=0) rfl
 rw[Nat.add_zero] at hu
 have hr:[u]=[Value.pointer (some ⟨bl,0,none⟩)]:=hr
 simp only[o_,and_true] at hr
 subst hr
 refine⟨.bool false,w,R,?_,Seal.le_refl R,aO.2 rfl,hm⟩
 rw[rlm]
 simp only[e_,AM,Result.andThen]
 simp[ReflectliteValue.isNil,loadVar,isAgg,underlying,underlying132,hu,Result.andThen]
theorem By {G:Glo}(bl:Nat):ai prog G 176 [.agg [.raw (ke 132),.rop [.raw (.pointer (some ⟨bl,0,none⟩))] 0,.int .u64 150]] (.agg [.raw (ke 23),.raw (.pointer (some ⟨bl,0,none⟩)),.int .u64 386]):=by
 refine kg func176 be be be (e:=ReflectliteValue.method (ReflectliteValue.valueError "reflectlite.Value.Elem" 0) ReflectliteValue.elem) be ?_
 intro C R args w hm ha
 obtain⟨v,rfl,hv⟩:=lk ha
 obtain⟨b,o,rfl,hs⟩:=tc rfl hv
 obtain⟨u,hu,hr⟩:=hs.cell hm.sealed (i:=0) rfl
 rw[Nat.add_zero] at hu
 have hr:[u]=[Value.pointer (some ⟨bl,0,none⟩)]:=hr
 simp only[o_,and_true] at hr
 subst hr
 refine⟨.agg #[ke 23,.pointer (some ⟨bl,0,none⟩),.int .u64 386],w,R,?_,Seal.le_refl R,⟨⟨_,_,rfl,rfl,_,_,rfl,rfl,_,_,rfl,rfl,rfl⟩,rfl⟩,hm⟩
 rw[rlm]
 simp only[e_,AM,Result.andThen]
 simp[ReflectliteValue.elem,loadVar,isAgg,underlying,underlying132,hu,Result.andThen,Ji,WL]
end
end Go.Proofs.YtgpjhbhdbjdlgaaGreatDoor
