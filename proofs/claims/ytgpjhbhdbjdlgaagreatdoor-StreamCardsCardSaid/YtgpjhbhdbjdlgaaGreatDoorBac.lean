/- Parts of the proof of streamCards_card. -/
import Derived.Carry
import Derived.Test.YtgpjhbhdbjdlgaaGreatDoorBab
set_option linter.unusedVariables false
set_option linter.unusedSimpArgs false
set_option linter.unusedSectionVars false
namespace Go.Proofs.YtgpjhbhdbjdlgaaGreatDoor
open Tryz
set_option maxRecDepth 20000
set_option maxHeartbeats 4000000
section
open Go
structure Sp (p k:Prop):Prop where
 p:p
 k:k
structure Sc (b:Bool) (t f:Prop):Prop where
 t:b=true->t
 f:b=false->f
theorem oP {p k:Prop}(hp:p)(hk:k):Sp p k:=⟨hp,hk⟩
theorem jp {t f:Prop}(h:t):Sc true t f:=⟨λ_=>h,λe=>by cases e⟩
theorem eu {t f:Prop}(h:f):Sc false t f:=⟨λe=>(by cases e),λ_=>h⟩
theorem rT {x y:Int}{t f:Prop}(ht:x<y->t)(hf:y<=x->f):Sc (nT x y) t f:=⟨λe=>ht (oo.1 e),λe=>hf (o8.1 e)⟩
theorem nJ {x y:Int}{t f:Prop}(ht:y<=x->t)(hf:x<y->f):Sc (!nT x y) t f:=⟨λe=>ht (o8.1 (by simpa using e)),λe=>hf (oo.1 (by simpa using e))⟩
theorem rU {x y:Int}{t f:Prop}(ht:x=y->t)(hf:x≠y->f):Sc (bV x y) t f:=⟨λe=>ht (fJ.1 e),λe=>hf (k9.1 e)⟩
theorem nL {x y:Int}{t f:Prop}(ht:x≠y->t)(hf:x=y->f):Sc (!bV x y) t f:=⟨λe=>ht (k9.1 (by simpa using e)),λe=>hf (fJ.1 (by simpa using e))⟩
theorem nK {x:ω}{t f:Prop}(ht:x.length=0->t)(hf:x.length≠0->f):Sc (aW x []) t f:=⟨λe=>ht (by have:=ce.1 e;subst this;rfl),λe=>hf (λh=>(kM.1 e) (s_ h))⟩
theorem li {x:ω}{t f:Prop}(ht:x.length≠0->t)(hf:x.length=0->f):Sc (!aW x []) t f:=by
 refine⟨λe=>ht λh=> ?_,λe=>hf ?_⟩
 ·exact(kM.1 (by simpa using e)) (s_ h)
 ·have e:aW x []=true:=by simpa using e
  have:=ce.1 e;subst this;rfl
theorem nI {x y:ω}{t f:Prop}(ht:x=y->t)(hf:x≠y->f):Sc (aW x y) t f:=⟨λe=>ht (ce.1 e),λe=>hf (kM.1 e)⟩
theorem lh {x y:ω}{t f:Prop}(ht:x≠y->t)(hf:x=y->f):Sc (!aW x y) t f:=⟨λe=>ht (kM.1 (by simpa using e)),λe=>hf (ce.1 (by simpa using e))⟩
theorem aT {b:Bool}{t f:Prop}(h:Sc b f t):Sc (!b) t f:=⟨λe=>h.2 (by simpa using e),λe=>h.1 (by simpa using e)⟩
theorem bP {a b:Bool}{t f:Prop}(h:Sc a t (Sc b t f)):Sc (a||b) t f:=by
 cases a
 ·exact⟨λe=>(h.2 rfl).1 (by simpa using e),λe=>(h.2 rfl).2 (by simpa using e)⟩
 ·exact⟨λ_=>h.1 rfl,λe=>by simp at e⟩
theorem cR {b:Bool}{t f:Prop}(ht:b=true->t)(hf:b=false->f):Sc b t f:=⟨ht,hf⟩
structure Ix (i:Int) (m:Nat) (K:Nat->Prop):Prop where
 p:0<=i/\i<m
 k:K i.toNat
theorem W1 {i m:Nat}{K:Nat->Prop}(h:i<m)(k:K i):Ix (i:Int) m K:=⟨⟨a_,a_⟩,by simpa using k⟩
theorem W2 {i:Int}{m:Nat}{K:Nat->Prop}(h:0<=i/\i<m)(k:K i.toNat):Ix i m K:=⟨h,k⟩
structure Sl (i j:Int) (m:Nat) (K:Nat->Nat->Prop):Prop where
 p:0<=i/\i<=j/\j<=m
 k:K i.toNat j.toNat
theorem V7 {i j m:Nat}{K:Nat->Nat->Prop}(h:i<=j/\j<=m)(k:K i j):Sl (i:Int) (j:Int) m K:=⟨⟨a_,a_,a_⟩,by simpa using k⟩
theorem V8 {i j:Int}{m:Nat}{K:Nat->Nat->Prop}(h:0<=i/\i<=j/\j<=m)(k:K i.toNat j.toNat):Sl i j m K:=⟨h,k⟩
structure Bx (s:ω) (i:Nat) (k:Prop):Prop where
 h:aa s i<256->k
theorem cX {s:ω}{i:Nat}{k:Prop}(h:aa s i<256->k):Bx s i k:=⟨h⟩
inductive Cx (P:Program) (G:Glo) (f:FuncId) (avs:List AVal) (H:Heap) (K:AVal->Heap->Prop) (Kp:AVal->Heap->Prop):Prop
 |mk (Qf:co->Heap->Prop) (hs:ad P G f avs H Qf) (hr:∀v H',Qf (.ret v) H'->K v H') (hp:∀v H',Qf (.panic v) H'->Kp v H')
structure Ab (K:Nat->Prop):Prop where
 h:∀bl,K bl
structure Av (K:Value->Prop):Prop where
 h:∀v,K v
structure Ac (p:Nat->Prop) (K:Nat->Nat->Prop):Prop where
 h:∀bl cap,p cap->K bl cap
theorem cY {K:Nat->Prop}(h:∀bl,K bl):Ab K:=⟨h⟩
def G6 (m:Nat)(a:Option Addr)(k:Nat):Prop:=0<m->∃b,a=some ⟨b,0,none⟩/\k=m
structure As (m:Nat) (K:Value->Prop):Prop where
 h:∀(a:Option Addr) (n c:Nat),G6 m a n->K (.slice a n c)
theorem dv {m:Nat}{K:Value->Prop}(h:∀(a:Option Addr) (n c:Nat),G6 m a n->K (.slice a n c)):As m K:=⟨h⟩
theorem du {K:Value->Prop}(h:∀v,K v):Av K:=⟨h⟩
theorem dw {p:Nat->Prop}{K:Nat->Nat->Prop}(h:∀bl cap,p cap->K bl cap):Ac p K:=⟨h⟩
inductive Ch (a b:Prop):Prop
 |inl (h:a)
 |inr (h:b)
inductive Bo (a b:Prop):Prop
 |inl (h:a)
 |inr (h:b)
theorem dP {a b:Prop}(h:a):Bo a b:=.inl h
theorem XQ {a b:Prop}(h:b):Bo a b:=.inr h
inductive Ia (P:Program) (ty:TypeId) (S T:TypeId) (a b:Prop):Prop
 |hit (h:∀v w,(Instr.typeAssert (.iface ty v) S T true).run P w= .ok (.tuple #[.iface ty v,.bool true]) w) (k:a)
 |miss (h:∀v w,(Instr.typeAssert (.iface ty v) S T true).run P w= .ok (.tuple #[.nilIface,.bool false]) w) (k:b)
inductive Gt (cs:List AVal) (o:Nat) (K:AVal->Prop):Prop
 |mk (a:AVal) (h:cs[o]? =some a) (ha:a.isAgg=false) (k:K a)
inductive Gs (cs:List AVal) (o sz:Nat) (K:List AVal->Prop):Prop
 |mk (c:List AVal) (h:(cs.drop o).take sz=c) (k:K c)
theorem lr {cs:List AVal}{o:Nat}{K:AVal->Prop}{a:AVal}(h:cs[o]? =some a)(ha:a.isAgg=false)(k:K a):Gt cs o K:=.mk a h ha k
theorem yF {cs:List AVal}{o sz:Nat}{K:List AVal->Prop}{c:List AVal}(h:(cs.drop o).take sz=c)(k:K c):Gs cs o sz K:=.mk c h k
theorem XL {a b:Prop}(h:b):Ch a b:=.inr h
def kQ {β:Type}:List AVal->(List AVal->β)->β
 |[],k=>k []
 |c::cs,k=>kQ cs (λr=>k (c::r))
theorem cZ {β:Type}:∀(l:List AVal) (k:List AVal->β),kQ l k=k l
 |[],_=>rfl
 |_::cs,k=>cZ cs _
def eD {β:Type}:Heap->(Heap->β)->β
 |[],k=>k []
 |c::cs,k=>eD cs (λr=>k (c::r))
theorem bA {β:Type}:∀(l:Heap) (k:Heap->β),eD l k=k l
 |[],_=>rfl
 |_::cs,k=>bA cs _
abbrev Xf:=(AVal->Prop)->Prop
def Qj:IntKind->Nat
 |.i8=>0|.i16=>1|.i32=>2|.i64=>3|.u8=>4|.u16=>5|.u32=>6|.u64=>7
theorem yl {k j:IntKind}(h:Nat.beq (Qj k) (Qj j)=true):j=k:=by
 have:=m_ h
 cases k<;>cases j<;>simp[Qj] at this<;>rfl
def P0:List (Nat×Nat×Int):=[(1,1,2),(3,2,4),(7,3,8),(15,4,16),(31,5,32),(63,6,64),(127,7,128),(255,8,256),(1023,10,1024),(4095,12,4096),(65535,16,65536)]
def A0 (c:Nat):List (Nat×Nat×Int)->Option (Nat×Int)
 |[]=>none
 |(m,e,q)::r=>match Nat.beq m c with
  |true=>some (e,q)
  |false=>A0 c r
theorem P1 {c e:Nat}{q:Int}(h:A0 c P0=some (e,q)):c=2^e-1/\CM NT e=some q:=by
 have key:∀l:List (Nat×Nat×Int),(∀x∈l,x.1=2^x.2.1-1/\CM NT x.2.1=some x.2.2)->A0 c l=some (e,q)->c=2^e-1/\CM NT e=some q:=by
  intro l;induction l with
  |nil=>intro _ h;simp[A0] at h
  |cons x r ih=>
   obtain⟨m,e',q'⟩:=x;intro hl h;simp only[A0] at h;split at h
   ·rename_i hb;have:=m_ hb;simp only[g_,aag] at h;obtain⟨rfl,rfl⟩:=h;have h1:=hl (m,e',q') (by simp);exact⟨by rw[<-this];exact h1.1,h1.2⟩
   ·exact ih (λx hx=>hl x (by simp[hx])) h
 exact key P0 b_ h
def aR (m q:Int):Prop:=(m%16=0/\q<16)\/(m%64=0/\q<64)\/(m%256=0/\q<256)\/(m%4096=0/\q<4096)\/(m%262144=0/\q<262144)
def IZ (op:BinOp)(k:IntKind)(m q:Int)(F:Prop):Xf:=λK=>
 match lR op k m q with
 |some av=>K av
 |none=>F
def JH (op:BinOp)(k:IntKind)(m q:Int)(y:Operand)(F:Prop):Xf:=λK=>
 match fp k with
 |(lo,hi)=>match op with
  |.add=>Ch (Sp (lo<=m+q/\m+q<=hi) (K (.int k (m+q)))) (K (.int k (k.wrap (m+q))))
  |.sub=>Ch (Sp (lo<=m-q/\m-q<=hi) (K (.int k (m-q)))) (K (.int k (k.wrap (m-q))))
  |.mul=>Ch (Sp (lo<=m*q/\m*q<=hi) (K (.int k (m*q)))) (K (.int k (k.wrap (m*q))))
  |.quo=>Sp (0<=m/\0<q/\m<=hi) (K (.int k (m/q)))
  |.rem=>Ch (Sp (0<=m/\0<q) (K (.int k (m%q)))) (Sp (0<q) (K (.int k (m.tmod q))))
  |.or=>Ch (Sp (0<=m/\0<=q/\m+q<=hi/\aR m q) (K (.int k (m+q)))) (IZ .or k m q F K)
  |.and=>match y with
   |.const (.int _ (.ofNat c))=>match A0 c P0 with
    |some (e,c')=>match Nat.ble (e+1) k.bits with
     |true=>Ch (Sp (0<=m/\m<=hi) (K (.int k (m%c')))) (IZ .and k m q F K)
     |false=>F
    |none=>IZ .and k m q F K
   |_=>Ch (Sp (0<=m/\0<=q/\m<=hi/\q<=hi) (K (.int k ((m.toNat&&& q.toNat:Nat):Int)))) (IZ .and k m q F K)
  |op=>match Ry op m q with
   |some av=>K av
   |none=>IZ op k m q F K
def HK (op:BinOp)(k:IntKind)(m:Int)(y:Operand)(F:Prop):Xf:=λK=>
 match y with
 |.const (.int _ (.ofNat s))=>match CM NT s with
  |some c=>match Nat.ble s k.bits with
   |true=>match fp k with
    |(lo,hi)=>match op with
     |.shl=>Ch (Sp (lo<=m*c/\m*c<=hi) (K (.int k (m*c)))) (K (.int k (k.wrap (m*c))))
     |.shr=>K (.int k (m/c))
     |_=>F
   |false=>F
  |none=>F
 |_=>F
def TS:BinOp->Bool
 |.shl=>true
 |.shr=>true
 |_=>false
section
variable (P:Program) [Tab P]
def XS (env:Env)(op:BinOp)(tx:TypeId)(x y:Operand)(F:Prop):Xf:=λK=>
 match ah env x with
 |some (.int k m)=>match TS op with
  |true=>HK op k m y F K
  |false=>match ah env y with
   |some (.int j q)=>match Nat.beq (Qj k) (Qj j) with
    |true=>JH op k m q y F K
    |false=>F
   |_=>F
 |some (.str s)=>match ah env y with
  |some (.str t)=>match op with
   |.add=>Sp (s.length+t.length<=9223372036854775807) (K (.str (s++t)))
   |_=>match HE op s t with
    |some av=>K av
    |none=>F
  |_=>F
 |some (.bool a)=>match ah env y with
  |some (.bool c)=>match bj P tx with
   |some xT=>match xT.desc,op with
    |.bool,.eql=>K (.bool (a==c))
    |_,_=>F
   |none=>F
  |_=>F
 |some a=>match y with
  |.const z=>match bj P tx with
   |some xT=>match CZ xT.desc a,qN xT.desc with
    |some c,some z'=>match op with
     |.eql=>Sp (z'=z) (K (.bool c))
     |.neq=>Sp (z'=z) (K (.bool (!c)))
     |_=>F
    |_,_=>F
   |none=>F
  |_=>F
 |none=>F
def WV (env:Env)(H:Heap)(T:TypeId)(x:Operand)(F:Prop):Xf:=λK=>
 match bj P T with
 |some xT=>match ah env x,xT.desc with
  |some (.str m),.string=>K (.int .i64 (m.length:Int))
  |some (.list _ m _),.slice _=>K (.int .i64 (m:Int))
  |some (.raw (.slice _ m _)),.slice _=>K (.int .i64 (m:Int))
  |some (.own i v),.slice _=>match H[i]? with
   |some (.row v' eT _ m _)=>Sp (v'=v) (K (.int .i64 (m:Int)))
   |_=>match v with
    |.slice _ m _=>K (.int .i64 (m:Int))
    |_=>F
  |_,_=>F
 |none=>F
def vP (env:Env)(mx:Bool)(x y:Operand)(F:Prop):Xf:=λK=>
 match ah env x,ah env y with
 |some (.int k m),some (.int j q)=>match Nat.beq (Qj k) (Qj j),mx with
  |true,false=>K (.int k (min m q))
  |true,true=>K (.int k (max m q))
  |_,_=>F
 |_,_=>F
def JC (env:Env)(H:Heap)(b:Builtin)(args:List Operand)(ts:List TypeId)(F:Prop):Xf:=λK=>
 match b,args,ts with
 |.len,[x],[T]=>WV P env H T x F K
 |.min,[x,y],_=>vP env false x y F K
 |.max,[x,y],_=>vP env true x y F K
 |_,_,_=>F
structure Sd (i:Int) (m:Nat) (K:Nat->Prop):Prop where
 p:0<=i/\i<=m
 k:K i.toNat
def ue (env:Env)(x:Operand)(F:Prop)(K:Int->Prop):Prop:=
 match ah env x with
 |some (.int _ i)=>K i
 |_=>F
def we (env:Env)(m:Nat)(lo hi:Option Operand)(F:Prop)(K0:Prop)(Kf Kt:Nat->Prop)(K:Nat->Nat->Prop):Prop:=
 match lo,hi with
 |none,none=>K0
 |some a,none=>ue env a F λi=>Sd i m Kf
 |none,some b=>ue env b F λj=>Sd j m Kt
 |some a,some b=>ue env a F λi=>ue env b F λj=>Sl i j m K
def HI (env:Env)(T:TypeId)(x:Operand)(lo hi mx:Option Operand)(F:Prop):Xf:=λK=>
 match mx with
 |some _=>F
 |none=>match bj P T with
  |some xT=>match ah env x,xT.desc with
   |some (.str m),.string=>we env m.length lo hi F (K (.str m)) (λi=>K (.str (m.drop i))) (λj=>K (.str (m.take j))) (λi j=>K (.str ((m.take j).drop i)))
   |some (.list sz m f),.slice e=>match bj P e with
    |some xe=>match Nat.beq xe.size sz with
     |true=>we env m lo hi F (K (.list sz m f)) (λi=>K (.list sz (m-i) (λk=>f (i+k)))) (λj=>K (.list sz j f)) (λi j=>K (.list sz (j-i) (λk=>f (i+k))))
     |false=>F
    |none=>F
   |_,_=>F
  |none=>F
def IT (env:Env)(T:TypeId)(x y:Operand)(F:Prop):Xf:=λK=>
 match bj P T with
 |some xT=>match ah env x,xT.desc with
  |some (.str m),.string=>ue env y F λi=>Ix i m.length λj=>Bx m j (K (.int .u8 (aa m j:Int)))
  |_,_=>F
 |none=>F
def ph:List (Nat×List AVal)->Nat->Option (List AVal)
 |[],_=>none
 |(g,cs)::r,k=>match Nat.beq g k with
  |true=>some cs
  |false=>ph r k
def GJ (ag:Bool)(sz:Nat)(cs:List AVal)(o:Nat)(F:Prop):Xf:=λK=>
 match ag with
 |true=>match Nat.ble (o+sz) cs.length with
  |true=>kQ ((cs.drop o).take sz) λc=>K (.agg c)
  |false=>F
 |false=>match cs[o]? with
  |some av=>match av.isAgg with
   |false=>K av
   |true=>F
  |none=>F
def FF (GL:List (Nat×List AVal))(env:Env)(H:Heap)(T:TypeId)(x:Operand)(F:Prop):Xf:=λK=>
 match bj P T with
 |some xT=>match x with
  |.global g=>match ph GL g with
   |some cs=>GJ (cv xT.desc) xT.size cs 0 F K
   |none=>F
  |_=>match ah env x with
   |some (.rop cs off)=>GJ (cv xT.desc) xT.size cs off F K
   |some (.own i (.pointer (some ⟨b,o,none⟩)))=>match H[i]? with
    |some (.cells b' eT cs)=>Sp (b'=b) (GJ (cv xT.desc) xT.size cs o F K)
    |some (.buf b' s _)=>match cv xT.desc with
     |false=>Sp (b'=b/\o<s.length) (Bx s o (K (.int .u8 (aa s o:Int))))
     |true=>F
    |some (.row v' _ sz n cs)=>match cv xT.desc with
     |false=>Sp (bZ v' b n/\o<n*sz) (Gt cs o K)
     |true=>Sp (bZ v' b n/\o+xT.size<=n*sz/\0<n) (Gs cs o xT.size λc=>K (.agg c))
    |_=>F
   |_=>F
 |none=>F
def lX (env:Env)(T:TypeId)(x:Operand)(k:Nat)(F:Prop):Xf:=λK=>
 match bj P T with
 |some xT=>match xT.desc with
  |.struct fs=>match fs[k]? with
   |some f=>match bj P f.type with
    |some xf=>match Nat.ble 1 xf.size with
     |true=>match ah env x with
      |some (.rop cs off)=>K (.rop cs (off+f.offset))
      |some (.own i (.pointer (some ⟨b,o,none⟩)))=>K (.own i (.pointer (some ⟨b,o+f.offset,none⟩)))
      |_=>F
     |false=>F
    |none=>F
   |none=>F
  |_=>F
 |none=>F
def Q6 (a:AVal)(F:Prop):Xf:=λK=>
 match a with
 |.agg cs=>kQ cs λc=>K (.rop c 0)
 |.raw (.agg _)=>F
 |a=>K (.rop [a] 0)
def iI (GL:List (Nat×List AVal))(env:Env)(T:TypeId)(x y:Operand)(F:Prop):Xf:=λK=>
 match bj P T with
 |some xT=>match xT.desc with
  |.slice e=>match bj P e with
   |some xe=>match ah env x with
    |some (.list sz m f)=>match Nat.beq xe.size sz with
     |true=>ue env y F λi=>Ix i m λj=>Q6 (f j) F K
     |false=>F
    |some (.own i (.slice (some ⟨b,0,none⟩) m _))=>match Nat.beq xe.size 1 with
     |true=>ue env y F λk=>Ix k m λj=>K (.own i (.pointer (some ⟨b,j,none⟩)))
     |false=>ue env y F λk=>Ix k m λj=>K (.own i (.pointer (some ⟨b,j*xe.size,none⟩)))
    |_=>F
   |none=>F
  |.array len e=>match bj P e with
   |some xe=>match x with
    |.global g=>match ph GL g with
     |some cs=>ue env y F λi=>Ix i len λj=>K (.rop cs (j*xe.size))
     |none=>F
    |_=>match ah env x with
     |some (.own i (.pointer (some ⟨b,o,none⟩)))=>ue env y F λk=>Ix k len λj=>K (.own i (.pointer (some ⟨b,o+j*xe.size,none⟩)))
     |some (.rop cs off)=>ue env y F λk=>Ix k len λj=>K (.rop cs (off+j*xe.size))
     |_=>F
   |none=>F
  |_=>F
 |none=>F
def Jb (env:Env)(T:TypeId)(x:Operand)(k:Nat)(F:Prop):Xf:=λK=>
 match bj P T with
 |some xT=>match xT.desc with
  |.struct fs=>match fs[k]? with
   |some f=>match bj P f.type with
    |some xf=>match ah env x with
     |some (.agg cs)=>match cv xf.desc with
      |true=>kQ ((cs.drop f.offset).take xf.size) λc=>K (.agg c)
      |false=>match cs[f.offset]? with
       |some av=>match av.isAgg with
        |false=>K av
        |true=>F
       |none=>F
     |_=>F
    |none=>F
   |none=>F
  |_=>F
 |none=>F
def p7 (env:Env)(x:Operand)(F:Prop):Xf:=λK=>
 match ah env x with
 |some (.rop cs off)=>K (.rop cs off)
 |some (.own i (.pointer (some a)))=>K (.own i (.pointer (some a)))
 |_=>F
def Rs (env:Env)(H:Heap)(S T:TypeId)(x:Operand)(F:Prop):Xf:=λK=>
 match bj P S,bj P T with
 |some xS,some xT=>match ah env x with
  |some (.int k m)=>match xT.desc with
   |.int j=>match fp j with
    |(lo,hi)=>Ch (Sp (lo<=m/\m<=hi) (K (.int j m))) (K (.int j (j.wrap m)))
   |_=>F
  |some (.own i (.slice (some ⟨b,0,none⟩) m _))=>match xS.desc,xT.desc with
   |.slice e,.string=>match bj P e with
    |some xe=>match xe.desc with
     |.int .u8=>match H[i]? with
      |some (.buf b' s _)=>Sp (b'=b/\m=s.length) (K (.str s))
      |_=>F
     |_=>F
    |none=>F
   |_,_=>F
  |_=>F
 |_,_=>F
def uv (env:Env)(T:TypeId)(l:List (Nat×Operand))(F:Prop):Xf:=λK=>
 match bj P T with
 |some xT=>match xT.desc with
  |.struct fs=>match jr env l,nP P fs.toList,bK xT.zero with
   |some ps,some pl,some z=>match qQ pl z ps with
    |some cs=>kQ cs λc=>K (.agg c)
    |none=>F
   |_,_,_=>F
  |.array m e=>match jr env l,bj P e,bK xT.zero with
   |some ps,some xe,some z=>match qQ (uZ m 0 xe.size) z ps with
    |some cs=>kQ cs λc=>K (.agg c)
    |none=>F
   |_,_,_=>F
  |_=>F
 |none=>F
def ug (env:Env)(T:TypeId)(x:Operand)(F:Prop):Xf:=λK=>
 match bj P T,ah env x with
 |some xT,some v=>match gQ xT.desc with
  |false=>K (.iface T v)
  |true=>F
 |_,_=>F
def DD (env:Env)(x:Operand)(S T:TypeId)(ok:Bool)(F:Prop):Xf:=λK=>
 match ok,bj P T with
 |true,some xT=>match ah env x with
  |some (.iface ty v)=>match gQ xT.desc,Nat.beq ty T with
   |false,true=>K (.tuple [v,.bool true])
   |false,false=>match wz xT.zero with
    |some z=>K (.tuple [z,.bool false])
    |none=>F
   |true,_=>Ia P ty S T (K (.tuple [.iface ty v,.bool true])) (K (.tuple [.raw .nilIface,.bool false]))
  |some (.raw .nilIface)=>match wz xT.zero with
   |some z=>K (.tuple [z,.bool false])
   |none=>F
  |_=>F
 |_,_=>F
def D6 (GL:List (Nat×List AVal))(env:Env)(H:Heap)(op:Op)(F:Prop):Xf:=λK=>
 match op with
 |.move x|.assign x=>match ah env x with
  |some av=>K av
  |none=>F
 |.pick c x y=>match ah env c,ah env x,ah env y with
  |some (.bool b),some a,some a'=>Sc b (K a) (K a')
  |_,_,_=>F
 |.binOp op tx x y _=>XS P env op tx x y F K
 |.unOp .not _ x=>match ah env x with
  |some (.bool b)=>K (.bool (!b))
  |_=>F
 |.unOp .neg _ x=>match ah env x with
  |some (.int k m)=>match fp k with
   |(lo,hi)=>Sp (lo<=0-m/\0-m<=hi) (K (.int k (0-m)))
  |_=>F
 |.call ⟨.builtin b,args,ts⟩=>JC P env H b args.toList ts.toList F K
 |.extract x i=>match ah env x with
  |some (.tuple cs)=>match cs[i]? with
   |some av=>K av
   |none=>F
  |_=>F
 |.index T x y=>IT P env T x y F K
 |.slice T x lo hi mx=>HI P env T x lo hi mx F K
 |.load T x=>FF P GL env H T x F K
 |.fieldAddr T x k=>lX P env T x k F K
 |.field T x k=>Jb P env T x k F K
 |.indexAddr T x y=>iI P GL env T x y F K
 |.nilCheck x=>p7 env x F K
 |.convert S T x=>Rs P env H S T x F K
 |.build T l=>uv P env T l.toList F K
 |.makeInterface T x=>ug P env T x F K
 |.makeFunc fn l1 l2=>match kH env l1.toList,kH env l2.toList with
  |some a1,some a2=>K (.func fn a1 a2)
  |_,_=>F
 |.typeAssert x S T ok=>DD P env x S T ok F K
 |_=>F
end
theorem Wc {i m:Nat}{K:Nat->Prop}(h:i<=m)(k:K i):Sd (i:Int) m K:=⟨⟨a_,a_⟩,by simpa using k⟩
theorem Wd {i:Int}{m:Nat}{K:Nat->Prop}(h:0<=i/\i<=m)(k:K i.toNat):Sd i m K:=⟨h,k⟩
section
variable {P:Program} [Tab P] {C:Ctx} {n:Nat} {env:Env} {H:Heap} {F:Prop} {K:AVal->Prop}
variable {av:AVal} {x y:Operand} {T:TypeId} {xT:TI} {tx ty:TypeId}
def ab (G:Glo)(GL:List (Nat×List AVal)):Prop:=∀g cs,ph GL g=some cs->LN G g cs
theorem al {G:Glo}:ab G []:=λ_ _ h=>by simp[ph] at h
theorem eS {op:Op}{s i:Nat}{v:Value}(hs:Env.get env s=some (.own i v))(h:bE P C H ((s,.raw v)::env) op av):bE P C H env op av:=by
 intro R ρ w hm hf;refine h R ρ w hm λx a hx=> ?_;cases x with
 |tmp t=>
  simp only[ah,Env.get] at hx;split at hx
  ·rename_i hb;have:=m_ hb;subst this;simp only[g_] at hx;subst hx;exact aq.2 (aE.1 (hf (.tmp s) _ hs)).1
  ·exact hf (.tmp t) a hx
 |const c=>rw[gE] at hx;exact hf (.const c) a (by rw[gE];exact hx)
 |global g=>exact hf (.global g) a hx
 |func f=>exact hf (.func f) a hx
theorem mv {i:Nat}{v:Value}(h:ah env x=some (.own i v)):∃s,x= .tmp s/\Env.get env s=some (.own i v):=by
 cases x with
 |tmp t=>exact⟨t,rfl,h⟩
 |const c=>cases c<;>simp[ah,KB,ul] at h
 |global g=>simp[ah] at h
 |func f=>simp[ah] at h
theorem iB {s:Nat}{a:AVal}:Env.get ((s,a)::env) s=some a:=by simp[Env.get]
theorem Tc (hx:ah env x=some av):bE P C H env (.move x) av:=λR ρ w hm hf _ _ _ _ _=>⟨ρ x,rfl,hf _ _ hx⟩
theorem Mg (hx:ah env x=some av):bE P C H env (.assign x) av:=λR ρ w hm hf _ _ _ _ _=>⟨ρ x,rfl,hf _ _ hx⟩
theorem Tb {c:Operand}{b:Bool}{a a':AVal}(hc:ah env c=some (.bool b))(hx:ah env x=some a)(hy:ah env y=some a'):bE P C H env (.pick c x y) (if b then a else a'):=by
 intro R ρ w hm hf _ _ _ _ _;have:=aO.1 (hf _ _ hc);cases b
 ·exact⟨ρ y,by simp only[execOp,this,asBool];rfl,hf _ _ hy⟩
 ·exact⟨ρ x,by simp only[execOp,this,asBool];rfl,hf _ _ hx⟩
theorem jz {k:IntKind}{m lo hi:Int}(hk:fp k=(lo,hi))(h:lo<=m/\m<=hi):gY k m:=Y3 hk h.1 h.2
theorem Td {k:IntKind}{j:IntKind}{m c:Int}{e:Nat}(hx:ah env x=some (.int k m))(hj:j=k)(hm:0<=m)(hm':gY k m)(he:Nat.ble (e+1) k.bits=true)(hc:CM NT e=some c):
    bE P C H env (.binOp .and tx x (.const (.int j (Int.ofNat (2^e-1)))) ty) (.int k (m%c)):=by
  subst hj;have he:=v_ he;have hq:gY j (Int.ofNat (2^e-1)):=by
    have hp:0<2^e:=Nat.pow_pos a_
    have key:∀b,e+1<=b->2^e<=2^(b-1):=λb hb=>Nat.pow_le_pow_right a_ a_
    have:=key _ he
    cases j<;>simp only[IntKind.bits] at this he<;>simp only[gY,Int.ofNat_eq_natCast]<;>first|omega|(have:2^e<=2^8:=Nat.pow_le_pow_right a_ a_
                                                                                                                      omega)
  have e1:((m.toNat&&& (Int.ofNat (2^e-1)).toNat:Nat):Int)=m%(2^e:Nat):=by
    obtain⟨a,rfl⟩:=Int.eq_ofNat_of_zero_le hm
    simp only[B_,Int.ofNat_eq_natCast,Nat.and_two_pow_sub_one_eq_mod]
    simp
  refine lJ hx (show ah env (.const (.int j (Int.ofNat (2^e-1))))=_ from rfl) ?_
  rw[lR,Dy (λ_ a c=>a&&& c) (· &&& ·) (λa c=>by simp) (λa c e h1 h2=>Nat.and_lt_two_pow a h2) hm (by simp) hm' hq,e1,E1 hc]
theorem Md {k:IntKind}{a q c:Int}{e:Nat}(hc:CM NT e=some c)(hx:ah env x=some (.int k (a*c)))(hy:ah env y=some (.int k q))(ha:0<=a)(hq:0<=q)(hq':q<c)(hw:gY k (a*c+q)):
  bE P C H env (.binOp .or tx x y ty) (.int k (a*c+q)):=by
 rw[<-E1 hc] at hx hq' hw ⊢;obtain⟨a,rfl⟩:=Int.eq_ofNat_of_zero_le ha;obtain⟨q,rfl⟩:=Int.eq_ofNat_of_zero_le hq;have h0:(0:Int)<=(a:Int)*(2^e:Nat):=Int.mul_nonneg ha (Int.natCast_nonneg _);have h1:gY k (a*(2^e:Nat)):=by cases k<;>simp only[gY] at hw ⊢ <;>omega
 have h2:gY k (q:Int):=by cases k<;>simp only[gY] at hw ⊢ <;>omega
 have e1:((((a:Int)*(2^e:Nat)).toNat|||(q:Int).toNat:Nat):Int)=(a:Int)*(2^e:Nat)+q:=by
  rw[<-Int.natCast_mul,B_,B_,<-Nat.shiftLeft_eq,<-Nat.shiftLeft_add_eq_or_of_lt a_];rw[Nat.shiftLeft_eq];simp
 refine lJ hx hy ?_;rw[lR,Dy (λ_ a c=>a|||c) (· ||| ·) (λa c=>by simp) (λa c e h1 h2=>Nat.or_lt_two_pow h1 h2) h0 hq h1 h2,e1]
theorem m9 {k:IntKind}{m q c:Int}(e:Nat)(hc:CM NT e=some c)(hx:ah env x=some (.int k m))(hy:ah env y=some (.int k q))(hm:0<=m)(hd:m%c=0)(hq:0<=q)(hq':q<c)(hw:gY k (m+q)):
  bE P C H env (.binOp .or tx x y ty) (.int k (m+q)):=by
 have e1:m=m/c*c:=by have:=Int.mul_ediv_add_emod m c;rw[hd] at this;rw[Int.mul_comm];omega
 rw[e1] at hx hw ⊢;exact Md hc hx hy (Int.ediv_nonneg hm a_) hq hq' hw
theorem sB {op:BinOp}{k:IntKind}{m q:Int}(hx:ah env x=some (.int k m))(hy:ah env y=some (.int k q))(h:IZ op k m q F K):
  F\/∃av,bE P C H env (.binOp op tx x y ty) av/\K av:=by
 unfold IZ at h;split at h
 ·rename_i av ho;exact .inr ⟨av,lJ hx hy ho,h⟩
 ·exact .inl h
theorem S9 {k:IntKind}{m q:Int}(hx:ah env x=some (.int k m))(hy:ah env y=some (.int k q))(hq:0<q):bE P C H env (.binOp .rem tx x y ty) (.int k (m.tmod q)):=by
 intro R ρ w _hm hf dst t p af g;refine⟨_,?_,ap.2 rfl⟩;simp only[execOp,ap.1 (hf _ _ hx),ap.1 (hf _ _ hy),Go.binOp,eqGuard,Op.intDiv,aan,aao,aaq];rw[if_neg (show ¬q=0 by omega)];rfl
theorem ND {op:BinOp}{k:IntKind}{m q:Int}(hx:ah env x=some (.int k m))(hy:ah env y=some (.int k q))(h:JH op k m q y F K):
  F\/∃av,bE P C H env (.binOp op tx x y ty) av/\K av:=by
 unfold JH at h;generalize hb:fp k=bd at h;obtain⟨lo,hi⟩:=bd;dsimp only at h;split at h
 ·rcases h with h|h
  ·exact .inr ⟨_,lJ hx hy (by rw[lR,iS (jz hb h.1)]),h.2⟩
  ·exact .inr ⟨_,lJ hx hy rfl,h⟩
 ·rcases h with h|h
  ·exact .inr ⟨_,lJ hx hy (by rw[lR,iS (jz hb h.1)]),h.2⟩
  ·exact .inr ⟨_,lJ hx hy rfl,h⟩
 ·rcases h with h|h
  ·exact .inr ⟨_,lJ hx hy (by rw[lR,iS (jz hb h.1)]),h.2⟩
  ·exact .inr ⟨_,lJ hx hy rfl,h⟩
 ·refine .inr ⟨_,Wo hx hy h.1.1 h.1.2.1 (jz hb ⟨?_,h.1.2.2⟩),h.2⟩;have h0:=h.1.1;cases k<;>simp only[fp,aag] at hb<;>omega
 ·rcases h with h|h
  ·exact .inr ⟨_,Wn hx hy h.1.1 h.1.2,h.2⟩
  ·exact .inr ⟨_,S9 hx hy h.1,h.2⟩
 ·rcases h with h|h
  rotate_left
  ·exact sB hx hy h
  obtain⟨⟨h0,h1,h2,h3⟩,hk⟩:=h;have hw:gY k (m+q):=jz hb ⟨by cases k<;>simp only[fp,aag] at hb<;>omega,h2⟩;rcases h3 with h3|h3|h3|h3|h3
  ·exact .inr ⟨_,m9 4 rfl hx hy h0 h3.1 h1 h3.2 hw,hk⟩
  ·exact .inr ⟨_,m9 6 rfl hx hy h0 h3.1 h1 h3.2 hw,hk⟩
  ·exact .inr ⟨_,m9 8 rfl hx hy h0 h3.1 h1 h3.2 hw,hk⟩
  ·exact .inr ⟨_,m9 12 rfl hx hy h0 h3.1 h1 h3.2 hw,hk⟩
  ·exact .inr ⟨_,m9 18 rfl hx hy h0 h3.1 h1 h3.2 hw,hk⟩
 ·split at h
  ·rename_i j c;split at h
   ·rename_i e c' he;split at h
    ·rename_i hbit;rcases h with h|h
     rotate_left
     ·exact sB hx hy h
     obtain⟨rfl,hp⟩:=P1 he;simp only[ah,KB,g_,AVal.int.injEq] at hy;refine .inr ⟨_,Td hx hy.1 h.1.1 (jz hb ⟨?_,h.1.2⟩) hbit hp,h.2⟩;have h0:=h.1.1;cases k<;>simp only[fp,aag] at hb<;>omega
    ·exact .inl h
   ·exact sB hx hy h
  ·rcases h with h|h
   rotate_left
   ·exact sB hx hy h
   obtain⟨⟨h0,h1,h2,h3⟩,hk⟩:=h;have hm:gY k m:=jz hb ⟨by cases k<;>simp only[fp,aag] at hb<;>omega,h2⟩;have hq:gY k q:=jz hb ⟨by cases k<;>simp only[fp,aag] at hb<;>omega,h3⟩;refine .inr ⟨_,lJ hx hy ?_,hk⟩;rw[lR,Dy (λ_ a c=>a&&& c) (· &&& ·) (λa c=>by simp) (λa c e h1 h2=>Nat.and_lt_two_pow a h2) h0 h1 hm hq]
 ·split at h
  ·rename_i av hc;refine .inr ⟨av,lJ hx hy ?_,h⟩;revert hc
   unfold Ry lR;split<;>simp
  ·exact sB hx hy h
theorem Mc {op:BinOp}{k:IntKind}{m:Int}(hx:ah env x=some (.int k m))(h:HK op k m y F K):
  F\/∃av,bE P C H env (.binOp op tx x y ty) av/\K av:=by
 unfold HK at h;split at h
 ·split at h
  ·rename_i c hc;split at h
   ·rename_i hb;generalize hbd:fp k=bd at h;obtain⟨lo,hi⟩:=bd;dsimp only at h;split at h
    ·rcases h with h|h
     ·exact .inr ⟨_,Wl hx hb hc (jz hbd h.1),h.2⟩
     ·exact .inr ⟨_,Ey hx hb hc,h⟩
    ·exact .inr ⟨_,Wj hx hb hc,h⟩
    ·exact .inl h
   ·exact .inl h
  ·exact .inl h
 ·exact .inl h
theorem UG {op:BinOp}(h:XS P env op tx x y F K):F\/∃av,bE P C H env (.binOp op tx x y ty) av/\K av:=by
 unfold XS at h;split at h
 ·rename_i k m hx;split at h
  ·exact Mc hx h
  ·split at h
   ·rename_i j q hy;split at h
    ·rename_i hk;have:=yl hk;subst this;exact ND hx hy h
    ·exact .inl h
   ·exact .inl h
 ·rename_i s hx;split at h
  ·rename_i t hy;split at h
   ·exact .inr ⟨_,Wt hx hy h.1,h.2⟩
   ·split at h
    ·rename_i av hs;exact .inr ⟨av,Wi hx hy hs,h⟩
    ·exact .inl h
  ·exact .inl h
 ·rename_i a hx;split at h
  ·rename_i c hy;split at h
   ·rename_i xT ht;split at h
    ·rename_i hd;exact .inr ⟨_,Wu hx hy (by rw[bR ht,hd]),h⟩
    ·exact .inl h
   ·exact .inl h
  ·exact .inl h
 ·rename_i a _ _ _ hx;split at h
  ·rename_i z;split at h
   ·rename_i xT ht;split at h
    ·rename_i c z' h1 h2;split at h
     ·obtain⟨rfl,h⟩:=h;exact .inr ⟨_,Mf hx ht h1 h2,h⟩
     ·obtain⟨rfl,h⟩:=h;exact .inr ⟨_,Me hx ht h1 h2,h⟩
     ·exact .inl h
    ·exact .inl h
   ·exact .inl h
  ·exact .inl h
 ·exact .inl h
def Hh (P:Program)(C:Ctx)(H:Heap)(env:Env)(op:Op)(F:Prop)(K:AVal->Prop):Prop:=F\/∃av,bE P C H env op av/\K av
theorem dE {α:Type}{a:Array α}{l:List α}(h:a.toList=l):a=l.toArray:=by rw[<-h]
theorem TP (h:WV P env H T x F K):Hh P C H env (.call {callee:=.builtin .len,args:=[x].toArray,argTypes:=[T].toArray}) F K:=by
 unfold WV at h;split at h
 ·rename_i xT ht;split at h
  ·rename_i m hx hd;exact .inr ⟨_,HS hx ht hd,h⟩
  ·rename_i m f e hx hd;exact .inr ⟨_,EF hx ht hd,h⟩
  ·rename_i m cap e hx hd;exact .inr ⟨_,xj hx ht hd,h⟩
  ·rename_i i v e hx hd;obtain⟨s,rfl,hs⟩:=mv hx;split at h
   ·rename_i v' sz m cs hi;obtain⟨rfl,h⟩:=h;exact .inr ⟨_,eS hs (HT (by simp only[ah];exact iB) hi ht hd),h⟩
   ·split at h
    ·exact .inr ⟨_,eS hs (xj (by simp only[ah];exact iB) ht hd),h⟩
    ·exact .inl h
  ·exact .inl h
 ·exact .inl h
theorem xY {mx:Bool}{ts:Array TypeId}(h:vP env mx x y F K):Hh P C H env (.call {callee:=.builtin (if mx then .max else .min),args:=[x,y].toArray,argTypes:=ts}) F K:=by
 unfold vP at h;split at h
 ·rename_i k m j q hx hy;split at h
  ·rename_i hk;have:=yl hk;subst this;exact .inr ⟨_,Wr hx hy,h⟩
  ·rename_i hk;have:=yl hk;subst this;exact .inr ⟨_,Ws hx hy,h⟩
  ·exact .inl h
 ·exact .inl h
theorem Nw {b:Builtin}{args:Array Operand}{ts:Array TypeId}(h:JC P env H b args.toList ts.toList F K):Hh P C H env (.call {callee:=.builtin b,args:=args,argTypes:=ts}) F K:=by
 unfold JC at h;split at h
 ·rename_i h1 h2;rw[dE h1,dE h2];exact TP h
 ·rename_i h1;rw[dE h1];exact xY (mx:=false) h
 ·rename_i h1;rw[dE h1];exact xY (mx:=true) h
 ·exact .inl h
theorem gP {K:Int->Prop}(h:ue env x F K):F\/∃k i,ah env x=some (.int k i)/\K i:=by
 unfold ue at h;split at h
 ·rename_i k i hx;exact .inr ⟨k,i,hx,h⟩
 ·exact .inl h
theorem zb {m:Nat}{lo hi:Option Operand}{K0:Prop}{Kf Kt:Nat->Prop}{K:Nat->Nat->Prop}(h:we env m lo hi F K0 Kf Kt K):
  F\/∃i j,iP env 0 lo=some i/\iP env (m:Int) hi=some j/\0<=i/\i<=j/\j<=m/\
   ((lo=none/\hi=none/\i=0/\j=m/\K0)\/(hi=none/\j=m/\Kf i.toNat)\/(lo=none/\i=0/\Kt j.toNat)\/K i.toNat j.toNat):=by
 unfold we at h;split at h
 ·exact .inr ⟨0,m,rfl,rfl,Int.le_refl _,a_,Int.le_refl _,.inl ⟨rfl,rfl,rfl,rfl,h⟩⟩
 ·rcases gP h with h|⟨k,i,hx,h,h'⟩
  ·exact .inl h
  ·exact .inr ⟨i,m,by simp only[iP,hx],rfl,h.1,h.2,Int.le_refl _,.inr (.inl ⟨rfl,rfl,h'⟩)⟩
 ·rcases gP h with h|⟨k,j,hx,h,h'⟩
  ·exact .inl h
  ·exact .inr ⟨0,j,rfl,by simp only[iP,hx],Int.le_refl _,h.1,h.2,.inr (.inr (.inl ⟨rfl,rfl,h'⟩))⟩
 ·rcases gP h with h|⟨k,i,hx,h⟩
  ·exact .inl h
  ·rcases gP h with h|⟨k',j,hy,h,h'⟩
   ·exact .inl h
   ·exact .inr ⟨i,j,by simp only[iP,hx],by simp only[iP,hy],h.1,h.2.1,h.2.2,.inr (.inr (.inr h'))⟩
theorem Ma {lo hi mx:Option Operand}(h:HI P env T x lo hi mx F K):Hh P C H env (.slice T x lo hi mx) F K:=by
 unfold HI at h;split at h
 ·exact .inl h
 ·split at h
  ·rename_i xT ht;split at h
   ·rename_i m hx hd;rcases zb h with h|⟨i,j,h1,h2,h3,h4,h5,h6⟩
    ·exact .inl h
    ·have hr:=Ce (P:=P) (C:=C) (H:=H) hx ht hd h1 h2 h3 h4 h5;rcases h6 with⟨_,_,rfl,rfl,h6⟩|⟨_,rfl,h6⟩|⟨_,rfl,h6⟩|h6
     ·simp only[B_,List.take_length,Int.toNat_zero,aa_] at hr;exact .inr ⟨_,hr,h6⟩
     ·simp only[B_,List.take_length] at hr;exact .inr ⟨_,hr,h6⟩
     ·simp only[Int.toNat_zero,aa_] at hr;exact .inr ⟨_,hr,h6⟩
     ·exact .inr ⟨_,hr,h6⟩
   ·rename_i sz m f e hx hd;split at h
    ·rename_i xe he;split at h
     ·rename_i hs;rcases zb h with h|⟨i,j,h1,h2,h3,h4,h5,h6⟩
      ·exact .inl h
      ·have hr:=zz (P:=P) (C:=C) (H:=H) hx ht hd he (m_ hs) h1 h2 h3 h4 h5;rcases h6 with⟨_,_,rfl,rfl,h6⟩|⟨_,rfl,h6⟩|⟨_,rfl,h6⟩|h6
       ·simp only[B_,Int.toNat_zero,Nat.sub_zero,Nat.zero_add] at hr;exact .inr ⟨_,hr,h6⟩
       ·simp only[B_] at hr;exact .inr ⟨_,hr,h6⟩
       ·simp only[Int.toNat_zero,Nat.sub_zero,Nat.zero_add] at hr;exact .inr ⟨_,hr,h6⟩
       ·exact .inr ⟨_,hr,h6⟩
     ·exact .inl h
    ·exact .inl h
   ·exact .inl h
  ·exact .inl h
theorem MT (h:IT P env T x y F K):Hh P C H env (.index T x y) F K:=by
 unfold IT at h;split at h
 ·rename_i xT ht;split at h
  ·rename_i m hx hd;rcases gP h with h|⟨k,i,hy,h,h'⟩
   ·exact .inl h
   ·exact .inr ⟨_,Cj hx hy ht hd h.1 h.2,h'.h (bB _ _)⟩
  ·exact .inl h
 ·exact .inl h
theorem sX {ag:Bool}{sz:Nat}{cs:List AVal}{o:Nat}(h:GJ ag sz cs o F K):
  F\/(ag=true/\o+sz<=cs.length/\K (.agg ((cs.drop o).take sz)))\/(ag=false/\∃av,cs[o]? =some av/\av.isAgg=false/\K av):=by
 unfold GJ at h;split at h
 ·split at h
  ·rename_i hb;rw[cZ] at h;exact .inr (.inl ⟨rfl,v_ hb,h⟩)
  ·exact .inl h
 ·split at h
  ·rename_i av hc;split at h
   ·rename_i ha;exact .inr (.inr ⟨rfl,av,hc,ha,h⟩)
   ·exact .inl h
  ·exact .inl h
theorem EE {i b o cap:Nat}{s:ω}(hx:ah env x=some (.raw (.pointer (some ⟨b,o,none⟩))))(hi:H[i]? =some (.buf b s cap))(ht:bj P T=some xT)(ha:cv xT.desc=false)(ho:o<s.length):
  bE P C H env (.load T x) (.int .u8 (aa s o:Int)):=by
 intro R ρ w hm hf dst t p af g;obtain⟨_,Cs,el,fz,hb,hl,_⟩:=hm.heap.holds _ (q_ hi);obtain⟨v,hv,hr⟩:=fy hl (PA (cap:=cap) ho);refine⟨v,?_,cT hr rfl⟩;have hcell:w.cell? ⟨b,o,none⟩=some v:=by simp only[World.cell?,hb];simpa using hv
 simp only[execOp,aq.1 (hf _ _ hx),Instr.loadAt,Instr.sureAddr,e_,h_,c_,iX ht ha hcell]
theorem tu {g:Nat}{cs:List AVal}(hG:LN C.G g cs)(ht:bj P T=some xT)(ha:cv xT.desc=true)(hc:0+xT.size<=cs.length):
  bE P C H env (.load T (.global g)) (.agg ((cs.drop 0).take xT.size)):=by
 intro R ρ w hm hf dst t p af g';have hr:=aq.1 (hf (.global g) _ rfl);obtain⟨Cs,el,fz,hR,hl⟩:=hG R hm.glo;have hlen:=aJ hl;simp only[i_,k_,r_] at hlen;refine⟨.agg ((Cs.toList.drop 0).take xT.size).toArray,?_,?_,rfl⟩
 ·simp only[execOp,hr,Instr.loadAt,Instr.sureAddr,e_,h_,c_];by_cases hz:xT.size=0
  ·simp only[loadVar,e_,dX ht,ha,aap,aM ht,loadCells,hz,loadCellsFrom,c_];simp
  ·rw[pb ht ha (hm.sealed _ _ hR) a_];simp only[c_]
 ·have:=di xT.size (dz 0 hl);simp only[Value.cells,bI];rw[aa_] at this ⊢;simp only[aa_] at this ⊢;rw[R_,Nat.min_eq_left a_] at this;simpa using this
theorem Qc {GL:List (Nat×List AVal)}(hGL:ab C.G GL)(h:FF P GL env H T x F K):Hh P C H env (.load T x) F K:=by
 unfold FF at h;split at h
 ·rename_i xT ht;split at h
  ·rename_i g;split at h
   ·rename_i cs hg;rcases sX h with h|⟨ha,hc,h⟩|⟨ha,av,hc,hav,h⟩
    ·exact .inl h
    ·exact .inr ⟨_,tu (hGL _ _ hg) ht ha hc,h⟩
    ·exact .inr ⟨_,Ci (hGL _ _ hg) ht ha hc hav,h⟩
   ·exact .inl h
  ·split at h
   ·rename_i cs off hx;rcases sX h with h|⟨ha,hc,h⟩|⟨ha,av,hc,hav,h⟩
    ·exact .inl h
    ·exact .inr ⟨_,vj hx ht ha hc,h⟩
    ·exact .inr ⟨_,EC hx ht ha hc hav,h⟩
   ·rename_i i b o hx;obtain⟨s,rfl,hs⟩:=mv hx;split at h
    ·rename_i b' cs hi;obtain⟨rfl,h⟩:=h;rcases sX h with h|⟨ha,hc,h⟩|⟨ha,av,hc,hav,h⟩
     ·exact .inl h
     ·exact .inr ⟨_,eS hs (vl (by simp only[ah];exact iB) hi ht ha hc),h⟩
     ·exact .inr ⟨_,eS hs (ED (by simp only[ah];exact iB) hi ht ha hc hav),h⟩
    ·rename_i b' s' cap hi;split at h
     ·rename_i ha;obtain⟨⟨rfl,ho⟩,h⟩:=h;exact .inr ⟨_,eS hs (EE (by simp only[ah];exact iB) hi ht ha ho),h.h (bB _ _)⟩
     ·exact .inl h
    ·rename_i v' _ sz n0 cs hi;split at h
     ·rename_i ha;obtain⟨⟨hr,ho⟩,⟨a,hc,hav,k⟩⟩:=h;exact .inr ⟨_,eS hs (EB (by simp only[ah];exact iB) hi hr ho ht ha hc hav),k⟩
     ·rename_i ha;obtain⟨⟨hr,ho,h0⟩,⟨c,hc,k⟩⟩:=h;exact .inr ⟨_,eS hs (vi (by simp only[ah];exact iB) hi hr ho h0 ht ha hc),k⟩
    ·exact .inl h
   ·exact .inl h
 ·exact .inl h
theorem z8 {k:Nat}(h:lX P env T x k F K):Hh P C H env (.fieldAddr T x k) F K:=by
 unfold lX at h;split at h
 ·rename_i xT ht;split at h
  ·rename_i fs hd;split at h
   ·rename_i f hf;split at h
    ·rename_i xf hxf;split at h
     ·rename_i hb;split at h
      ·rename_i cs off hx;exact .inr ⟨_,tA hx ht hd hf hxf hb,h⟩
      ·rename_i i b o hx;obtain⟨s,rfl,hs⟩:=mv hx;refine .inr ⟨_,?_,h⟩;have:=tB (P:=P) (C:=C) (H:=H) (env:=(s,.raw (.pointer (some ⟨b,o,none⟩)))::env) (x:=.tmp s) (by simp only[ah];exact iB) ht hd hf hxf hb;intro R ρ w hm hr dst t p af g;obtain⟨v,h1,h2⟩:=eS hs this R ρ w hm hr dst t p af g;exact⟨v,h1,aE.2 ⟨aq.1 h2,rfl⟩⟩
      ·exact .inl h
     ·exact .inl h
    ·exact .inl h
   ·exact .inl h
  ·exact .inl h
 ·exact .inl h
theorem Gu {a:AVal}(h:Q6 a F K):F\/(a.plain=true/\K (.rop a.cells 0)):=by
 unfold Q6 at h;split at h
 ·rw[cZ] at h;exact .inr ⟨rfl,h⟩
 ·exact .inl h
 ·rename_i h1 h2;refine .inr ⟨?_,?_⟩
  ·cases a<;>first|rfl|skip
   rename_i v;cases v<;>first|rfl|(exact absurd rfl (h2 _))
  ·cases a<;>first|exact h|(exact absurd rfl (h1 _))
theorem j9 {op:Op}{i:Nat}{v:Value}(hv:dc v=false)(h:bE P C H env op (.raw v)):bE P C H env op (.own i v):=by
 intro R ρ w hm hr dst t p af g;obtain⟨u,h1,h2⟩:=h R ρ w hm hr dst t p af g;have:=aq.1 h2;subst this;exact⟨_,h1,aE.2 ⟨rfl,hv⟩⟩
theorem tv {len off:Nat}{e:TypeId}{xe:TI}{cs:List AVal}{k:IntKind}{i:Int}(hx:ah env x=some (.rop cs off))(hy:ah env y=some (.int k i))(h1:bj P T=some xT)(h2:xT.desc= .array len e)(h3:bj P e=some xe)
  (hi0:0<=i) (hi:i<len):bE P C H env (.indexAddr T x y) (.rop cs (off+i.toNat*xe.size)):=by
 intro R ρ w hm hf dst t p af g;obtain⟨bl,o,e1,ho,hs⟩:=iw (hf _ _ hx);refine⟨.pointer (some ⟨bl,o+i.toNat*xe.size,none⟩),?_,ik a_ (by rw[Nat.add_sub_add_right];exact hs)⟩;simp only[execOp,e1,ap.1 (hf _ _ hy),Instr.indexAt,asIntOf,e_,h_,c_,ao h1,h2,Instr.sureAddr];rw[if_pos (show 0<=i/\i<(len:Int) from⟨hi0,hi⟩)];simp only[e_,aM h3,c_,h_,Addr.add];by_cases h0:i.toNat*xe.size=0
 ·simp[h0]
 ·simp[h0]
theorem zY {GL:List (Nat×List AVal)}(hGL:ab C.G GL)(h:iI P GL env T x y F K):Hh P C H env (.indexAddr T x y) F K:=by
 unfold iI at h;split at h
 ·rename_i xT ht;split at h
  ·rename_i e hd;split at h
   ·rename_i xe he;split at h
    ·rename_i sz m f hx;split at h
     ·rename_i hs;rcases gP h with h|⟨k,i,hy,h,h'⟩
      ·exact .inl h
      ·rcases Gu h' with h'|⟨hp,h'⟩
       ·exact .inl h'
       ·exact .inr ⟨_,zA hx hy ht hd he (m_ hs) h.1 h.2 hp,h'⟩
     ·exact .inl h
    ·rename_i i b m cap hx;obtain⟨s,rfl,hs⟩:=mv hx;split at h
     ·rename_i h1;rcases gP h with h|⟨k,j,hy,h,h'⟩
      ·exact .inl h
      ·obtain⟨j,rfl⟩:=Int.eq_ofNat_of_zero_le h.1;simp only[B_] at h';refine .inr ⟨_,j9 rfl ?_,h'⟩;intro R ρ w hm hf dst t p af g;have hv:=(aE.1 (hf (.tmp s) _ hx)).1;refine⟨_,?_,aq.2 rfl⟩;have hj:j<m:=by have:=h.2;omega
       have h4:=m_ h1;simp only[execOp,hv,ap.1 (hf _ _ hy),Instr.indexAt,asIntOf,e_,h_,c_,ao ht,hd];rw[if_pos (show 0<=(j:Int)/\(j:Int)<(m:Int) from⟨a_,a_⟩)];simp only[e_,aM he,h4,c_,h_,Addr.add,B_,Nat.mul_one];by_cases h0:j=0
       ·subst h0;simp
       ·simp[h0]
     ·rcases gP h with h|⟨k,j,hy,h,h'⟩
      ·exact .inl h
      ·obtain⟨j,rfl⟩:=Int.eq_ofNat_of_zero_le h.1;simp only[B_] at h';refine .inr ⟨_,j9 rfl ?_,h'⟩;intro R ρ w hm hf dst t p af g;have hv:=(aE.1 (hf (.tmp s) _ hx)).1;refine⟨_,?_,aq.2 rfl⟩;have hj:j<m:=by have:=h.2;omega
       simp only[execOp,hv,ap.1 (hf _ _ hy),Instr.indexAt,asIntOf,e_,h_,c_,ao ht,hd];rw[if_pos (show 0<=(j:Int)/\(j:Int)<(m:Int) from⟨a_,a_⟩)];simp only[e_,aM he,c_,h_,Addr.add,B_];by_cases h0:j*xe.size=0
       ·rw[h0];simp
       ·simp[h0]
    ·exact .inl h
   ·exact .inl h
  ·rename_i len e hd;split at h
   ·rename_i xe he;split at h
    ·rename_i g;split at h
     ·rename_i cs hg;rcases gP h with h|⟨k,i,hy,h,h'⟩
      ·exact .inl h
      ·exact .inr ⟨_,rW (hGL _ _ hg) hy ht hd he h.1 h.2,h'⟩
     ·exact .inl h
    ·split at h
     ·rename_i i b o hx;obtain⟨s,rfl,hs⟩:=mv hx;rcases gP h with h|⟨k,j,hy,h,h'⟩
      ·exact .inl h
      ·refine .inr ⟨_,j9 rfl (eS hs (tz (k:=k) (by simp only[ah];exact iB) ?_ ht hd he h.1 h.2)),h'⟩;cases y with
       |tmp u=>
        simp only[ah,Env.get] at hy ⊢;split
        ·rename_i hb;have:=m_ hb;subst this;rw[hs] at hy;cases hy
        ·exact hy
       |const c=>rw[gE] at hy ⊢;exact hy
       |global g=>exact hy
       |func f=>exact hy
     ·rename_i cs off hx;rcases gP h with h|⟨k,i,hy,h,h'⟩
      ·exact .inl h
      ·exact .inr ⟨_,tv hx hy ht hd he h.1 h.2,h'⟩
     ·exact .inl h
   ·exact .inl h
  ·exact .inl h
 ·exact .inl h
theorem M8 {k:Nat}(h:Jb P env T x k F K):Hh P C H env (.field T x k) F K:=by
 unfold Jb at h;split at h
 ·rename_i xT ht;split at h
  ·rename_i fs hd;split at h
   ·rename_i f hf;split at h
    ·rename_i xf hxf;split at h
     ·rename_i cs hx;split at h
      ·rename_i ha;rw[cZ] at h;exact .inr ⟨_,Ck hx ht hd hf hxf ha,h⟩
      ·rename_i ha;split at h
       ·rename_i av hc;split at h
        ·rename_i hav;exact .inr ⟨_,O3 hx ht hd hf hxf ha hc hav,h⟩
        ·exact .inl h
       ·exact .inl h
     ·exact .inl h
    ·exact .inl h
   ·exact .inl h
  ·exact .inl h
 ·exact .inl h
theorem CP (h:p7 env x F K):Hh P C H env (.nilCheck x) F K:=by
 unfold p7 at h;split at h
 ·rename_i cs off hx;exact .inr ⟨_,vg hx,h⟩
 ·rename_i i a hx;obtain⟨s,rfl,hs⟩:=mv hx;exact .inr ⟨_,j9 rfl (eS hs (vh (by simp only[ah];exact iB))),h⟩
 ·exact .inl h
theorem HR {i b cap:Nat}{s:ω}{S e:TypeId}{xS xe:TI}(hx:ah env x=some (.raw (.slice (some ⟨b,0,none⟩) s.length cap))){c':Nat}(hi:H[i]? =some (.buf b s c'))(h1:bj P S=some xS)(h2:xS.desc= .slice e)
  (h5:bj P e=some xe) (h6:xe.desc= .int .u8) (h3:bj P T=some xT) (h4:xT.desc= .string):bE P C H env (.convert S T x) (.str s):=by
 intro R ρ w hm hf dst t p af g;obtain⟨_,Cs,el,fz,hb,hl,_⟩:=hm.heap.holds _ (q_ hi);refine⟨_,?_,aD.2 rfl⟩;have hl':=di s.length hl;rw[MG] at hl';simp only[execOp,aq.1 (hf _ _ hx),e_,rB h1 h2 h5 h6 h3 h4 (rA (o:=0) hb (by simpa using hl')),c_,h_]
theorem Rr {S:TypeId}(h:Rs P env H S T x F K):Hh P C H env (.convert S T x) F K:=by
 unfold Rs at h;split at h
 ·rename_i xS xT hS hT;split at h
  ·rename_i k m hx;split at h
   ·rename_i j hd;generalize hb:fp j=bd at h;obtain⟨lo,hi⟩:=bd;rcases h with h|h
    ·exact .inr ⟨_,EH hx hS hT hd (jz hb h.1),h.2⟩
    ·exact .inr ⟨_,Cl hx hS hT hd,h⟩
   ·exact .inl h
  ·rename_i i b m cap hx;obtain⟨s,rfl,hs⟩:=mv hx;split at h
   ·rename_i e hd1 hd2;split at h
    ·rename_i xe he;split at h
     ·rename_i hu;split at h
      ·rename_i b' s' cap' hi;obtain⟨⟨rfl,rfl⟩,h⟩:=h;exact .inr ⟨_,eS hs (HR (by simp only[ah];exact iB) hi hS hd1 he hu hT hd2),h⟩
      ·exact .inl h
     ·exact .inl h
    ·exact .inl h
   ·exact .inl h
  ·exact .inl h
 ·exact .inl h
theorem NB {l:Array (Nat×Operand)}(h:uv P env T l.toList F K):Hh P C H env (.build T l) F K:=by
 unfold uv at h;split at h
 ·rename_i xT ht;split at h
  ·rename_i fs hd;split at h
   ·rename_i ps pl z h1 h2 h3;split at h
    ·rename_i cs h4;rw[cZ] at h;have:=O5 (P:=P) (C:=C) (H:=H) (l:=l.toList) h1 ht (by simpa using hd) h2 h3 h4;exact .inr ⟨_,by simpa using this,h⟩
    ·exact .inl h
   ·exact .inl h
  ·rename_i m e hd;split at h
   ·rename_i ps xe z h1 h2 h3;split at h
    ·rename_i cs h4;rw[cZ] at h;have:=Cm (P:=P) (C:=C) (H:=H) (l:=l.toList) h1 ht hd h2 h3 h4;exact .inr ⟨_,by simpa using this,h⟩
    ·exact .inl h
   ·exact .inl h
  ·exact .inl h
 ·exact .inl h
theorem MU (h:ug P env T x F K):Hh P C H env (.makeInterface T x) F K:=by
 unfold ug at h;split at h
 ·rename_i xT v ht hx;split at h
  ·rename_i hd;exact .inr ⟨_,Cf hx ht hd,h⟩
  ·exact .inl h
 ·exact .inl h
theorem JK {S:TypeId}{ok:Bool}(h:DD P env x S T ok F K):Hh P C H env (.typeAssert x S T ok) F K:=by
 unfold DD at h;split at h
 ·rename_i xT ht;split at h
  ·rename_i ty v hx;split at h
   ·rename_i hd hb;exact .inr ⟨_,zC hx ht hd (m_ hb),h⟩
   ·rename_i hd hb;split at h
    ·rename_i z hz;exact .inr ⟨_,xl hx ht hd hb hz,h⟩
    ·exact .inl h
   ·rcases h with⟨h,k⟩|⟨h,k⟩
    ·refine .inr ⟨_,?_,k⟩;intro R ρ w hm hf dst t p af g;obtain⟨⟨u,e,h3,h4⟩,_⟩:=hf _ _ hx;have hr:=hf _ _ hx;have e':ρ x= .iface ty u:=by
      obtain⟨u',e',h3',h4'⟩:=bC hr rfl;simp only[o_,and_true] at e';rw[e'] at e;simp[Value.cells] at e;rw[e',e]
     rw[e'] at hr;refine⟨.tuple #[.iface ty u,.bool true],?_,⟨⟨_,rfl,_,_,rfl,⟨hr.1,hr.2⟩,_,_,rfl,⟨rfl,rfl⟩,rfl⟩,rfl⟩⟩;simp only[execOp,e',e_,h u w,c_,h_]
    ·refine .inr ⟨_,?_,k⟩;intro R ρ w hm hf dst t p af g;obtain⟨u',e',h3',h4'⟩:=bC (hf _ _ hx) rfl;simp only[o_,and_true] at e';refine⟨.tuple #[.nilIface,.bool false],?_,⟨⟨_,rfl,_,_,rfl,⟨rfl,rfl⟩,_,_,rfl,⟨rfl,rfl⟩,rfl⟩,rfl⟩⟩;simp only[execOp,e',e_,h u' w,c_,h_]
  ·rename_i hx;split at h
   ·rename_i z hz;exact .inr ⟨_,zB hx ht hz,h⟩
   ·exact .inl h
  ·exact .inl h
 ·exact .inl h
theorem vK {GL:List (Nat×List AVal)}(hGL:ab C.G GL){op:Op}(h:D6 P GL env H op F K):Hh P C H env op F K:=by
 unfold D6 at h;split at h
 ·split at h
  ·rename_i av hx;exact .inr ⟨_,Tc hx,h⟩
  ·exact .inl h
 ·split at h
  ·rename_i av hx;exact .inr ⟨_,Mg hx,h⟩
  ·exact .inl h
 ·split at h
  ·rename_i b a a' hc hx hy;refine .inr ⟨_,Tb hc hx hy,?_⟩;cases b
   ·exact h.2 rfl
   ·exact h.1 rfl
  ·exact .inl h
 ·exact UG h
 ·split at h
  ·rename_i b hx;exact .inr ⟨_,Wp hx,h⟩
  ·exact .inl h
 ·split at h
  ·rename_i k m hx;generalize hb:fp k=bd at h;obtain⟨lo,hi⟩:=bd;exact .inr ⟨_,Wq hx (jz hb h.1),h.2⟩
  ·exact .inl h
 ·exact Nw h
 ·split at h
  ·rename_i cs hx;split at h
   ·rename_i av hi;exact .inr ⟨_,HU hx hi,h⟩
   ·exact .inl h
  ·exact .inl h
 ·exact MT h
 ·exact Ma h
 ·exact Qc hGL h
 ·exact z8 h
 ·exact M8 h
 ·exact zY hGL h
 ·exact CP h
 ·exact Rr h
 ·exact NB h
 ·exact MU h
 ·split at h
  ·rename_i a1 a2 h1 h2;have:=Ez (P:=P) (C:=C) (H:=H) (fn:= ‹Fn›) h1 h2;exact .inr ⟨_,by simpa using this,h⟩
  ·exact .inl h
 ·exact JK h
 ·exact .inl h
end
end
section
open Go
def Ba:AVal->AVal->Option Bool
 |.str s,.str t=>some (aW s t)
 |.int k m,.int j q=>match Nat.beq (Qj k) (Qj j) with
  |true=>some (bV m q)
  |false=>none
 |.bool true,.bool t=>some t
 |.bool false,.bool t=>some (!t)
 |_,_=>none
def mz:TypeDesc->AVal->Bool
 |.string,.str _=>true
 |.int _,.int _ _=>true
 |.bool,.bool _=>true
 |_,_=>false
noncomputable def Gg (k:AVal)(F:Prop)(hit:Nat->AVal->Prop)(miss:Prop)(l:List (AVal×AVal)):Nat->Prop:=
 List.rec (motive:=λ_=>Nat->Prop) (λ_=>miss) (λa _ ih i=>match Ba k a.1 with
  |some b=>Sc b (hit i a.2) (ih (i+1))
  |none=>F) l
noncomputable def KM (k:AVal)(F:Prop)(hit:Nat->AVal->Prop)(miss:Prop)(l:List (AVal×AVal)):Prop:=
 match k with
 |.bool b=>Sc b (Gg (.bool true) F hit miss l 0) (Gg (.bool false) F hit miss l 0)
 |k=>Gg k F hit miss l 0
def k8 (k:AVal):List (AVal×AVal)->Nat->Option (Option (Nat×AVal))
 |[],_=>some none
 |a::l,i=>match Ba k a.1 with
  |some true=>some (some (i,a.2))
  |some false=>k8 k l (i+1)
  |none=>none
def zeroV (z:Option Value):Option AVal:=
 match z with
 |some (.agg cs)=>match bK (some (.agg cs)) with
  |some l=>some (.agg l)
  |none=>none
 |some v=>some (KB v)
 |none=>none
theorem LO {R:Seal}{z:Option Value}{a:AVal}(h:zeroV z=some a):∃v,z=some v/\bn R a v:=by
 unfold zeroV at h;split at h
 ·rename_i cs;split at h
  ·rename_i l hl;cases h;obtain⟨v,hv,hr⟩:=dp (R:=R) hl;cases hv;exact⟨_,rfl,hr,rfl⟩
  ·cases h
 ·cases h;exact⟨_,rfl,vN R _⟩
 ·cases h
theorem sG {k:AVal}{F:Prop}{hit:Nat->AVal->Prop}{miss:Prop}:∀(l:List (AVal×AVal)) (i:Nat),Gg k F hit miss l i->F\/(∃j a,k8 k l i=some (some (j,a))/\hit j a)\/(k8 k l i=some none/\miss)
 |[],i,h=>.inr (.inr ⟨rfl,h⟩)
 |a::l,i,h=>by
  have h:(match Ba k a.1 with
   |some b=>Sc b (hit i a.2) (Gg k F hit miss l (i+1))
   |none=>F):=h
  have ih:=sG (k:=k) (F:=F) (hit:=hit) (miss:=miss) l (i+1);split at h
  ·rename_i b hb;cases b with
   |true=>exact .inr (.inl ⟨i,a.2,by simp only[k8,hb],h.1 rfl⟩)
   |false=>
    rcases ih (h.2 rfl) with q|⟨j,v,q,w⟩|⟨q,w⟩
    ·exact .inl q
    ·exact .inr (.inl ⟨j,v,by simp only[k8,hb];exact q,w⟩)
    ·exact .inr (.inr ⟨by simp only[k8,hb];exact q,w⟩)
  ·exact .inl h
theorem FE {k:AVal}{F:Prop}{hit:Nat->AVal->Prop}{miss:Prop}{l:List (AVal×AVal)}(h:KM k F hit miss l):F\/(∃j a,k8 k l 0=some (some (j,a))/\hit j a)\/(k8 k l 0=some none/\miss):=by
 unfold KM at h;split at h
 ·rename_i b;cases b with
  |true=>exact sG l 0 (h.1 rfl)
  |false=>exact sG l 0 (h.2 rfl)
 ·exact sG l 0 h
theorem Ev (s t:ω):((⟨s.toArray⟩:ByteArray)==⟨t.toArray⟩)=aW s t:=by
 show((s.toArray:Array UInt8)==t.toArray)=aW s t;unfold aW;rw[w_,aad,aad];exact⟨λh=>by simpa using congrArg Array.toList h,λh=>by rw[h]⟩
theorem FP {kd:TypeDesc}{s:ω}(h:mz kd (.str s)=true):kd= .string:=by
 cases kd<;>first|rfl|cases h
theorem FQ {kd:TypeDesc}{k:IntKind}{m:Int}(h:mz kd (.int k m)=true):∃j,kd= .int j:=by
 cases kd<;>first|exact⟨_,rfl⟩|cases h
theorem ub {kd:TypeDesc}{b:Bool}(h:mz kd (.bool b)=true):kd= .bool:=by
 cases kd<;>first|rfl|cases h
theorem uT {kd:TypeDesc}{k:AVal}(h:mz kd k=true):(∃s,k= .str s/\kd= .string)\/(∃i m j,k= .int i m/\kd= .int j)\/(∃b,k= .bool b/\kd= .bool):=by
 cases k with
 |str s=>exact .inl ⟨s,rfl,FP h⟩
 |int i m=>obtain⟨j,e⟩:=FQ h;exact .inr (.inl ⟨i,m,j,rfl,e⟩)
 |bool b=>exact .inr (.inr ⟨b,rfl,ub h⟩)
 |_=>exfalso;revert h;cases kd<;>exact λh=>by cases h
theorem HO {R:Seal}{kd:TypeDesc}{k a:AVal}{kv ev:Value}{b:Bool}(hk:mz kd k=true)(h1:bn R k kv)(h2:bn R a ev)(h:Ba k a=some b):Instr.sameNow kd kv ev=some b/\(b=true->ev=kv):=by
 unfold Ba at h;split at h
 ·cases h;obtain rfl:=aD.1 h1;obtain rfl:=aD.1 h2;obtain rfl:=FP hk;refine⟨by simp only[Instr.sameNow,Ev],λe=> ?_⟩;rw[ce.1 e]
 ·rename_i k m j q;split at h
  ·rename_i hkk;cases h;obtain rfl:=yl hkk;obtain rfl:=ap.1 h1;obtain rfl:=ap.1 h2;obtain⟨j,rfl⟩:=FQ hk;refine⟨by unfold bV;simp only[Instr.sameNow,aap];rfl,λe=> ?_⟩;rw[fJ.1 e]
  ·cases h
 ·cases h;obtain rfl:=aO.1 h1;obtain rfl:=aO.1 h2;obtain rfl:=ub hk;refine⟨by cases b<;>rfl,λe=>by rw[e]⟩
 ·rename_i t;cases h;obtain rfl:=aO.1 h1;obtain rfl:=aO.1 h2;obtain rfl:=ub hk;refine⟨by cases t<;>rfl,λe=>by cases t<;>first|rfl|cases e⟩
 ·cases h
theorem lW {R:Seal}{kd:TypeDesc}{k:AVal}{kv:Value}(hk:mz kd k=true)(h1:bn R k kv):∀{l:List (AVal×AVal)} {E:List MapEntry} (i:Nat),mT R l E->
  (k8 k l i=some none->Instr.findNow kd kv E i=some none)/\
  ∀j a,k8 k l i=some (some (j,a))->∃p e,i<=j/\l[j-i]? =some p/\p.2=a/\E[j-i]? =some e/\e.key=kv/\bn R a e.val/\Instr.findNow kd kv E i=some (some (j,e.val))
 |[],E,i,hm=>by
  have hm:E=[]:=hm;subst hm;refine⟨λ_=>rfl,λj a h=> ?_⟩;simp[k8] at h
 |q::l,E,i,hm=>by
  obtain⟨e,t,rfl,⟨r1,r2⟩,hm⟩:=hm;have ih:=lW hk h1 (i+1) hm;simp only[k8];cases hb:Ba k q.1 with
  |none=>refine⟨λh=> ?_,λj a h=> ?_⟩<;>simp at h
  |some b=>
   obtain⟨hs,hv⟩:=HO hk h1 r1 hb;cases b with
   |true=>
    refine⟨λh=> ?_,λj a h=> ?_⟩
    ·simp at h
    ·simp only[g_,aag] at h;obtain⟨rfl,rfl⟩:=h;exact⟨q,e,Nat.le_refl _,by simp,rfl,by simp,hv rfl,r2,by simp only[Instr.findNow,hs]⟩
   |false=>
    refine⟨λh=>by simp only[Instr.findNow,hs];exact ih.1 h,λj a h=> ?_⟩;obtain⟨p,e',hle,h2,h3,h4,h5,h6,h7⟩:=ih.2 j a h;have ej:j-i=(j-(i+1))+1:=by omega
    exact⟨p,e',a_,by rw[ej,J_];exact h2,h3,by rw[ej,J_];exact h4,h5,h6,by simp only[Instr.findNow,hs];exact h7⟩
theorem OP (s:ω):((⟨s.toArray⟩:ByteArray)==⟨s.toArray⟩)=true:=(Ev s s).trans (ce.2 rfl)
theorem zy {R:Seal}{kd:TypeDesc}{k:AVal}{kv:Value}(hk:mz kd k=true)(h1:bn R k kv):Instr.sameBits 10000 kv kv=true:=by
 rcases uT hk with⟨s,rfl,_⟩|⟨i,m,j,rfl,_⟩|⟨b,rfl,_⟩
 ·obtain rfl:=aD.1 h1;simp only[Instr.sameBits,OP]
 ·obtain rfl:=ap.1 h1;simp[Instr.sameBits]
 ·obtain rfl:=aO.1 h1;simp[Instr.sameBits]
section
variable {P:Program} [Tab P] {C:Ctx} {n:Nat} {env:Env} {H:Heap} {Q:aL->Env->Heap->Prop} {ops:Array Oper} {rest:List Oper}
variable {d:Nat} {t:TypeId} {p:String} {af:Array Edge} {g:Option (Nat×Bool)} {b:Bool}
variable {x y z:Operand} {T kt et:TypeId} {xT xk xe:TI}
theorem Ju {R:Seal}{k:AVal}{kv:Value}(em:Bool)(h:bj P kt=some xk)(hk:mz xk.desc k=true)(h1:bn R k kv)(w:World)(n:Nat):(Instr.checkKey em (n+1) kt kv).run P w= .ok () w:=by
 rcases uT hk with⟨s,rfl,hd⟩|⟨i,m,j,rfl,hd⟩|⟨b,rfl,hd⟩
 ·obtain rfl:=aD.1 h1;simp only[Instr.checkKey,e_,ao h,hd,c_,h_]
 ·obtain rfl:=ap.1 h1;simp only[Instr.checkKey,e_,ao h,hd,c_,h_]
 ·obtain rfl:=aO.1 h1;simp only[Instr.checkKey,e_,ao h,hd,c_,h_]
theorem lt {R:Seal}{k:AVal}{kv:Value}(em:Bool)(h:bj P kt=some xk)(hk:mz xk.desc k=true)(h1:bn R k kv)(w:World):(Instr.checkKey em 10000 kt kv).run P w= .ok () w:=Ju em h hk h1 w 9999
theorem vO {R:Seal}{w:World}{i bl:Nat}{es:List (AVal×AVal)}(hm:MS C R H w)(hi:H[i]? =some (.mp bl es)):∃E cl,w.heap[bl]? =some (.map E cl)/\mT R es E.toList:=hm.heap.holds _ (q_ hi)
theorem EA {i0 i bl j:Nat}{es:List (AVal×AVal)}{k a:AVal}(ok:Bool)(hx:ah env x=some (.own i0 (.map (some bl))))(hy:ah env y=some k)(hi:H[i]? =some (.mp bl es))(h1:bj P T=some xT)(h2:xT.desc= .map kt et)(h3:bj P kt=some xk)(h4:mz xk.desc k=true)(h5:k8 k es 0=some (some (j,a))):
  bE P C H env (.lookup T x y ok) (match ok with|true=>.tuple [a,.bool true]|false=>a):=by
 intro R ρ w hm hf dst t p af g;obtain⟨E,cl,hb,hl⟩:=vO hm hi;have hky:=hf _ _ hy;obtain⟨q,e,_,_,_,_,_,hr,hn⟩:=(lW h4 hky 0 hl).2 j a h5;refine⟨if ok then .tuple #[e.val,.bool true] else e.val,?_,?_⟩
 ·simp only[execOp,(aE.1 (hf _ _ hx)).1,Instr.lookup,e_,ao h1,h2,c_,gc hb (by simp),h_,lt _ h3 h4 hky,Instr.findKey,ao h3,hn]
 ·cases ok
  ·exact hr
  ·exact⟨⟨_,rfl,_,_,rfl,hr,_,_,rfl,⟨rfl,rfl⟩,rfl⟩,rfl⟩
theorem Cg {i0 i bl:Nat}{es:List (AVal×AVal)}{k a:AVal}(ok:Bool)(hx:ah env x=some (.own i0 (.map (some bl))))(hy:ah env y=some k)(hi:H[i]? =some (.mp bl es))(h1:bj P T=some xT)(h2:xT.desc= .map kt et)(h3:bj P kt=some xk)(h4:mz xk.desc k=true)(h5:k8 k es 0=some none)(h6:bj P et=some xe)(h7:zeroV xe.zero=some a):
  bE P C H env (.lookup T x y ok) (match ok with|true=>.tuple [a,.bool false]|false=>a):=by
 intro R ρ w hm hf dst t p af g;obtain⟨E,cl,hb,hl⟩:=vO hm hi;have hky:=hf _ _ hy;have hn:=(lW h4 hky 0 hl).1 h5;obtain⟨v,hv,hr⟩:=LO (R:=R) h7;refine⟨if ok then .tuple #[v,.bool false] else v,?_,?_⟩
 ·simp only[execOp,(aE.1 (hf _ _ hx)).1,Instr.lookup,e_,ao h1,h2,c_,gc hb (by simp),h_,lt _ h3 h4 hky,Instr.findKey,ao h3,hn,dT h6 hv]
 ·cases ok
  ·exact hr
  ·exact⟨⟨_,rfl,_,_,rfl,hr,_,_,rfl,⟨rfl,rfl⟩,rfl⟩,rfl⟩
theorem uP {R:Seal}{a:AVal×AVal}{e:MapEntry}(h1:bn R a.1 e.key)(h2:bn R a.2 e.val):∀{l:List (AVal×AVal)} {E:List MapEntry},mT R l E->mT R (l++[a]) (E++[e])
 |[],E,h=>by
  have h:E=[]:=h;subst h;exact⟨e,[],rfl,⟨h1,h2⟩,rfl⟩
 |q::l,E,h=>by
  obtain⟨e',t,rfl,r,h⟩:=h;exact⟨e',_,rfl,r,uP h1 h2 h⟩
theorem x9 {R:Seal}{a:AVal×AVal}{e:MapEntry}(h1:bn R a.1 e.key)(h2:bn R a.2 e.val):∀{l:List (AVal×AVal)} {E:List MapEntry} (i:Nat),mT R l E->mT R (l.set i a) (E.set i e)
 |[],E,i,h=>by
  have h:E=[]:=h;subst h;exact rfl
 |q::l,E,0,h=>by
  obtain⟨e',t,rfl,r,h⟩:=h;exact⟨e,_,rfl,⟨h1,h2⟩,h⟩
 |q::l,E,i+1,h=>by
  obtain⟨e',t,rfl,r,h⟩:=h;exact⟨e',_,rfl,r,x9 h1 h2 i h⟩
theorem xg {w:World}{bl:Nat}{o o':Obj}(h:w.heap[bl]? =some o):oj w bl o' {w with heap:=w.heap.setIfInBounds bl o'}:=by
 have hlt:=qf h;exact⟨rfl,rfl,rfl,by simp,by simp[hlt],λk hk=>by simp only[];rw[Array.getElem?_setIfInBounds_ne (Ne.symm hk)]⟩
theorem qE {w:World}{bl cl:Nat}{E:Array MapEntry}{o':Obj}(h:w.heap[bl]? =some (.map E cl)):(setObj bl o').run P w= .ok () {w with heap:=w.heap.setIfInBounds bl o'}:=by
 simp only[setObj,Sem.run,h]
theorem NI {T:TypeId}(hg:aQ ops env g=some (b,b))(hdn:Nat.ble (d+1) n=true)
  (h:∀bl:Nat,au P C n ops rest ((d,.raw (.map (some bl)))::env) (.mp bl []::H) Q):
  au P C n ops ({dst:=some d,op:=.makeMap T none,type:=t,pos:=p,after:=af,guard:=g}::rest) env H Q:=by
 refine gR (av:=λbl:Nat=>.raw (.map (some bl))) (H':=λbl=>.mp bl []::H) hg rfl hdn (λR ρ w hm hf=> ?_) h
 refine⟨w.heap.size,_,grow w (.map #[] 0),R,?_,Seal.le_refl R,aq.2 rfl,hm.alloc _ _ rfl ⟨_,_,gn w _,rfl⟩⟩
 rfl
theorem BM {op:Op}(hop:op= .mapUpdate T x y z\/op= .insert T x y z){i0 i bl:Nat}{es:List (AVal×AVal)}{k a:AVal}(hg:aQ ops env g=some (b,b))(hx:ah env x=some (.own i0 (.map (some bl))))(hy:ah env y=some k)(hz:ah env z=some a)(hi:H[i]? =some (.mp bl es))(h1:bj P T=some xT)(h2:xT.desc= .map kt et)(h3:bj P kt=some xk)(h4:mz xk.desc k=true)
  (h:(∃j v,k8 k es 0=some (some (j,v))/\au P C n ops rest env (H.set i (.mp bl (es.set j (k,a)))) Q)\/(k8 k es 0=some none/\au P C n ops rest env (H.set i (.mp bl (es++[(k,a)]))) Q)):
  au P C n ops ({dst:=none,op:=op,type:=t,pos:=p,after:=af,guard:=g}::rest) env H Q:=by
 have he:∀ρ:Operand->Value,execOp ρ {dst:=none,op:=op,type:=t,pos:=p,after:=af,guard:=g}=execOp ρ {dst:=none,op:=.mapUpdate T x y z,type:=t,pos:=p,after:=af,guard:=g}:=by
  intro ρ;rcases hop with rfl|rfl<;>rfl
 rcases h with⟨j,v,hj,h⟩|⟨hj,h⟩
 ·refine og hg rfl (λR ρ w hm hf=> ?_) h;obtain⟨E,cl,hb,hl⟩:=vO hm hi;have hky:=hf _ _ hy;obtain⟨q,e,_,_,_,h5,h6,hr,hn⟩:=(lW h4 hky 0 hl).2 j v hj;have h5:E[j]? =some e:=by simpa using h5
  have hlt:j<E.size:=by
   rcases aaj j E.size with h|h
   ·exact h
   ·rw[Array.getElem?_eq_none h] at h5;cases h5
  have ho:=xg (o':=.map (E.modify j λe=>{e with key:=ρ y,val:=ρ z}) cl) hb;refine⟨_,R,?_,Seal.le_refl R,hm.write hi rfl ho rfl ⟨_,_,ho.at_,?_⟩⟩
  ·rw[he];simp only[execOp,(aE.1 (hf _ _ hx)).1,Instr.mapUpdate,e_,ao h1,h2,c_,gc hb (by simp),h_,lt _ h3 h4 hky,Instr.findKey,ao h3,hn,h5,aal,aam,h6,Instr.keyThatStays,zy h4 hky,aap,qE hb]
  ·have e1:(E.modify j λe=>{e with key:=ρ y,val:=ρ z}).toList=E.toList.set j {key:=ρ y,val:=ρ z,born:=e.born}:=by
    rw[Array.toList_modify,List.modify_eq_set];have:E.toList[j]? =some e:=by simpa using h5
    rw[this];rfl
   rw[e1];exact x9 (a:=(k,a)) hky (hf _ _ hz) j hl
 ·refine og hg rfl (λR ρ w hm hf=> ?_) h;obtain⟨E,cl,hb,hl⟩:=vO hm hi;have hky:=hf _ _ hy;have hn:=(lW h4 hky 0 hl).1 hj;have ho:=xg (o':=.map (E.push {key:=ρ y,val:=ρ z,born:=cl}) (cl+1)) hb;refine⟨_,R,?_,Seal.le_refl R,hm.write hi rfl ho rfl ⟨_,_,ho.at_,?_⟩⟩
  ·rw[he];simp only[execOp,(aE.1 (hf _ _ hx)).1,Instr.mapUpdate,e_,ao h1,h2,c_,gc hb (by simp),h_,lt _ h3 h4 hky,Instr.findKey,ao h3,hn,qE hb]
  ·rw[Array.toList_push];exact uP (a:=(k,a)) hky (hf _ _ hz) hl
end
end
section
open Go
structure Nx (pos:Nat) (s:ω) (a b:Prop):Prop where
 more:pos<s.length->a
 done:s.length<=pos->b
theorem dq {pos:Nat}{s:ω}{a b:Prop}(h:pos<s.length->a)(k:s.length<=pos->b):Nx pos s a b:=⟨h,k⟩
mutual
def mY:AVal->AVal
 |.own _ v=>.raw v
 |.tuple cs=>.tuple (jN cs)
 |.iface t v=>.iface t (mY v)
 |.func f a b=>.func f (jN a) (jN b)
 |a=>a
def jN:List AVal->List AVal
 |[]=>[]
 |c::cs=>mY c::jN cs
end
mutual
theorem tk {R:Seal}:∀(a:AVal) (v:Value),bn R a v->bn R (mY a) v
 |.own i x,v,h=>by simp only[mY];exact aq.2 (aE.1 h).1
 |.tuple cs,v,⟨⟨ws,e,h⟩,h2⟩=>by simp only[mY];exact⟨⟨ws,e,jM cs _ h⟩,h2⟩
 |.iface t a,v,⟨⟨w,e,h,k⟩,h2⟩=>by
  simp only[mY];have:=tk a w ⟨h,k⟩;exact⟨⟨w,e,this.1,this.2⟩,h2⟩
 |.func f a b,v,⟨⟨x,y,e,h,k⟩,h2⟩=>by simp only[mY];exact⟨⟨x,y,e,jM a _ h,jM b _ k⟩,h2⟩
 |.bool _,_,h=>h
 |.int _ _,_,h=>h
 |.str _,_,h=>h
 |.raw _,_,h=>h
 |.list _ _ _,_,h=>h
 |.rop _ _,_,h=>h
 |.agg _,_,h=>h
theorem jM {R:Seal}:∀(a:List AVal) (vs:List Value),dy R a vs->dy R (jN a) vs
 |[],_,h=>h
 |c::cs,_,⟨v,t,e,⟨h1,h2⟩,k⟩=>by
  have:=tk c v ⟨h1,h2⟩;exact⟨v,t,e,⟨this.1,this.2⟩,jM cs t k⟩
end
inductive Iv (P:Program) (G:Glo) (ty:TypeId) (a:AVal) (name:String) (avs:List AVal) (H:Heap) (K:AVal->Heap->Prop) (Kp:AVal->Heap->Prop):Prop
 |mk (f:FuncId) (r:AVal) (hm:∀R v,bn R a v->∀w,∃u,(Go.method (P.types.size+Made.depth) ty v name).run P w= .ok (f,u) w/\bn R r u) (k:Cx P G f (r::avs) H K Kp)
def wU (sz:Nat)(f:Nat->AVal):Nat->Bool
 |0=>true
 |m+1=>((f m).plain&&Nat.beq (f m).cells.length sz&&ld (f m).cells)&&wU sz f m
theorem lz {sz:Nat}{f:Nat->AVal}:∀{m:Nat},wU sz f m=true->∀i,i<m->(f i).plain=true/\(f i).cells.length=sz/\ld (f i).cells=true
 |0,_,i,h=>absurd h (Uf _)
 |m+1,h,i,hi=>by
  simp only[wU,l_] at h;by_cases e:i=m
  ·subst e;exact⟨h.1.1.1,m_ h.1.1.2,h.1.2⟩
  ·exact lz h.2 i a_
def ax (sz m:Nat)(f:Nat->AVal):Prop:=∀i,i<m->(f i).plain=true/\(f i).cells.length=sz/\ld (f i).cells=true
def fa (m:Nat)(f:Nat->AVal):List AVal:=(List.range m).flatMap λi=>(f i).cells
section
variable (P:Program) [Tab P] (C:Ctx) (n:Nat) (G:Glo) (GL:List (Nat×List AVal))
def cellsOf (a:AVal)(F:Prop)(K:List AVal->Prop):Prop:=
 match a with
 |.agg cs=>kQ cs K
 |.raw (.agg _)=>F
 |a=>K [a]
def B3 (env:Env)(H:Heap)(T:TypeId)(x y:Operand)(F:Prop)(K:Heap->Prop):Prop:=
 match bj P T with
 |some xT=>match ah env x,ah env y with
  |some (.own i (.pointer (some ⟨b,o,none⟩))),some a=>match H[i]? with
   |some (.cells b' eT cs)=>cellsOf a F λac=>match Nat.beq ac.length xT.size,Nat.ble (o+xT.size) cs.length,ld ac with
    |true,true,true=>Sp (b'=b) (kQ (cs.take o++ac++cs.drop (o+xT.size)) λc=>eD (H.set i (.cells b eT c)) K)
    |_,_,_=>F
   |some (.buf b' s cap)=>match a,Nat.beq xT.size 1 with
    |.int .u8 m,true=>Sp (b'=b/\o<s.length/\0<=m/\m<=255) (eD (H.set i (.buf b (s.set o (UInt8.ofNat m.toNat)) cap)) K)
    |_,_=>F
   |some (.row v' eT sz n cs)=>cellsOf a F λac=>match Nat.beq ac.length xT.size,ld ac with
    |true,true=>match Nat.beq xT.size 1 with
     |true=>Sp (bZ v' b n/\o+1<=n*sz/\0<n) (eD (H.set i (.row v' eT sz n (cs.take o++ac++cs.drop (o+1)))) K)
     |false=>Sp (bZ v' b n/\o+xT.size<=n*sz/\0<n) (eD (H.set i (.row v' eT sz n (cs.take o++ac++cs.drop (o+xT.size)))) K)
    |_,_=>F
   |_=>F
  |_,_=>F
 |none=>F
def VZ:Option TypeId->TypeId->Bool
 |none,_=>true
 |some t,e=>Nat.beq e t
theorem JX {eT:Option TypeId}{e:TypeId}(h:VZ eT e=true):∀t,eT=some t->e=t:=by
 rintro t rfl
 exact m_ h
def DF (env:Env)(H:Heap)(T tx:TypeId)(x y:Operand)(F:Prop)(K:AVal->Heap->Prop):Prop:=
 match bj P T,bj P tx with
 |some xT,some xx=>match xT.desc,xx.desc with
  |.slice e,.slice _=>match bj P e with
   |some xe=>match bK xe.zero,Nat.ble xe.bytes 1024,Nat.ble 1 xe.size with
    |some z,true,true=>match Nat.beq z.length xe.size,ah env y with
     |true,some (.list sz m f)=>match Nat.beq xe.size sz with
      |true=>match ah env x with
       |some (.own i v)=>match H[i]? with
        |some (.row v' eT sz' n0 cs)=>match VZ eT e with
         |true=>Sp (v'=v/\sz'=sz/\n0+m<=137438953472)
          (Ch (Sp (wU sz f m=true) (As (n0+m) λu=>eD (H.set i (.row u eT sz (n0+m) (cs++fa m f))) λH'=>K (.own i u) H'))
           (Sp (ax sz m f) (As (n0+m) λu=>eD (H.set i (.row u eT sz (n0+m) (cs++fa m f))) λH'=>K (.own i u) H')))
         |false=>F
        |_=>F
       |some (.raw (.slice none 0 0))=>Sp (m<=137438953472)
          (Ch (Sp (wU sz f m=true) (As m λu=>eD (H++[.row u none sz m (fa m f)]) λH'=>K (.own H.length u) H'))
           (Sp (ax sz m f) (As m λu=>eD (H++[.row u none sz m (fa m f)]) λH'=>K (.own H.length u) H')))
       |_=>F
      |false=>F
     |_,_=>F
    |_,_,_=>F
   |none=>F
  |_,_=>F
 |_,_=>F
def RJ (env:Env)(H:Heap)(S T:TypeId)(s:ω)(F:Prop)(K:AVal->Heap->Prop):Prop:=
 match bj P S,bj P T with
 |some xS,some xT=>match xS.desc,xT.desc with
  |.string,.slice e=>match bj P e with
   |some xe=>match xe.desc with
    |.int .u8=>Ac (λcap=>s.length<=cap) λbl cap=>eD (H++[.buf bl s cap]) λH'=>K (.own H.length (.slice (some ⟨bl,0,none⟩) s.length cap)) H'
    |_=>F
   |none=>F
  |.string,.string=>K (.str s) H
  |_,_=>F
 |_,_=>F
def LG (env:Env)(H:Heap)(T:TypeId)(m:Nat)(l:List (Nat×Operand))(F:Prop)(K:AVal->Heap->Prop):Prop:=
 match bj P T,jr env l with
 |some xT,some ps=>match xT.desc with
  |.slice e=>match bj P e with
   |some xe=>match bK xe.zero with
    |some z=>match Nat.beq z.length xe.size,lq 0 ps,fA xe.size ps,Nat.beq ps.length m,Nat.ble (m*xe.size) 16777216 with
     |true,true,true,true,true=>Bo (K (.list xe.size m (dH ps)) H) (As m λv=>kQ (eW ps) λcs=>eD (H++[.row v none xe.size m cs]) λH'=>K (.own H.length v) H')
     |_,_,_,_,_=>F
    |none=>F
   |none=>F
  |_=>F
 |_,_=>F
def VJ (env:Env)(H:Heap)(fv:Operand)(args:List Operand)(F:Prop)(Kp:AVal->Heap->Prop)(K:AVal->Heap->Prop):Prop:=
 match ah env fv,kH env args with
 |some (.func (.func f) l1 l2),some avs=>kQ (jN (l1++(avs++l2))) λavs=>Cx P G f avs H K Kp
 |_,_=>F
noncomputable def p9 (env:Env)(H:Heap)(T:TypeId)(x y z:Operand)(F:Prop)(K:Heap->Prop):Prop:=
 match bj P T,ah env x,ah env y,ah env z with
 |some xT,some (.own i (.map (some b))),some k,some a=>match xT.desc,H[i]? with
  |.map kt et,some (.mp b' es)=>match bj P kt with
   |some xk=>match mz xk.desc k with
    |true=>Sp (b'=b) (KM k F (λj _=>eD (H.set i (.mp b (es.set j (k,a)))) K) (eD (H.set i (.mp b (es++[(k,a)]))) K) es)
    |_=>F
   |_=>F
  |_,_=>F
 |_,_,_,_=>F
noncomputable def TE (env:Env)(H:Heap)(op:Op)(F:Prop)(Kp:AVal->Heap->Prop)(K:AVal->Heap->Prop):Prop:=
 match op with
 |.alloc T=>match bj P T with
  |some xT=>match bK xT.zero with
   |some cs=>Ab λbl=>kQ cs λcs=>eD (H++[.cells bl (some T) cs]) λH'=>K (.own H.length (.pointer (some ⟨bl,0,none⟩))) H'
   |none=>F
  |none=>F
 |.box T x=>match ah env x with
  |some a=>cellsOf a F λcs=>Bo (K (.rop cs 0) H) (Ab λbl=>eD (H++[.cells bl (some T) cs]) λH'=>K (.own H.length (.pointer (some ⟨bl,0,none⟩))) H')
  |none=>F
 |.call ⟨.builtin .append,args,ts⟩=>match args.toList,ts.toList with
  |[x,y],[T,tx]=>DF P env H T tx x y F K
  |_,_=>F
 |.call ⟨.invoke recv name,args,_⟩=>match ah env recv,kH env args.toList with
  |some (.iface ty a),some avs=>Iv P G ty (mY a) name (jN avs) H K Kp
  |_,_=>F
 |.call ⟨.value fv,args,_⟩=>VJ P G env H fv args.toList F Kp K
 |.convert S T x=>match ah env x with
  |some (.str s)=>RJ P env H S T s F K
  |_=>D6 P GL env H (.convert S T x) F λav=>K av H
 |.buildSlice T m l=>LG P env H T m l.toList F K
 |.range T x=>match bj P T,ah env x with
  |some xT,some (.str s)=>match xT.desc with
   |.string=>Ab λbl=>eD (H++[.iter bl s 0]) λH'=>K (.own H.length (.pointer (some ⟨bl,0,none⟩))) H'
   |_=>F
  |_,_=>F
 |.next x true=>match ah env x with
  |some (.own i (.pointer (some ⟨b,0,none⟩)))=>match H[i]? with
   |some (.iter b' s pos)=>Sp (b'=b) (Nx pos s (eD (H.set i (.iter b s (pos+eY (s.drop pos)))) λH'=>K (.tuple [.bool true,.int .i64 (pos:Int),.int .i32 (fw (s.drop pos):Int)]) H') (K (.tuple [.bool false]) H))
   |_=>F
  |_=>F
 |.makeMap T none=>Ab λbl=>eD (H++[.mp bl []]) λH'=>K (.own H.length (.map (some bl))) H'
 |.lookup T x y ok=>match bj P T,ah env x,ah env y with
  |some xT,some (.own i (.map (some b))),some k=>match xT.desc,H[i]? with
   |.map kt et,some (.mp b' es)=>match bj P kt,bj P et with
    |some xk,some xe=>match mz xk.desc k,zeroV xe.zero with
     |true,some z=>Sp (b'=b) (KM k F (λ_ a=>match ok with|true=>K (.tuple [a,.bool true]) H|false=>K a H) (match ok with|true=>K (.tuple [z,.bool false]) H|false=>K z H) es)
     |_,_=>F
    |_,_=>F
   |_,_=>F
  |_,_,_=>F
 |op=>D6 P GL env H op F λav=>K av H
def ui (ops:Array Oper)(env:Env)(g:Option (Nat×Bool))(F:Prop)(run skip:Env->Prop):Prop:=
 match g with
 |none=>run env
 |some (j,want)=>match ops[j]? with
  |some o=>match o.dst with
   |some e=>match Env.get env e with
    |some (.bool b)=>match want with
     |true=>Sc b (run ((e,.bool true)::env)) (skip ((e,.bool false)::env))
     |false=>Sc b (skip ((e,.bool true)::env)) (run ((e,.bool false)::env))
    |some (.raw v)=>Sp (v=undef) (skip env)
    |_=>F
   |none=>F
  |none=>F
structure uD (ops:Array Oper) (l:List Oper) (env:Env) (H:Heap) (Q:aL->Env->Heap->Prop):Prop where
 h:au P C n ops l env H Q
structure Cd (c:Code) (env:Env) (H:Heap) (Q:aL->Env->Heap->Prop):Prop where
 h:bJ P C n c env H Q
noncomputable def OS (ops:Array Oper)(o:Oper)(rest:List Oper)(Q:aL->Env->Heap->Prop)(K:Env->Heap->Prop)(env:Env)(H:Heap):Prop:=
 ui ops env o.guard (uD P C n ops (o::rest) env H Q)
  (λenv'=>match o.op with
   |.panic x=>match ah env' x with
    |some (.iface ty v)=>Q (.panic (.iface ty v)) env' H
    |_=>uD P C n ops (o::rest) env' H Q
   |op=>match o.dst with
    |some d=>match Nat.ble (d+1) n with
     |true=>TE P G GL env' H op (uD P C n ops (o::rest) env' H Q) (λv H'=>Q (.panic v) env' H') (λav H'=>K ((d,av)::env') H')
     |false=>uD P C n ops (o::rest) env' H Q
    |none=>match op with
     |.store T x y=>B3 P env' H T x y (uD P C n ops (o::rest) env' H Q) (λH'=>K env' H')
     |.mapUpdate T x y z=>p9 P env' H T x y z (uD P C n ops (o::rest) env' H Q) (λH'=>K env' H')
     |.insert T x y z=>p9 P env' H T x y z (uD P C n ops (o::rest) env' H Q) (λH'=>K env' H')
     |_=>uD P C n ops (o::rest) env' H Q)
  (λenv'=>match o.dst with
   |some d=>match Nat.ble (d+1) n with
    |true=>K ((d,.raw undef)::env') H
    |false=>uD P C n ops (o::rest) env' H Q
   |none=>K env' H)
noncomputable def mN (ops:Array Oper)(Q:aL->Env->Heap->Prop)(l:List Oper):Env->Heap->Prop:=
 List.rec (motive:=λ_=>Env->Heap->Prop) (λenv H=>Q .normal env H) (λo rest ih=>OS P C n G GL ops o rest Q ih) l
def Dv (id:Nat)(Q:aL->Env->Heap->Prop):aL->Env->Heap->Prop
 |.exit i,e,h=>match Nat.beq i id with
  |true=>Q .normal e h
  |false=>Q (.exit i) e h
 |x,e,h=>Q x e h
structure Lp (c:Code) (env:Env) (H:Heap) (Q:aL->Env->Heap->Prop):Prop where
 h:bJ P C n (.loop c) env H Q
structure Dw (id:Nat) (ops:Array Oper) (env:Env) (H:Heap) (Q:aL->Env->Heap->Prop):Prop where
 h:bJ P C n (.region id ops true) env H Q
noncomputable def gV (c:Code):Env->Heap->(aL->Env->Heap->Prop)->Prop:=
 Code.rec (motive:=λ_=>Env->Heap->(aL->Env->Heap->Prop)->Prop)
  (λenv H Q=>Q .normal env H)
  (λid ops d env H Q=>match d with
   |false=>mN P C n G GL ops Q ops.toList env H
   |true=>Dw P C n id ops env H Q)
  (λ_ _ iha ihb env H Q=>iha env H (iT (λe h=>ihb e h Q) Q))
  (λc x y ihx ihy env H Q=>match ah env c with
   |some (.bool b)=>Sc b (ihx env H Q) (ihy env H Q)
   |_=>Cd P C n (.cond c x y) env H Q)
  (λid _ ih env H Q=>ih env H (Dv id Q))
  (λc _ env H Q=>Lp P C n c env H Q)
  (λf ps a b _ _ env H Q=>Cd P C n (.rangeFunc f ps a b) env H Q)
  (λid env H Q=>Q (.exit id) env H)
  (λc _ env H Q=>Cd P C n (.scope c) env H Q)
  (λl env H Q=>Cd P C n (.label l) env H Q)
  (λl env H Q=>Cd P C n (.goto l) env H Q)
  (λenv H Q=>Q .ret env H)
  (λw env H Q=>Cd P C n (.refuse w) env H Q) c
end
section
variable {P:Program} [Tab P] {C:Ctx} {n:Nat} {env:Env} {H:Heap} {Q:aL->Env->Heap->Prop} {ops:Array Oper} {rest:List Oper} {GL:List (Nat×List AVal)}
variable {eT:Option TypeId}
variable {d:Nat} {t:TypeId} {p:String} {af:Array Edge} {g:Option (Nat×Bool)} {b:Bool}
theorem X4 {l:List Oper}{env':Env}(hs:∀{D:List Deferred} R a,FS D n R env a->FS D n R env' a)(h:au P C n ops l env' H Q):au P C n ops l env H Q:=
 λR a w hm hf=>h R a w hm (hs R a hf)
theorem DC {c:Code}{env':Env}(hs:∀{D:List Deferred} R a,FS D n R env a->FS D n R env' a)(h:bJ P C n c env' H Q):bJ P C n c env H Q:=
 λR a w hm hf=>h R a w hm (hs R a hf)
theorem UT {l:List Oper}{H':Heap}(hs:H.Perm H')(h:au P C n ops l env H' Q):au P C n ops l env H Q:=
 λR a w hm hf=>h R a w (hm.perm hs) hf
theorem mQ {l:List Oper}{x:HEnt}(h:au P C n ops l env (H++[x]) Q):au P C n ops l env (x::H) Q:=
 UT (List.perm_append_singleton x H).symm h
theorem uj {D:List Deferred}{R:Seal}{a:Act}{s i:Nat}{v:Value}(hv:dc v=false)(hs:Env.get env s=some (.raw v))(hf:FS D n R env a):FS D n R ((s,.own i v)::env) a:=by
 refine⟨λk x hk=> ?_,hf.size,hf.defers⟩
 simp only[Env.get] at hk;split at hk
 ·rename_i hb;have:=m_ hb;subst this
  simp only[g_] at hk
  subst hk
  obtain⟨y,hy,hr⟩:=hf.fr _ _ hs
  exact⟨y,hy,aE.2 ⟨aq.1 hr,hv⟩⟩
 ·exact hf.fr k x hk
theorem fS {i:Nat}{v:Value}(hv:dc v=false)(h:au P C n ops rest ((d,.own i v)::env) H Q):au P C n ops rest ((d,.raw v)::env) H Q:=
 X4 (λR a hf=>by
  refine⟨λk y hk=> ?_,hf.size,hf.defers⟩;simp only[Env.get] at hk;split at hk
  ·rename_i hb;have:=m_ hb;subst this;simp only[g_] at hk;subst hk;obtain⟨z,hz,hr⟩:=hf.fr d (.raw v) (by simp[Env.get]);exact⟨z,hz,aE.2 ⟨aq.1 hr,hv⟩⟩
  ·rename_i hb;exact hf.fr k y (by simp only[Env.get,hb];exact hk)) h
theorem nu {op:Op}{av:AVal}(hg:aQ ops env g=some (b,b))(hdn:Nat.ble (d+1) n=true)(hr:bE P C H env op av)(h:au P C n ops rest ((d,av)::env) H Q):
  au P C n ops ({dst:=some d,op:=op,type:=t,pos:=p,after:=af,guard:=g}::rest) env H Q:=
 LJ hg rfl hdn (λR ρ w hm hf=>hr R ρ w hm hf _ _ _ _ _) h
theorem LK {op:Op}{F:Prop}{K:AVal->Prop}(hg:aQ ops env g=some (b,b))(hdn:Nat.ble (d+1) n=true)(h:Hh P C H env op F K)
  (hF:F->au P C n ops ({dst:=some d,op:=op,type:=t,pos:=p,after:=af,guard:=g}::rest) env H Q) (hK:∀av,K av->au P C n ops rest ((d,av)::env) H Q):
  au P C n ops ({dst:=some d,op:=op,type:=t,pos:=p,after:=af,guard:=g}::rest) env H Q:=by
 rcases h with h|⟨av,h1,h2⟩
 ·exact hF h
 ·exact nu hg hdn h1 (hK av h2)
theorem rz {a:AVal}{F:Prop}{K:List AVal->Prop}(h:cellsOf a F K):F\/(a.plain=true/\K a.cells):=by
 unfold cellsOf at h;split at h
 ·rw[cZ] at h;exact .inr ⟨rfl,h⟩
 ·exact .inl h
 ·rename_i h1 h2;refine .inr ⟨?_,?_⟩
  ·cases a<;>first|rfl|skip
   rename_i v;cases v<;>first|rfl|(exact absurd rfl (h2 _))
  ·cases a<;>first|exact h|(exact absurd rfl (h1 _))
theorem NC {R:Seal}{w:World}{i bl cap:Nat}{s:ω}(hi:H[i]? =some (.buf bl s cap))(hm:MS C R H w):MS C R (H.set i (.cells bl none (gp s cap))) w:=by
 obtain⟨_,C',e,fz,h1,h2,h3⟩:=hm.heap.holds _ (q_ hi);exact hm.swap hi rfl ⟨C',e,fz,h1,h2,h3,λ_ h=>nomatch h⟩
theorem BE {R:Seal}{w:World}{i bl cap:Nat}{s:ω}(hc:s.length<=cap)(hi:H[i]? =some (.cells bl eT (gp s cap)))(hm:MS C R H w):MS C R (H.set i (.buf bl s cap)) w:=by
 obtain⟨C',e,fz,h1,h2,h3,_⟩:=hm.heap.holds _ (q_ hi);exact hm.swap hi rfl ⟨hc,C',e,fz,h1,h2,h3⟩
theorem DH {l:List Oper}{H':Heap}(hs:∀R w,MS C R H w->MS C R H' w)(h:au P C n ops l env H' Q):au P C n ops l env H Q:=
 λR a w hm hf=>h R a w (hs R w hm) hf
theorem qi {i:Nat}{x y:HEnt}(hi:H[i]? =some x):(H.set i y)[i]? =some y:=by
 have:=(List.getElem?_eq_some_iff.1 hi).1;simp[this]
theorem Kb (i:Nat)(y z:HEnt):(H.set i y).set i z=H.set i z:=by simp
theorem pg {x:Oper}{e:Nat}{v:Bool}{j:Nat}{want:Bool}(ho:ops[j]? =some x)(he:x.dst=some e):aQ ops ((e,.bool v)::env) (some (j,want))=some (v,want):=by
 simp only[aQ,ho,he,Env.get,Nat.beq_refl]
variable {x y:Operand} {T:TypeId} {xT:TI} {tx ty:TypeId} {av:AVal}
theorem EO {R:Seal}{w:World}{i sz m:Nat}{v:Value}{cs:List AVal}(hm:MS C R H w)(hi:H[i]? =some (.row v eT sz m cs)):dc v=false:=by
 obtain⟨_,h⟩:=hm.heap.holds _ (q_ hi);rcases h with⟨rfl,_⟩|⟨_,_,_,_,_,rfl,_⟩<;>rfl
theorem mH {l:List Oper}{i sz m:Nat}{v:Value}{cs:List AVal}(hi:H[i]? =some (.row v eT sz m cs))(h:(∃a k c,v= .slice a k c/\G6 m a k)->au P C n ops l env H Q):au P C n ops l env H Q:=λR a w hm hf=>by
 obtain⟨_,hh⟩:=hm.heap.holds _ (q_ hi);refine h ?_ R a w hm hf;rcases hh with⟨rfl,rfl⟩|⟨_,_,_,_,_,rfl,_⟩
 ·exact⟨_,_,_,rfl,λh=>absurd h (Nat.lt_irrefl _)⟩
 ·exact⟨_,_,_,rfl,λ_=>⟨_,rfl,rfl⟩⟩
theorem Fh {j0 i bl o:Nat}{cs:List AVal}(hg:aQ ops env g=some (b,b))
  (hx:ah env x=some (.own j0 (.pointer (some ⟨bl,o,none⟩)))) (hy:ah env y=some av) (hi:H[i]? =some (.cells bl eT cs)) (h1:bj P T=some xT) (h2:av.cells.length=xT.size)
  (hc:Nat.ble (o+xT.size) cs.length=true) (hp:av.plain=true) (hok:ld av.cells=true)
  (h:au P C n ops rest env (H.set i (.cells bl eT (cs.take o++av.cells++cs.drop (o+xT.size)))) Q):
  au P C n ops ({dst:=none,op:=.store T x y,type:=t,pos:=p,after:=af,guard:=g}::rest) env H Q:=by
 refine og hg rfl (λR ρ w hm hf=> ?_) h;have hc:=v_ hc;obtain⟨Cs,el,fz,hb,hl,hfz⟩:=lB hm hi;have hlen:=aJ hl;simp only[r_] at hlen;have hv:=lA (hf _ _ hy) hp;have hvl:=aJ hv;simp only[r_] at hvl;obtain⟨w',hr,ho⟩:=fu (P:=P) (ρ y).cells.toList o 0 Cs w hb (by simp only[r_];omega) hfz.1 (oh hv hok);refine⟨w',R,?_,Seal.le_refl R,hm.write hi rfl ho rfl ?_⟩
 ·simp only[execOp,(aE.1 (hf _ _ hx)).1,Instr.storeAt,Instr.sureAddr,storeVar,e_,h_,c_,aM h1];rw[if_neg a_];simp only[e_,h_,c_,hr]
 ·refine⟨_,_,_,ho.at_,?_,?_⟩
  ·simp only[Nat.add_zero,r_,hvl,h2];exact cp (cp (di o hl) hv) (dz _ hl)
  ·simp only[Nat.add_zero,r_,hvl,h2,Y_,d_,i_,k_];have:min o Cs.size+xT.size+(Cs.size-(o+xT.size))=Cs.size:=by omega
   rw[this];exact hfz
theorem sj {j0 i bl o n0 sz:Nat}{v:Value}{cs:List AVal}(hg:aQ ops env g=some (b,b))
  (hx:ah env x=some (.own j0 (.pointer (some ⟨bl,o,none⟩)))) (hy:ah env y=some av) (hi:H[i]? =some (.row v eT sz n0 cs)) (hr:bZ v bl n0) (h0:0<n0) (h1:bj P T=some xT) (h2:av.cells.length=xT.size)
  (hc:o+xT.size<=n0*sz) (hp:av.plain=true) (hok:ld av.cells=true)
  (h:au P C n ops rest env (H.set i (.row v eT sz n0 (cs.take o++av.cells++cs.drop (o+xT.size)))) Q):
  au P C n ops ({dst:=none,op:=.store T x y,type:=t,pos:=p,after:=af,guard:=g}::rest) env H Q:=by
 refine og hg rfl (λR ρ w hm hf=> ?_) h;obtain⟨hlen,cap,Cs,el,fz,rfl,hb,hsz,hnc,hl,hfz⟩:=tC hm hi hr h0;have hmul:n0*sz<=cap*sz:=aah _ hnc;have hv:=lA (hf _ _ hy) hp;have hvl:=aJ hv;simp only[r_] at hvl;obtain⟨w',hr',ho⟩:=fu (P:=P) (ρ y).cells.toList o 0 Cs w hb (by simp only[r_];omega) hfz.1 (oh hv hok);refine⟨w',R,?_,Seal.le_refl R,hm.write hi rfl ho rfl ?_⟩
 ·simp only[execOp,(aE.1 (hf _ _ hx)).1,Instr.storeAt,Instr.sureAddr,storeVar,e_,h_,c_,aM h1];rw[if_neg a_];simp only[e_,h_,c_,hr']
 ·refine⟨by simp only[d_,i_,k_];omega,.inr ⟨bl,cap,_,_,_,rfl,ho.at_,?_,hnc,?_,?_⟩⟩
  ·simp only[Nat.add_zero,r_,hvl,h2,Y_,d_,i_,k_];omega
  ·have e1:(Cs.toList.take (o+0)++(ρ y).cells.toList++Cs.toList.drop (o+0+(ρ y).cells.toList.length)).take (n0*sz)=(Cs.toList.take (n0*sz)).take o++(ρ y).cells.toList++(Cs.toList.take (n0*sz)).drop (o+xT.size):=by
    have hl1:(Cs.toList.take o).length=o:=by rw[i_,r_];omega
    have hl2:(ρ y).cells.toList.length=xT.size:=by rw[r_];omega
    rw[Nat.add_zero,hl2,List.take_append,d_,hl1,hl2,u_ (by rw[d_,hl1,hl2];omega),R_,Nat.min_eq_left a_,List.drop_take]
   simp only[];rw[e1];exact cp (cp (di o hl) hv) (dz _ hl)
  ·simp only[Nat.add_zero,r_,hvl,h2,Y_,d_,i_,k_];have:min o Cs.size+xT.size+(Cs.size-(o+xT.size))=Cs.size:=by omega
   rw[this];exact hfz
theorem CK {j0 i bl pos:Nat}{s:ω}(hg:aQ ops env g=some (b,b))(hdn:Nat.ble (d+1) n=true)(hx:ah env x=some (.own j0 (.pointer (some ⟨bl,0,none⟩))))(hi:H[i]? =some (.iter bl s pos))(hlt:pos<s.length)
  (h:au P C n ops rest ((d,.tuple [.bool true,.int .i64 (pos:Int),.int .i32 ((Utf8.decode ⟨s.toArray⟩ pos).1:Int)])::env) (H.set i (.iter bl s (pos+(Utf8.decode ⟨s.toArray⟩ pos).2))) Q):
  au P C n ops ({dst:=some d,op:=.next x true,type:=t,pos:=p,after:=af,guard:=g}::rest) env H Q:=by
 refine uz hg rfl hdn (λR ρ w hm hf=> ?_) h;have hb:w.heap[bl]? =some (.stringIter ⟨s.toArray⟩ pos):=hm.heap.holds _ (q_ hi);have hlt':=qf hb;have ho:oj w bl (.stringIter ⟨s.toArray⟩ (pos+(Utf8.decode ⟨s.toArray⟩ pos).2)) {w with heap:=w.heap.setIfInBounds bl (.stringIter ⟨s.toArray⟩ (pos+(Utf8.decode ⟨s.toArray⟩ pos).2))}:=
  ⟨rfl,rfl,rfl,by simp,by simp[hlt'],λk hk=>by simp only[];rw[Array.getElem?_setIfInBounds_ne (Ne.symm hk)]⟩
 refine⟨.tuple #[.bool true,.int .i64 (pos:Int),.int .i32 ((Utf8.decode ⟨s.toArray⟩ pos).1:Int)],{w with heap:=w.heap.setIfInBounds bl (.stringIter ⟨s.toArray⟩ (pos+(Utf8.decode ⟨s.toArray⟩ pos).2))},R,?_,Seal.le_refl R,?_,
  hm.write hi rfl ho rfl ho.at_⟩
 ·simp only[execOp,(aE.1 (hf _ _ hx)).1,Instr.next,e_,gc hb (by simp),c_,bM,if_pos hlt];simp only[setObj,Sem.run,hb];rfl
 ·exact⟨⟨_,rfl,_,_,rfl,⟨rfl,rfl⟩,_,_,rfl,⟨rfl,rfl⟩,_,_,rfl,⟨rfl,rfl⟩,rfl⟩,rfl⟩
theorem CL {j0 i bl pos:Nat}{s:ω}(hg:aQ ops env g=some (b,b))(hdn:Nat.ble (d+1) n=true)(hx:ah env x=some (.own j0 (.pointer (some ⟨bl,0,none⟩))))(hi:H[i]? =some (.iter bl s pos))(hlt:s.length<=pos)
  (h:au P C n ops rest ((d,.tuple [.bool false])::env) H Q):
  au P C n ops ({dst:=some d,op:=.next x true,type:=t,pos:=p,after:=af,guard:=g}::rest) env H Q:=by
 refine LJ hg rfl hdn (λR ρ w hm hf=> ?_) h;have hb:w.heap[bl]? =some (.stringIter ⟨s.toArray⟩ pos):=hm.heap.holds _ (q_ hi);refine⟨.tuple #[.bool false],?_,⟨⟨_,rfl,_,_,rfl,⟨rfl,rfl⟩,rfl⟩,rfl⟩⟩;simp only[execOp,(aE.1 (hf _ _ hx)).1,Instr.next,e_,gc hb (by simp),c_,bM];rw[if_neg a_];rfl
theorem PB {j0 i bl pos:Nat}{s:ω}(hg:aQ ops env g=some (b,b))(hdn:Nat.ble (d+1) n=true)(hx:ah env x=some (.own j0 (.pointer (some ⟨bl,0,none⟩))))(hi:H[i]? =some (.iter bl s pos))
  (hmore:pos<s.length->au P C n ops rest ((d,.tuple [.bool true,.int .i64 (pos:Int),.int .i32 (fw (s.drop pos):Int)])::env) (H.set i (.iter bl s (pos+eY (s.drop pos)))) Q)
  (hdone:s.length<=pos->au P C n ops rest ((d,.tuple [.bool false])::env) H Q):
  au P C n ops ({dst:=some d,op:=.next x true,type:=t,pos:=p,after:=af,guard:=g}::rest) env H Q:=by
 by_cases hlt:pos<s.length
 ·refine CK hg hdn hx hi hlt ?_;have e:=sQ s pos hlt;have h:=hmore hlt;have e1:(Utf8.decode ⟨s.toArray⟩ pos).1=fw (s.drop pos):=by rw[e];unfold fw;split<;>rfl
  have e2:(Utf8.decode ⟨s.toArray⟩ pos).2=eY (s.drop pos):=by rw[e];unfold eY;split<;>rfl
  rw[e1,e2];exact h
 ·exact CL hg hdn hx hi a_ (hdone a_)
theorem AO {j0 i m n0 sz:Nat}{v:Value}{xa:AVal}{cs new z:List AVal}{tx e:TypeId}{xe:TI}(hg:aQ ops env g=some (b,b))(hdn:Nat.ble (d+1) n=true)
  (hx:ah env x=some (.own j0 v)) (hi:H[i]? =some (.row v eT sz n0 cs)) (hy:ah env y=some xa)
  (h1:bj P T=some xT) (h2:xT.desc= .slice e) (h3:bj P e=some xe) (h4:xe.size=sz) (h5:Nat.ble 1 sz=true) (h6:Nat.ble xe.bytes 1024=true) (h7:bK xe.zero=some z) (h8:z.length=sz)
  (hs:∀R v,bn R xa v->G5 P R sz tx v m new) (hlen:n0+m<=137438953472) (hty:∀t,eT=some t->e=t)
  (h:∀v':Value,au P C n ops rest ((d,.own i v')::env) (H.set i (.row v' eT sz (n0+m) (cs++new))) Q):
  au P C n ops ({dst:=some d,op:=.call {callee:=.builtin .append,args:=[x,y].toArray,argTypes:=[T,tx].toArray},type:=t,pos:=p,after:=af,guard:=g}::rest) env H Q:=by
 refine gR (av:=λv':Value=>.own i v') (H':=λv'=>H.set i (.row v' eT sz (n0+m) (cs++new))) hg rfl hdn (λR ρ w hm hf=> ?_) h;obtain⟨v',w',hr,hm'⟩:=zg (T:=T) (tx:=tx) t hm hi h1 h2 h3 h4 (Al h7 h8) (v_ h6) (hs R _ (hf _ _ hy)) (v_ h5) hlen hty;refine⟨v',v',w',R,?_,Seal.le_refl R,aE.2 ⟨rfl,EO hm' (qi hi)⟩,hm'⟩;simp only[execOp,resolve,e_,h_,c_,invoke,builtin,X_,S_,Z_,(aE.1 (hf _ _ hx)).1,hr]
end
end
end Go.Proofs.YtgpjhbhdbjdlgaaGreatDoor
