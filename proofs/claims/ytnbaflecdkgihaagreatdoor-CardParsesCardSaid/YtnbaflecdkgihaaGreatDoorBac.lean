/- Parts of the proof of cardParses_card. -/
import Derived.Carry
import Derived.Test.YtnbaflecdkgihaaGreatDoorBab
set_option linter.unusedVariables false
set_option linter.unusedSimpArgs false
set_option linter.unusedSectionVars false
namespace Go.Proofs.YtnbaflecdkgihaaGreatDoor
open Tryz
set_option maxRecDepth 20000
set_option maxHeartbeats 4000000
section
open Go
structure Sp (p k:Prop):Prop where
 p:p
 k:k
structure Sc (b:Bool) (t f:Prop):Prop where
 t:b=true->t
 f:b=false->f
theorem oA {p k:Prop}(hp:p)(hk:k):Sp p k:=⟨hp,hk⟩
theorem ja {t f:Prop}(h:t):Sc true t f:=⟨λ_=>h,λe=>by cases e⟩
theorem ef {t f:Prop}(h:f):Sc false t f:=⟨λe=>(by cases e),λ_=>h⟩
theorem rF {x y:Int}{t f:Prop}(ht:x<y->t)(hf:y<=x->f):Sc (nY x y) t f:=⟨λe=>ht (nX.1 e),λe=>hf (oP.1 e)⟩
theorem nq {x y:Int}{t f:Prop}(ht:y<=x->t)(hf:x<y->f):Sc (!nY x y) t f:=⟨λe=>ht (oP.1 (by simpa using e)),λe=>hf (nX.1 (by simpa using e))⟩
theorem rG {x y:Int}{t f:Prop}(ht:x=y->t)(hf:x≠y->f):Sc (bU x y) t f:=⟨λe=>ht (fA.1 e),λe=>hf (lK.1 e)⟩
theorem nt {x y:Int}{t f:Prop}(ht:x≠y->t)(hf:x=y->f):Sc (!bU x y) t f:=⟨λe=>ht (lK.1 (by simpa using e)),λe=>hf (fA.1 (by simpa using e))⟩
theorem nr {x:List UInt8}{t f:Prop}(ht:x.length=0->t)(hf:x.length≠0->f):Sc (aY x []) t f:=⟨λe=>ht (by have:=bZ.1 e;subst this;rfl),λe=>hf (λh=>(ku.1 e) (s_ h))⟩
theorem kV {x:List UInt8}{t f:Prop}(ht:x.length≠0->t)(hf:x.length=0->f):Sc (!aY x []) t f:=by
 refine⟨λe=>ht λh=> ?_,λe=>hf ?_⟩
 ·exact(ku.1 (by simpa using e)) (s_ h)
 ·have e:aY x []=true:=by simpa using e
  have:=bZ.1 e;subst this;rfl
theorem np {x y:List UInt8}{t f:Prop}(ht:x=y->t)(hf:x≠y->f):Sc (aY x y) t f:=⟨λe=>ht (bZ.1 e),λe=>hf (ku.1 e)⟩
theorem kU {x y:List UInt8}{t f:Prop}(ht:x≠y->t)(hf:x=y->f):Sc (!aY x y) t f:=⟨λe=>ht (ku.1 (by simpa using e)),λe=>hf (bZ.1 (by simpa using e))⟩
theorem aT {b:Bool}{t f:Prop}(h:Sc b f t):Sc (!b) t f:=⟨λe=>h.2 (by simpa using e),λe=>h.1 (by simpa using e)⟩
theorem bM {a b:Bool}{t f:Prop}(h:Sc a t (Sc b t f)):Sc (a||b) t f:=by
 cases a
 ·exact⟨λe=>(h.2 rfl).1 (by simpa using e),λe=>(h.2 rfl).2 (by simpa using e)⟩
 ·exact⟨λ_=>h.1 rfl,λe=>by simp at e⟩
theorem cR {b:Bool}{t f:Prop}(ht:b=true->t)(hf:b=false->f):Sc b t f:=⟨ht,hf⟩
structure Ix (i:Int) (m:Nat) (K:Nat->Prop):Prop where
 p:0<=i/\i<m
 k:K i.toNat
theorem VM {i m:Nat}{K:Nat->Prop}(h:i<m)(k:K i):Ix (i:Int) m K:=⟨⟨a_,a_⟩,by simpa using k⟩
theorem VN {i:Int}{m:Nat}{K:Nat->Prop}(h:0<=i/\i<m)(k:K i.toNat):Ix i m K:=⟨h,k⟩
structure Sl (i j:Int) (m:Nat) (K:Nat->Nat->Prop):Prop where
 p:0<=i/\i<=j/\j<=m
 k:K i.toNat j.toNat
theorem UT {i j m:Nat}{K:Nat->Nat->Prop}(h:i<=j/\j<=m)(k:K i j):Sl (i:Int) (j:Int) m K:=⟨⟨a_,a_,a_⟩,by simpa using k⟩
theorem UU {i j:Int}{m:Nat}{K:Nat->Nat->Prop}(h:0<=i/\i<=j/\j<=m)(k:K i.toNat j.toNat):Sl i j m K:=⟨h,k⟩
structure Bx (s:List UInt8) (i:Nat) (k:Prop):Prop where
 h:aa s i<256->k
theorem cX {s:List UInt8}{i:Nat}{k:Prop}(h:aa s i<256->k):Bx s i k:=⟨h⟩
inductive Cx (P:Program) (G:Glo) (f:FuncId) (avs:List AVal) (H:Heap) (K:AVal->Heap->Prop) (Kp:AVal->Heap->Prop):Prop
 |mk (Qf:ct->Heap->Prop) (hs:ad P G f avs H Qf) (hr:∀v H',Qf (.ret v) H'->K v H') (hp:∀v H',Qf (.panic v) H'->Kp v H')
structure Ab (K:Nat->Prop):Prop where
 h:∀bl,K bl
structure Av (K:Value->Prop):Prop where
 h:∀v,K v
structure Ac (p:Nat->Prop) (K:Nat->Nat->Prop):Prop where
 h:∀bl cap,p cap->K bl cap
theorem cY {K:Nat->Prop}(h:∀bl,K bl):Ab K:=⟨h⟩
def Gj (m:Nat)(a:Option Addr)(k:Nat):Prop:=0<m->∃b,a=some ⟨b,0,none⟩/\k=m
structure As (m:Nat) (K:Value->Prop):Prop where
 h:∀(a:Option Addr) (n c:Nat),Gj m a n->K (.slice a n c)
theorem dv {m:Nat}{K:Value->Prop}(h:∀(a:Option Addr) (n c:Nat),Gj m a n->K (.slice a n c)):As m K:=⟨h⟩
theorem du {K:Value->Prop}(h:∀v,K v):Av K:=⟨h⟩
theorem dw {p:Nat->Prop}{K:Nat->Nat->Prop}(h:∀bl cap,p cap->K bl cap):Ac p K:=⟨h⟩
inductive Ch (a b:Prop):Prop
 |inl (h:a)
 |inr (h:b)
inductive Bo (a b:Prop):Prop
 |inl (h:a)
 |inr (h:b)
theorem dI {a b:Prop}(h:a):Bo a b:=.inl h
theorem WC {a b:Prop}(h:b):Bo a b:=.inr h
inductive Ia (P:Program) (ty:TypeId) (S T:TypeId) (a b:Prop):Prop
 |hit (h:∀v w,(Instr.typeAssert (.iface ty v) S T true).run P w= .ok (.tuple #[.iface ty v,.bool true]) w) (k:a)
 |miss (h:∀v w,(Instr.typeAssert (.iface ty v) S T true).run P w= .ok (.tuple #[.nilIface,.bool false]) w) (k:b)
inductive Gt (cs:List AVal) (o:Nat) (K:AVal->Prop):Prop
 |mk (a:AVal) (h:cs[o]? =some a) (ha:a.isAgg=false) (k:K a)
inductive Gs (cs:List AVal) (o sz:Nat) (K:List AVal->Prop):Prop
 |mk (c:List AVal) (h:(cs.drop o).take sz=c) (k:K c)
theorem k7 {cs:List AVal}{o:Nat}{K:AVal->Prop}{a:AVal}(h:cs[o]? =some a)(ha:a.isAgg=false)(k:K a):Gt cs o K:=.mk a h ha k
theorem yb {cs:List AVal}{o sz:Nat}{K:List AVal->Prop}{c:List AVal}(h:(cs.drop o).take sz=c)(k:K c):Gs cs o sz K:=.mk c h k
theorem Wx {a b:Prop}(h:b):Ch a b:=.inr h
def kA {β:Type}:List AVal->(List AVal->β)->β
 |[],k=>k []
 |c::cs,k=>kA cs (λr=>k (c::r))
theorem cZ {β:Type}:∀(l:List AVal) (k:List AVal->β),kA l k=k l
 |[],_=>rfl
 |_::cs,k=>cZ cs _
def ep {β:Type}:Heap->(Heap->β)->β
 |[],k=>k []
 |c::cs,k=>ep cs (λr=>k (c::r))
theorem bq {β:Type}:∀(l:Heap) (k:Heap->β),ep l k=k l
 |[],_=>rfl
 |_::cs,k=>bq cs _
abbrev Xf:=(AVal->Prop)->Prop
def Pm:IntKind->Nat
 |.i8=>0|.i16=>1|.i32=>2|.i64=>3|.u8=>4|.u16=>5|.u32=>6|.u64=>7
theorem xH {k j:IntKind}(h:Nat.beq (Pm k) (Pm j)=true):j=k:=by
 have:=m_ h
 cases k<;>cases j<;>simp[Pm] at this<;>rfl
def O3:List (Nat×Nat×Int):=[(1,1,2),(3,2,4),(7,3,8),(15,4,16),(31,5,32),(63,6,64),(127,7,128),(255,8,256),(1023,10,1024),(4095,12,4096),(65535,16,65536)]
def Ar (c:Nat):List (Nat×Nat×Int)->Option (Nat×Int)
 |[]=>none
 |(m,e,q)::r=>match Nat.beq m c with
  |true=>some (e,q)
  |false=>Ar c r
theorem O4 {c e:Nat}{q:Int}(h:Ar c O3=some (e,q)):c=2^e-1/\B3 MX e=some q:=by
 have key:∀l:List (Nat×Nat×Int),(∀x∈l,x.1=2^x.2.1-1/\B3 MX x.2.1=some x.2.2)->Ar c l=some (e,q)->c=2^e-1/\B3 MX e=some q:=by
  intro l;induction l with
  |nil=>intro _ h;simp[Ar] at h
  |cons x r ih=>
   obtain⟨m,e',q'⟩:=x;intro hl h;simp only[Ar] at h;split at h
   ·rename_i hb;have:=m_ hb;simp only[g_,YV] at h;obtain⟨rfl,rfl⟩:=h;have h1:=hl (m,e',q') (by simp);exact⟨by rw[<-this];exact h1.1,h1.2⟩
   ·exact ih (λx hx=>hl x (by simp[hx])) h
 exact key O3 b_ h
def aR (m q:Int):Prop:=(m%16=0/\q<16)\/(m%64=0/\q<64)\/(m%256=0/\q<256)\/(m%4096=0/\q<4096)\/(m%262144=0/\q<262144)
def H8 (op:BinOp)(k:IntKind)(m q:Int)(F:Prop):Xf:=λK=>
 match lB op k m q with
 |some av=>K av
 |none=>F
def IP (op:BinOp)(k:IntKind)(m q:Int)(y:Operand)(F:Prop):Xf:=λK=>
 match fe k with
 |(lo,hi)=>match op with
  |.add=>Ch (Sp (lo<=m+q/\m+q<=hi) (K (.int k (m+q)))) (K (.int k (k.wrap (m+q))))
  |.sub=>Ch (Sp (lo<=m-q/\m-q<=hi) (K (.int k (m-q)))) (K (.int k (k.wrap (m-q))))
  |.mul=>Ch (Sp (lo<=m*q/\m*q<=hi) (K (.int k (m*q)))) (K (.int k (k.wrap (m*q))))
  |.quo=>Sp (0<=m/\0<q/\m<=hi) (K (.int k (m/q)))
  |.rem=>Ch (Sp (0<=m/\0<q) (K (.int k (m%q)))) (Sp (0<q) (K (.int k (m.tmod q))))
  |.or=>Ch (Sp (0<=m/\0<=q/\m+q<=hi/\aR m q) (K (.int k (m+q)))) (H8 .or k m q F K)
  |.and=>match y with
   |.const (.int _ (.ofNat c))=>match Ar c O3 with
    |some (e,c')=>match Nat.ble (e+1) k.bits with
     |true=>Ch (Sp (0<=m/\m<=hi) (K (.int k (m%c')))) (H8 .and k m q F K)
     |false=>F
    |none=>H8 .and k m q F K
   |_=>Ch (Sp (0<=m/\0<=q/\m<=hi/\q<=hi) (K (.int k ((m.toNat&&& q.toNat:Nat):Int)))) (H8 .and k m q F K)
  |op=>match Qu op m q with
   |some av=>K av
   |none=>H8 op k m q F K
def G0 (op:BinOp)(k:IntKind)(m:Int)(y:Operand)(F:Prop):Xf:=λK=>
 match y with
 |.const (.int _ (.ofNat s))=>match B3 MX s with
  |some c=>match Nat.ble s k.bits with
   |true=>match fe k with
    |(lo,hi)=>match op with
     |.shl=>Ch (Sp (lo<=m*c/\m*c<=hi) (K (.int k (m*c)))) (K (.int k (k.wrap (m*c))))
     |.shr=>K (.int k (m/c))
     |_=>F
   |false=>F
  |none=>F
 |_=>F
def SJ:BinOp->Bool
 |.shl=>true
 |.shr=>true
 |_=>false
section
variable (P:Program) [Tab P]
def WE (env:Env)(op:BinOp)(tx:TypeId)(x y:Operand)(F:Prop):Xf:=λK=>
 match ai env x with
 |some (.int k m)=>match SJ op with
  |true=>G0 op k m y F K
  |false=>match ai env y with
   |some (.int j q)=>match Nat.beq (Pm k) (Pm j) with
    |true=>IP op k m q y F K
    |false=>F
   |_=>F
 |some (.str s)=>match ai env y with
  |some (.str t)=>match op with
   |.add=>Sp (s.length+t.length<=9223372036854775807) (K (.str (s++t)))
   |_=>match GU op s t with
    |some av=>K av
    |none=>F
  |_=>F
 |some (.bool a)=>match ai env y with
  |some (.bool c)=>match bi P tx with
   |some xT=>match xT.desc,op with
    |.bool,.eql=>K (.bool (a==c))
    |_,_=>F
   |none=>F
  |_=>F
 |some a=>match y with
  |.const z=>match bi P tx with
   |some xT=>match Cg xT.desc a,qy xT.desc with
    |some c,some z'=>match op with
     |.eql=>Sp (z'=z) (K (.bool c))
     |.neq=>Sp (z'=z) (K (.bool (!c)))
     |_=>F
    |_,_=>F
   |none=>F
  |_=>F
 |none=>F
def VG (env:Env)(H:Heap)(T:TypeId)(x:Operand)(F:Prop):Xf:=λK=>
 match bi P T with
 |some xT=>match ai env x,xT.desc with
  |some (.str m),.string=>K (.int .i64 (m.length:Int))
  |some (.list _ m _),.slice _=>K (.int .i64 (m:Int))
  |some (.raw (.slice _ m _)),.slice _=>K (.int .i64 (m:Int))
  |some (.own i v),.slice _=>match H[i]? with
   |some (.row v' eT _ m _)=>Sp (v'=v) (K (.int .i64 (m:Int)))
   |_=>match v with
    |.slice _ m _=>K (.int .i64 (m:Int))
    |_=>F
  |_,_=>F
 |none=>F
def vm (env:Env)(mx:Bool)(x y:Operand)(F:Prop):Xf:=λK=>
 match ai env x,ai env y with
 |some (.int k m),some (.int j q)=>match Nat.beq (Pm k) (Pm j),mx with
  |true,false=>K (.int k (min m q))
  |true,true=>K (.int k (max m q))
  |_,_=>F
 |_,_=>F
def IJ (env:Env)(H:Heap)(b:Builtin)(args:List Operand)(ts:List TypeId)(F:Prop):Xf:=λK=>
 match b,args,ts with
 |.len,[x],[T]=>VG P env H T x F K
 |.min,[x,y],_=>vm env false x y F K
 |.max,[x,y],_=>vm env true x y F K
 |_,_,_=>F
structure Sd (i:Int) (m:Nat) (K:Nat->Prop):Prop where
 p:0<=i/\i<=m
 k:K i.toNat
def tF (env:Env)(x:Operand)(F:Prop)(K:Int->Prop):Prop:=
 match ai env x with
 |some (.int _ i)=>K i
 |_=>F
def vD (env:Env)(m:Nat)(lo hi:Option Operand)(F:Prop)(K0:Prop)(Kf Kt:Nat->Prop)(K:Nat->Nat->Prop):Prop:=
 match lo,hi with
 |none,none=>K0
 |some a,none=>tF env a F λi=>Sd i m Kf
 |none,some b=>tF env b F λj=>Sd j m Kt
 |some a,some b=>tF env a F λi=>tF env b F λj=>Sl i j m K
def GY (env:Env)(T:TypeId)(x:Operand)(lo hi mx:Option Operand)(F:Prop):Xf:=λK=>
 match mx with
 |some _=>F
 |none=>match bi P T with
  |some xT=>match ai env x,xT.desc with
   |some (.str m),.string=>vD env m.length lo hi F (K (.str m)) (λi=>K (.str (m.drop i))) (λj=>K (.str (m.take j))) (λi j=>K (.str ((m.take j).drop i)))
   |some (.list sz m f),.slice e=>match bi P e with
    |some xe=>match Nat.beq xe.size sz with
     |true=>vD env m lo hi F (K (.list sz m f)) (λi=>K (.list sz (m-i) (λk=>f (i+k)))) (λj=>K (.list sz j f)) (λi j=>K (.list sz (j-i) (λk=>f (i+k))))
     |false=>F
    |none=>F
   |_,_=>F
  |none=>F
def HY (env:Env)(T:TypeId)(x y:Operand)(F:Prop):Xf:=λK=>
 match bi P T with
 |some xT=>match ai env x,xT.desc with
  |some (.str m),.string=>tF env y F λi=>Ix i m.length λj=>Bx m j (K (.int .u8 (aa m j:Int)))
  |_,_=>F
 |none=>F
def oW:List (Nat×List AVal)->Nat->Option (List AVal)
 |[],_=>none
 |(g,cs)::r,k=>match Nat.beq g k with
  |true=>some cs
  |false=>oW r k
def FV (ag:Bool)(sz:Nat)(cs:List AVal)(o:Nat)(F:Prop):Xf:=λK=>
 match ag with
 |true=>match Nat.ble (o+sz) cs.length with
  |true=>kA ((cs.drop o).take sz) λc=>K (.agg c)
  |false=>F
 |false=>match cs[o]? with
  |some av=>match av.isAgg with
   |false=>K av
   |true=>F
  |none=>F
def EW (GL:List (Nat×List AVal))(env:Env)(H:Heap)(T:TypeId)(x:Operand)(F:Prop):Xf:=λK=>
 match bi P T with
 |some xT=>match x with
  |.global g=>match oW GL g with
   |some cs=>FV (co xT.desc) xT.size cs 0 F K
   |none=>F
  |_=>match ai env x with
   |some (.rop cs off)=>FV (co xT.desc) xT.size cs off F K
   |some (.own i (.pointer (some ⟨b,o,none⟩)))=>match H[i]? with
    |some (.cells b' eT cs)=>Sp (b'=b) (FV (co xT.desc) xT.size cs o F K)
    |some (.buf b' s _)=>match co xT.desc with
     |false=>Sp (b'=b/\o<s.length) (Bx s o (K (.int .u8 (aa s o:Int))))
     |true=>F
    |some (.row v' _ sz n cs)=>match co xT.desc with
     |false=>Sp (cd v' b n/\o<n*sz) (Gt cs o K)
     |true=>Sp (cd v' b n/\o+xT.size<=n*sz/\0<n) (Gs cs o xT.size λc=>K (.agg c))
    |_=>F
   |_=>F
 |none=>F
def lH (env:Env)(T:TypeId)(x:Operand)(k:Nat)(F:Prop):Xf:=λK=>
 match bi P T with
 |some xT=>match xT.desc with
  |.struct fs=>match fs[k]? with
   |some f=>match bi P f.type with
    |some xf=>match Nat.ble 1 xf.size with
     |true=>match ai env x with
      |some (.rop cs off)=>K (.rop cs (off+f.offset))
      |some (.own i (.pointer (some ⟨b,o,none⟩)))=>K (.own i (.pointer (some ⟨b,o+f.offset,none⟩)))
      |_=>F
     |false=>F
    |none=>F
   |none=>F
  |_=>F
 |none=>F
def P6 (a:AVal)(F:Prop):Xf:=λK=>
 match a with
 |.agg cs=>kA cs λc=>K (.rop c 0)
 |.raw (.agg _)=>F
 |a=>K (.rop [a] 0)
def ir (GL:List (Nat×List AVal))(env:Env)(T:TypeId)(x y:Operand)(F:Prop):Xf:=λK=>
 match bi P T with
 |some xT=>match xT.desc with
  |.slice e=>match bi P e with
   |some xe=>match ai env x with
    |some (.list sz m f)=>match Nat.beq xe.size sz with
     |true=>tF env y F λi=>Ix i m λj=>P6 (f j) F K
     |false=>F
    |some (.own i (.slice (some ⟨b,0,none⟩) m _))=>match Nat.beq xe.size 1 with
     |true=>tF env y F λk=>Ix k m λj=>K (.own i (.pointer (some ⟨b,j,none⟩)))
     |false=>tF env y F λk=>Ix k m λj=>K (.own i (.pointer (some ⟨b,j*xe.size,none⟩)))
    |_=>F
   |none=>F
  |.array len e=>match bi P e with
   |some xe=>match x with
    |.global g=>match oW GL g with
     |some cs=>tF env y F λi=>Ix i len λj=>K (.rop cs (j*xe.size))
     |none=>F
    |_=>match ai env x with
     |some (.own i (.pointer (some ⟨b,o,none⟩)))=>tF env y F λk=>Ix k len λj=>K (.own i (.pointer (some ⟨b,o+j*xe.size,none⟩)))
     |some (.rop cs off)=>tF env y F λk=>Ix k len λj=>K (.rop cs (off+j*xe.size))
     |_=>F
   |none=>F
  |_=>F
 |none=>F
def Ik (env:Env)(T:TypeId)(x:Operand)(k:Nat)(F:Prop):Xf:=λK=>
 match bi P T with
 |some xT=>match xT.desc with
  |.struct fs=>match fs[k]? with
   |some f=>match bi P f.type with
    |some xf=>match ai env x with
     |some (.agg cs)=>match co xf.desc with
      |true=>kA ((cs.drop f.offset).take xf.size) λc=>K (.agg c)
      |false=>match cs[f.offset]? with
       |some av=>match av.isAgg with
        |false=>K av
        |true=>F
       |none=>F
     |_=>F
    |none=>F
   |none=>F
  |_=>F
 |none=>F
def pP (env:Env)(x:Operand)(F:Prop):Xf:=λK=>
 match ai env x with
 |some (.rop cs off)=>K (.rop cs off)
 |some (.own i (.pointer (some a)))=>K (.own i (.pointer (some a)))
 |_=>F
def Qr (env:Env)(H:Heap)(S T:TypeId)(x:Operand)(F:Prop):Xf:=λK=>
 match bi P S,bi P T with
 |some xS,some xT=>match ai env x with
  |some (.int k m)=>match xT.desc with
   |.int j=>match fe j with
    |(lo,hi)=>Ch (Sp (lo<=m/\m<=hi) (K (.int j m))) (K (.int j (j.wrap m)))
   |_=>F
  |some (.own i (.slice (some ⟨b,0,none⟩) m _))=>match xS.desc,xT.desc with
   |.slice e,.string=>match bi P e with
    |some xe=>match xe.desc with
     |.int .u8=>match H[i]? with
      |some (.buf b' s _)=>Sp (b'=b/\m=s.length) (K (.str s))
      |_=>F
     |_=>F
    |none=>F
   |_,_=>F
  |_=>F
 |_,_=>F
def tU (env:Env)(T:TypeId)(l:List (Nat×Operand))(F:Prop):Xf:=λK=>
 match bi P T with
 |some xT=>match xT.desc with
  |.struct fs=>match jd env l,nx P fs.toList,bF xT.zero with
   |some ps,some pl,some z=>match qB pl z ps with
    |some cs=>kA cs λc=>K (.agg c)
    |none=>F
   |_,_,_=>F
  |.array m e=>match jd env l,bi P e,bF xT.zero with
   |some ps,some xe,some z=>match qB (uD m 0 xe.size) z ps with
    |some cs=>kA cs λc=>K (.agg c)
    |none=>F
   |_,_,_=>F
  |_=>F
 |none=>F
def tH (env:Env)(T:TypeId)(x:Operand)(F:Prop):Xf:=λK=>
 match bi P T,ai env x with
 |some xT,some v=>match gE xT.desc with
  |false=>K (.iface T v)
  |true=>F
 |_,_=>F
def CR (env:Env)(x:Operand)(S T:TypeId)(ok:Bool)(F:Prop):Xf:=λK=>
 match ok,bi P T with
 |true,some xT=>match ai env x with
  |some (.iface ty v)=>match gE xT.desc,Nat.beq ty T with
   |false,true=>K (.tuple [v,.bool true])
   |false,false=>match vP xT.zero with
    |some z=>K (.tuple [z,.bool false])
    |none=>F
   |true,_=>Ia P ty S T (K (.tuple [.iface ty v,.bool true])) (K (.tuple [.raw .nilIface,.bool false]))
  |some (.raw .nilIface)=>match vP xT.zero with
   |some z=>K (.tuple [z,.bool false])
   |none=>F
  |_=>F
 |_,_=>F
def Dm (GL:List (Nat×List AVal))(env:Env)(H:Heap)(op:Op)(F:Prop):Xf:=λK=>
 match op with
 |.move x|.assign x=>match ai env x with
  |some av=>K av
  |none=>F
 |.pick c x y=>match ai env c,ai env x,ai env y with
  |some (.bool b),some a,some a'=>Sc b (K a) (K a')
  |_,_,_=>F
 |.binOp op tx x y _=>WE P env op tx x y F K
 |.unOp .not _ x=>match ai env x with
  |some (.bool b)=>K (.bool (!b))
  |_=>F
 |.unOp .neg _ x=>match ai env x with
  |some (.int k m)=>match fe k with
   |(lo,hi)=>Sp (lo<=0-m/\0-m<=hi) (K (.int k (0-m)))
  |_=>F
 |.call ⟨.builtin b,args,ts⟩=>IJ P env H b args.toList ts.toList F K
 |.extract x i=>match ai env x with
  |some (.tuple cs)=>match cs[i]? with
   |some av=>K av
   |none=>F
  |_=>F
 |.index T x y=>HY P env T x y F K
 |.slice T x lo hi mx=>GY P env T x lo hi mx F K
 |.load T x=>EW P GL env H T x F K
 |.fieldAddr T x k=>lH P env T x k F K
 |.field T x k=>Ik P env T x k F K
 |.indexAddr T x y=>ir P GL env T x y F K
 |.nilCheck x=>pP env x F K
 |.convert S T x=>Qr P env H S T x F K
 |.build T l=>tU P env T l.toList F K
 |.makeInterface T x=>tH P env T x F K
 |.makeFunc fn l1 l2=>match kj env l1.toList,kj env l2.toList with
  |some a1,some a2=>K (.func fn a1 a2)
  |_,_=>F
 |.typeAssert x S T ok=>CR P env x S T ok F K
 |_=>F
end
theorem UY {i m:Nat}{K:Nat->Prop}(h:i<=m)(k:K i):Sd (i:Int) m K:=⟨⟨a_,a_⟩,by simpa using k⟩
theorem UZ {i:Int}{m:Nat}{K:Nat->Prop}(h:0<=i/\i<=m)(k:K i.toNat):Sd i m K:=⟨h,k⟩
section
variable {P:Program} [Tab P] {C:Ctx} {n:Nat} {env:Env} {H:Heap} {F:Prop} {K:AVal->Prop}
variable {av:AVal} {x y:Operand} {T:TypeId} {xT:TI} {tx ty:TypeId}
def ab (G:Glo)(GL:List (Nat×List AVal)):Prop:=∀g cs,oW GL g=some cs->KP G g cs
theorem al {G:Glo}:ab G []:=λ_ _ h=>by simp[oW] at h
theorem eI {op:Op}{s i:Nat}{v:Value}(hs:Env.get env s=some (.own i v))(h:bA P C H ((s,.raw v)::env) op av):bA P C H env op av:=by
 intro R ρ w hm hf;refine h R ρ w hm λx a hx=> ?_;cases x with
 |tmp t=>
  simp only[ai,Env.get] at hx;split at hx
  ·rename_i hb;have:=m_ hb;subst this;simp only[g_] at hx;subst hx;exact ar.2 (aG.1 (hf (.tmp s) _ hs)).1
  ·exact hf (.tmp t) a hx
 |const c=>rw[gt] at hx;exact hf (.const c) a (by rw[gt];exact hx)
 |global g=>exact hf (.global g) a hx
 |func f=>exact hf (.func f) a hx
theorem ma {i:Nat}{v:Value}(h:ai env x=some (.own i v)):∃s,x= .tmp s/\Env.get env s=some (.own i v):=by
 cases x with
 |tmp t=>exact⟨t,rfl,h⟩
 |const c=>cases c<;>simp[ai,JI,tM] at h
 |global g=>simp[ai] at h
 |func f=>simp[ai] at h
theorem ij {s:Nat}{a:AVal}:Env.get ((s,a)::env) s=some a:=by simp[Env.get]
theorem R5 (hx:ai env x=some av):bA P C H env (.move x) av:=λR ρ w hm hf _ _ _ _ _=>⟨ρ x,rfl,hf _ _ hx⟩
theorem Lm (hx:ai env x=some av):bA P C H env (.assign x) av:=λR ρ w hm hf _ _ _ _ _=>⟨ρ x,rfl,hf _ _ hx⟩
theorem R4 {c:Operand}{b:Bool}{a a':AVal}(hc:ai env c=some (.bool b))(hx:ai env x=some a)(hy:ai env y=some a'):bA P C H env (.pick c x y) (if b then a else a'):=by
 intro R ρ w hm hf _ _ _ _ _;have:=aO.1 (hf _ _ hc);cases b
 ·exact⟨ρ y,by simp only[execOp,this,asBool];rfl,hf _ _ hy⟩
 ·exact⟨ρ x,by simp only[execOp,this,asBool];rfl,hf _ _ hx⟩
theorem jk {k:IntKind}{m lo hi:Int}(hk:fe k=(lo,hi))(h:lo<=m/\m<=hi):gN k m:=XQ hk h.1 h.2
theorem R6 {k:IntKind}{j:IntKind}{m c:Int}{e:Nat}(hx:ai env x=some (.int k m))(hj:j=k)(hm:0<=m)(hm':gN k m)(he:Nat.ble (e+1) k.bits=true)(hc:B3 MX e=some c):
    bA P C H env (.binOp .and tx x (.const (.int j (Int.ofNat (2^e-1)))) ty) (.int k (m%c)):=by
  subst hj;have he:=v_ he;have hq:gN j (Int.ofNat (2^e-1)):=by
    have hp:0<2^e:=Nat.pow_pos a_
    have key:∀b,e+1<=b->2^e<=2^(b-1):=λb hb=>Nat.pow_le_pow_right a_ a_
    have:=key _ he
    cases j<;>simp only[IntKind.bits] at this he<;>simp only[gN,Int.ofNat_eq_natCast]<;>first|omega|(have:2^e<=2^8:=Nat.pow_le_pow_right a_ a_
                                                                                                                      omega)
  have e1:((m.toNat&&& (Int.ofNat (2^e-1)).toNat:Nat):Int)=m%(2^e:Nat):=by
    obtain⟨a,rfl⟩:=Int.eq_ofNat_of_zero_le hm
    simp only[B_,Int.ofNat_eq_natCast,Nat.and_two_pow_sub_one_eq_mod]
    simp
  refine ls hx (show ai env (.const (.int j (Int.ofNat (2^e-1))))=_ from rfl) ?_
  rw[lB,CN (λ_ a c=>a&&& c) (· &&& ·) (λa c=>by simp) (λa c e h1 h2=>Nat.and_lt_two_pow a h2) hm (by simp) hm' hq,e1,Ej hc]
theorem Lj {k:IntKind}{a q c:Int}{e:Nat}(hc:B3 MX e=some c)(hx:ai env x=some (.int k (a*c)))(hy:ai env y=some (.int k q))(ha:0<=a)(hq:0<=q)(hq':q<c)(hw:gN k (a*c+q)):
  bA P C H env (.binOp .or tx x y ty) (.int k (a*c+q)):=by
 rw[<-Ej hc] at hx hq' hw ⊢;obtain⟨a,rfl⟩:=Int.eq_ofNat_of_zero_le ha;obtain⟨q,rfl⟩:=Int.eq_ofNat_of_zero_le hq;have h0:(0:Int)<=(a:Int)*(2^e:Nat):=Int.mul_nonneg ha (Int.natCast_nonneg _);have h1:gN k (a*(2^e:Nat)):=by cases k<;>simp only[gN] at hw ⊢ <;>omega
 have h2:gN k (q:Int):=by cases k<;>simp only[gN] at hw ⊢ <;>omega
 have e1:((((a:Int)*(2^e:Nat)).toNat|||(q:Int).toNat:Nat):Int)=(a:Int)*(2^e:Nat)+q:=by
  rw[<-Int.natCast_mul,B_,B_,<-Nat.shiftLeft_eq,<-Nat.shiftLeft_add_eq_or_of_lt a_];rw[Nat.shiftLeft_eq];simp
 refine ls hx hy ?_;rw[lB,CN (λ_ a c=>a|||c) (· ||| ·) (λa c=>by simp) (λa c e h1 h2=>Nat.or_lt_two_pow h1 h2) h0 hq h1 h2,e1]
theorem mL {k:IntKind}{m q c:Int}(e:Nat)(hc:B3 MX e=some c)(hx:ai env x=some (.int k m))(hy:ai env y=some (.int k q))(hm:0<=m)(hd:m%c=0)(hq:0<=q)(hq':q<c)(hw:gN k (m+q)):
  bA P C H env (.binOp .or tx x y ty) (.int k (m+q)):=by
 have e1:m=m/c*c:=by have:=Int.mul_ediv_add_emod m c;rw[hd] at this;rw[Int.mul_comm];omega
 rw[e1] at hx hw ⊢;exact Lj hc hx hy (Int.ediv_nonneg hm a_) hq hq' hw
theorem sg {op:BinOp}{k:IntKind}{m q:Int}(hx:ai env x=some (.int k m))(hy:ai env y=some (.int k q))(h:H8 op k m q F K):
  F\/∃av,bA P C H env (.binOp op tx x y ty) av/\K av:=by
 unfold H8 at h;split at h
 ·rename_i av ho;exact .inr ⟨av,ls hx hy ho,h⟩
 ·exact .inl h
theorem RZ {k:IntKind}{m q:Int}(hx:ai env x=some (.int k m))(hy:ai env y=some (.int k q))(hq:0<q):bA P C H env (.binOp .rem tx x y ty) (.int k (m.tmod q)):=by
 intro R ρ w _hm hf dst t p af g;refine⟨_,?_,aq.2 rfl⟩;simp only[execOp,aq.1 (hf _ _ hx),aq.1 (hf _ _ hy),Go.binOp,eqGuard,Op.intDiv,Za,Zb,Zd];rw[if_neg (show ¬q=0 by omega)];rfl
theorem MH {op:BinOp}{k:IntKind}{m q:Int}(hx:ai env x=some (.int k m))(hy:ai env y=some (.int k q))(h:IP op k m q y F K):
  F\/∃av,bA P C H env (.binOp op tx x y ty) av/\K av:=by
 unfold IP at h;generalize hb:fe k=bd at h;obtain⟨lo,hi⟩:=bd;dsimp only at h;split at h
 ·rcases h with h|h
  ·exact .inr ⟨_,ls hx hy (by rw[lB,iF (jk hb h.1)]),h.2⟩
  ·exact .inr ⟨_,ls hx hy rfl,h⟩
 ·rcases h with h|h
  ·exact .inr ⟨_,ls hx hy (by rw[lB,iF (jk hb h.1)]),h.2⟩
  ·exact .inr ⟨_,ls hx hy rfl,h⟩
 ·rcases h with h|h
  ·exact .inr ⟨_,ls hx hy (by rw[lB,iF (jk hb h.1)]),h.2⟩
  ·exact .inr ⟨_,ls hx hy rfl,h⟩
 ·refine .inr ⟨_,U7 hx hy h.1.1 h.1.2.1 (jk hb ⟨?_,h.1.2.2⟩),h.2⟩;have h0:=h.1.1;cases k<;>simp only[fe,YV] at hb<;>omega
 ·rcases h with h|h
  ·exact .inr ⟨_,U6 hx hy h.1.1 h.1.2,h.2⟩
  ·exact .inr ⟨_,RZ hx hy h.1,h.2⟩
 ·rcases h with h|h
  rotate_left
  ·exact sg hx hy h
  obtain⟨⟨h0,h1,h2,h3⟩,hk⟩:=h;have hw:gN k (m+q):=jk hb ⟨by cases k<;>simp only[fe,YV] at hb<;>omega,h2⟩;rcases h3 with h3|h3|h3|h3|h3
  ·exact .inr ⟨_,mL 4 rfl hx hy h0 h3.1 h1 h3.2 hw,hk⟩
  ·exact .inr ⟨_,mL 6 rfl hx hy h0 h3.1 h1 h3.2 hw,hk⟩
  ·exact .inr ⟨_,mL 8 rfl hx hy h0 h3.1 h1 h3.2 hw,hk⟩
  ·exact .inr ⟨_,mL 12 rfl hx hy h0 h3.1 h1 h3.2 hw,hk⟩
  ·exact .inr ⟨_,mL 18 rfl hx hy h0 h3.1 h1 h3.2 hw,hk⟩
 ·split at h
  ·rename_i j c;split at h
   ·rename_i e c' he;split at h
    ·rename_i hbit;rcases h with h|h
     rotate_left
     ·exact sg hx hy h
     obtain⟨rfl,hp⟩:=O4 he;simp only[ai,JI,g_,AVal.int.injEq] at hy;refine .inr ⟨_,R6 hx hy.1 h.1.1 (jk hb ⟨?_,h.1.2⟩) hbit hp,h.2⟩;have h0:=h.1.1;cases k<;>simp only[fe,YV] at hb<;>omega
    ·exact .inl h
   ·exact sg hx hy h
  ·rcases h with h|h
   rotate_left
   ·exact sg hx hy h
   obtain⟨⟨h0,h1,h2,h3⟩,hk⟩:=h;have hm:gN k m:=jk hb ⟨by cases k<;>simp only[fe,YV] at hb<;>omega,h2⟩;have hq:gN k q:=jk hb ⟨by cases k<;>simp only[fe,YV] at hb<;>omega,h3⟩;refine .inr ⟨_,ls hx hy ?_,hk⟩;rw[lB,CN (λ_ a c=>a&&& c) (· &&& ·) (λa c=>by simp) (λa c e h1 h2=>Nat.and_lt_two_pow a h2) h0 h1 hm hq]
 ·split at h
  ·rename_i av hc;refine .inr ⟨av,ls hx hy ?_,h⟩;revert hc
   unfold Qu lB;split<;>simp
  ·exact sg hx hy h
theorem Li {op:BinOp}{k:IntKind}{m:Int}(hx:ai env x=some (.int k m))(h:G0 op k m y F K):
  F\/∃av,bA P C H env (.binOp op tx x y ty) av/\K av:=by
 unfold G0 at h;split at h
 ·split at h
  ·rename_i c hc;split at h
   ·rename_i hb;generalize hbd:fe k=bd at h;obtain⟨lo,hi⟩:=bd;dsimp only at h;split at h
    ·rcases h with h|h
     ·exact .inr ⟨_,U5 hx hb hc (jk hbd h.1),h.2⟩
     ·exact .inr ⟨_,DO hx hb hc,h⟩
    ·exact .inr ⟨_,U4 hx hb hc,h⟩
    ·exact .inl h
   ·exact .inl h
  ·exact .inl h
 ·exact .inl h
theorem Tr {op:BinOp}(h:WE P env op tx x y F K):F\/∃av,bA P C H env (.binOp op tx x y ty) av/\K av:=by
 unfold WE at h;split at h
 ·rename_i k m hx;split at h
  ·exact Li hx h
  ·split at h
   ·rename_i j q hy;split at h
    ·rename_i hk;have:=xH hk;subst this;exact MH hx hy h
    ·exact .inl h
   ·exact .inl h
 ·rename_i s hx;split at h
  ·rename_i t hy;split at h
   ·exact .inr ⟨_,Vc hx hy h.1,h.2⟩
   ·split at h
    ·rename_i av hs;exact .inr ⟨av,U3 hx hy hs,h⟩
    ·exact .inl h
  ·exact .inl h
 ·rename_i a hx;split at h
  ·rename_i c hy;split at h
   ·rename_i xT ht;split at h
    ·rename_i hd;exact .inr ⟨_,Ve hx hy (by rw[bN ht,hd]),h⟩
    ·exact .inl h
   ·exact .inl h
  ·exact .inl h
 ·rename_i a _ _ _ hx;split at h
  ·rename_i z;split at h
   ·rename_i xT ht;split at h
    ·rename_i c z' h1 h2;split at h
     ·obtain⟨rfl,h⟩:=h;exact .inr ⟨_,Ll hx ht h1 h2,h⟩
     ·obtain⟨rfl,h⟩:=h;exact .inr ⟨_,Lk hx ht h1 h2,h⟩
     ·exact .inl h
    ·exact .inl h
   ·exact .inl h
  ·exact .inl h
 ·exact .inl h
def Gw (P:Program)(C:Ctx)(H:Heap)(env:Env)(op:Op)(F:Prop)(K:AVal->Prop):Prop:=F\/∃av,bA P C H env op av/\K av
theorem dB {α:Type}{a:Array α}{l:List α}(h:a.toList=l):a=l.toArray:=by rw[<-h]
theorem SG (h:VG P env H T x F K):Gw P C H env (.call {callee:=.builtin .len,args:=[x].toArray,argTypes:=[T].toArray}) F K:=by
 unfold VG at h;split at h
 ·rename_i xT ht;split at h
  ·rename_i m hx hd;exact .inr ⟨_,G7 hx ht hd,h⟩
  ·rename_i m f e hx hd;exact .inr ⟨_,DW hx ht hd,h⟩
  ·rename_i m cap e hx hd;exact .inr ⟨_,wA hx ht hd,h⟩
  ·rename_i i v e hx hd;obtain⟨s,rfl,hs⟩:=ma hx;split at h
   ·rename_i v' sz m cs hi;obtain⟨rfl,h⟩:=h;exact .inr ⟨_,eI hs (G8 (by simp only[ai];exact ij) hi ht hd),h⟩
   ·split at h
    ·exact .inr ⟨_,eI hs (wA (by simp only[ai];exact ij) ht hd),h⟩
    ·exact .inl h
  ·exact .inl h
 ·exact .inl h
theorem xq {mx:Bool}{ts:Array TypeId}(h:vm env mx x y F K):Gw P C H env (.call {callee:=.builtin (if mx then .max else .min),args:=[x,y].toArray,argTypes:=ts}) F K:=by
 unfold vm at h;split at h
 ·rename_i k m j q hx hy;split at h
  ·rename_i hk;have:=xH hk;subst this;exact .inr ⟨_,Va hx hy,h⟩
  ·rename_i hk;have:=xH hk;subst this;exact .inr ⟨_,Vb hx hy,h⟩
  ·exact .inl h
 ·exact .inl h
theorem MB {b:Builtin}{args:Array Operand}{ts:Array TypeId}(h:IJ P env H b args.toList ts.toList F K):Gw P C H env (.call {callee:=.builtin b,args:=args,argTypes:=ts}) F K:=by
 unfold IJ at h;split at h
 ·rename_i h1 h2;rw[dB h1,dB h2];exact SG h
 ·rename_i h1;rw[dB h1];exact xq (mx:=false) h
 ·rename_i h1;rw[dB h1];exact xq (mx:=true) h
 ·exact .inl h
theorem gD {K:Int->Prop}(h:tF env x F K):F\/∃k i,ai env x=some (.int k i)/\K i:=by
 unfold tF at h;split at h
 ·rename_i k i hx;exact .inr ⟨k,i,hx,h⟩
 ·exact .inl h
theorem yF {m:Nat}{lo hi:Option Operand}{K0:Prop}{Kf Kt:Nat->Prop}{K:Nat->Nat->Prop}(h:vD env m lo hi F K0 Kf Kt K):
  F\/∃i j,iC env 0 lo=some i/\iC env (m:Int) hi=some j/\0<=i/\i<=j/\j<=m/\
   ((lo=none/\hi=none/\i=0/\j=m/\K0)\/(hi=none/\j=m/\Kf i.toNat)\/(lo=none/\i=0/\Kt j.toNat)\/K i.toNat j.toNat):=by
 unfold vD at h;split at h
 ·exact .inr ⟨0,m,rfl,rfl,Int.le_refl _,a_,Int.le_refl _,.inl ⟨rfl,rfl,rfl,rfl,h⟩⟩
 ·rcases gD h with h|⟨k,i,hx,h,h'⟩
  ·exact .inl h
  ·exact .inr ⟨i,m,by simp only[iC,hx],rfl,h.1,h.2,Int.le_refl _,.inr (.inl ⟨rfl,rfl,h'⟩)⟩
 ·rcases gD h with h|⟨k,j,hx,h,h'⟩
  ·exact .inl h
  ·exact .inr ⟨0,j,rfl,by simp only[iC,hx],Int.le_refl _,h.1,h.2,.inr (.inr (.inl ⟨rfl,rfl,h'⟩))⟩
 ·rcases gD h with h|⟨k,i,hx,h⟩
  ·exact .inl h
  ·rcases gD h with h|⟨k',j,hy,h,h'⟩
   ·exact .inl h
   ·exact .inr ⟨i,j,by simp only[iC,hx],by simp only[iC,hy],h.1,h.2.1,h.2.2,.inr (.inr (.inr h'))⟩
theorem Lg {lo hi mx:Option Operand}(h:GY P env T x lo hi mx F K):Gw P C H env (.slice T x lo hi mx) F K:=by
 unfold GY at h;split at h
 ·exact .inl h
 ·split at h
  ·rename_i xT ht;split at h
   ·rename_i m hx hd;rcases yF h with h|⟨i,j,h1,h2,h3,h4,h5,h6⟩
    ·exact .inl h
    ·have hr:=BA (P:=P) (C:=C) (H:=H) hx ht hd h1 h2 h3 h4 h5;rcases h6 with⟨_,_,rfl,rfl,h6⟩|⟨_,rfl,h6⟩|⟨_,rfl,h6⟩|h6
     ·simp only[B_,List.take_length,Int.toNat_zero,YO] at hr;exact .inr ⟨_,hr,h6⟩
     ·simp only[B_,List.take_length] at hr;exact .inr ⟨_,hr,h6⟩
     ·simp only[Int.toNat_zero,YO] at hr;exact .inr ⟨_,hr,h6⟩
     ·exact .inr ⟨_,hr,h6⟩
   ·rename_i sz m f e hx hd;split at h
    ·rename_i xe he;split at h
     ·rename_i hs;rcases yF h with h|⟨i,j,h1,h2,h3,h4,h5,h6⟩
      ·exact .inl h
      ·have hr:=y3 (P:=P) (C:=C) (H:=H) hx ht hd he (m_ hs) h1 h2 h3 h4 h5;rcases h6 with⟨_,_,rfl,rfl,h6⟩|⟨_,rfl,h6⟩|⟨_,rfl,h6⟩|h6
       ·simp only[B_,Int.toNat_zero,Nat.sub_zero,Nat.zero_add] at hr;exact .inr ⟨_,hr,h6⟩
       ·simp only[B_] at hr;exact .inr ⟨_,hr,h6⟩
       ·simp only[Int.toNat_zero,Nat.sub_zero,Nat.zero_add] at hr;exact .inr ⟨_,hr,h6⟩
       ·exact .inr ⟨_,hr,h6⟩
     ·exact .inl h
    ·exact .inl h
   ·exact .inl h
  ·exact .inl h
theorem LZ (h:HY P env T x y F K):Gw P C H env (.index T x y) F K:=by
 unfold HY at h;split at h
 ·rename_i xT ht;split at h
  ·rename_i m hx hd;rcases gD h with h|⟨k,i,hy,h,h'⟩
   ·exact .inl h
   ·exact .inr ⟨_,BE hx hy ht hd h.1 h.2,h'.h (bu _ _)⟩
  ·exact .inl h
 ·exact .inl h
theorem sx {ag:Bool}{sz:Nat}{cs:List AVal}{o:Nat}(h:FV ag sz cs o F K):
  F\/(ag=true/\o+sz<=cs.length/\K (.agg ((cs.drop o).take sz)))\/(ag=false/\∃av,cs[o]? =some av/\av.isAgg=false/\K av):=by
 unfold FV at h;split at h
 ·split at h
  ·rename_i hb;rw[cZ] at h;exact .inr (.inl ⟨rfl,v_ hb,h⟩)
  ·exact .inl h
 ·split at h
  ·rename_i av hc;split at h
   ·rename_i ha;exact .inr (.inr ⟨rfl,av,hc,ha,h⟩)
   ·exact .inl h
  ·exact .inl h
theorem DV {i b o cap:Nat}{s:List UInt8}(hx:ai env x=some (.raw (.pointer (some ⟨b,o,none⟩))))(hi:H[i]? =some (.buf b s cap))(ht:bi P T=some xT)(ha:co xT.desc=false)(ho:o<s.length):
  bA P C H env (.load T x) (.int .u8 (aa s o:Int)):=by
 intro R ρ w hm hf dst t p af g;obtain⟨_,Cs,el,fz,hb,hl,_⟩:=hm.heap.holds _ (q_ hi);obtain⟨v,hv,hr⟩:=fo hl (OD (cap:=cap) ho);refine⟨v,?_,cT hr rfl⟩;have hcell:w.cell? ⟨b,o,none⟩=some v:=by simp only[World.cell?,hb];simpa using hv
 simp only[execOp,ar.1 (hf _ _ hx),Instr.loadAt,Instr.sureAddr,e_,h_,c_,iK ht ha hcell]
theorem sX {g:Nat}{cs:List AVal}(hG:KP C.G g cs)(ht:bi P T=some xT)(ha:co xT.desc=true)(hc:0+xT.size<=cs.length):
  bA P C H env (.load T (.global g)) (.agg ((cs.drop 0).take xT.size)):=by
 intro R ρ w hm hf dst t p af g';have hr:=ar.1 (hf (.global g) _ rfl);obtain⟨Cs,el,fz,hR,hl⟩:=hG R hm.glo;have hlen:=aJ hl;simp only[i_,k_,r_] at hlen;refine⟨.agg ((Cs.toList.drop 0).take xT.size).toArray,?_,?_,rfl⟩
 ·simp only[execOp,hr,Instr.loadAt,Instr.sureAddr,e_,h_,c_];by_cases hz:xT.size=0
  ·simp only[loadVar,e_,dS ht,ha,Zc,aN ht,loadCells,hz,loadCellsFrom,c_];simp
  ·rw[oQ ht ha (hm.sealed _ _ hR) a_];simp only[c_]
 ·have:=di xT.size (dy 0 hl);simp only[Value.cells,bJ];rw[YO] at this ⊢;simp only[YO] at this ⊢;rw[R_,Nat.min_eq_left a_] at this;simpa using this
theorem Pf {GL:List (Nat×List AVal)}(hGL:ab C.G GL)(h:EW P GL env H T x F K):Gw P C H env (.load T x) F K:=by
 unfold EW at h;split at h
 ·rename_i xT ht;split at h
  ·rename_i g;split at h
   ·rename_i cs hg;rcases sx h with h|⟨ha,hc,h⟩|⟨ha,av,hc,hav,h⟩
    ·exact .inl h
    ·exact .inr ⟨_,sX (hGL _ _ hg) ht ha hc,h⟩
    ·exact .inr ⟨_,BD (hGL _ _ hg) ht ha hc hav,h⟩
   ·exact .inl h
  ·split at h
   ·rename_i cs off hx;rcases sx h with h|⟨ha,hc,h⟩|⟨ha,av,hc,hav,h⟩
    ·exact .inl h
    ·exact .inr ⟨_,uO hx ht ha hc,h⟩
    ·exact .inr ⟨_,DT hx ht ha hc hav,h⟩
   ·rename_i i b o hx;obtain⟨s,rfl,hs⟩:=ma hx;split at h
    ·rename_i b' cs hi;obtain⟨rfl,h⟩:=h;rcases sx h with h|⟨ha,hc,h⟩|⟨ha,av,hc,hav,h⟩
     ·exact .inl h
     ·exact .inr ⟨_,eI hs (uP (by simp only[ai];exact ij) hi ht ha hc),h⟩
     ·exact .inr ⟨_,eI hs (DU (by simp only[ai];exact ij) hi ht ha hc hav),h⟩
    ·rename_i b' s' cap hi;split at h
     ·rename_i ha;obtain⟨⟨rfl,ho⟩,h⟩:=h;exact .inr ⟨_,eI hs (DV (by simp only[ai];exact ij) hi ht ha ho),h.h (bu _ _)⟩
     ·exact .inl h
    ·rename_i v' _ sz n0 cs hi;split at h
     ·rename_i ha;obtain⟨⟨hr,ho⟩,⟨a,hc,hav,k⟩⟩:=h;exact .inr ⟨_,eI hs (DR (by simp only[ai];exact ij) hi hr ho ht ha hc hav),k⟩
     ·rename_i ha;obtain⟨⟨hr,ho,h0⟩,⟨c,hc,k⟩⟩:=h;exact .inr ⟨_,eI hs (uN (by simp only[ai];exact ij) hi hr ho h0 ht ha hc),k⟩
    ·exact .inl h
   ·exact .inl h
 ·exact .inl h
theorem zy {k:Nat}(h:lH P env T x k F K):Gw P C H env (.fieldAddr T x k) F K:=by
 unfold lH at h;split at h
 ·rename_i xT ht;split at h
  ·rename_i fs hd;split at h
   ·rename_i f hf;split at h
    ·rename_i xf hxf;split at h
     ·rename_i hb;split at h
      ·rename_i cs off hx;exact .inr ⟨_,s4 hx ht hd hf hxf hb,h⟩
      ·rename_i i b o hx;obtain⟨s,rfl,hs⟩:=ma hx;refine .inr ⟨_,?_,h⟩;have:=s5 (P:=P) (C:=C) (H:=H) (env:=(s,.raw (.pointer (some ⟨b,o,none⟩)))::env) (x:=.tmp s) (by simp only[ai];exact ij) ht hd hf hxf hb;intro R ρ w hm hr dst t p af g;obtain⟨v,h1,h2⟩:=eI hs this R ρ w hm hr dst t p af g;exact⟨v,h1,aG.2 ⟨ar.1 h2,rfl⟩⟩
      ·exact .inl h
     ·exact .inl h
    ·exact .inl h
   ·exact .inl h
  ·exact .inl h
 ·exact .inl h
theorem FH {a:AVal}(h:P6 a F K):F\/(a.plain=true/\K (.rop a.cells 0)):=by
 unfold P6 at h;split at h
 ·rw[cZ] at h;exact .inr ⟨rfl,h⟩
 ·exact .inl h
 ·rename_i h1 h2;refine .inr ⟨?_,?_⟩
  ·cases a<;>first|rfl|skip
   rename_i v;cases v<;>first|rfl|(exact absurd rfl (h2 _))
  ·cases a<;>first|exact h|(exact absurd rfl (h1 _))
theorem jQ {op:Op}{i:Nat}{v:Value}(hv:dc v=false)(h:bA P C H env op (.raw v)):bA P C H env op (.own i v):=by
 intro R ρ w hm hr dst t p af g;obtain⟨u,h1,h2⟩:=h R ρ w hm hr dst t p af g;have:=ar.1 h2;subst this;exact⟨_,h1,aG.2 ⟨rfl,hv⟩⟩
theorem sZ {len off:Nat}{e:TypeId}{xe:TI}{cs:List AVal}{k:IntKind}{i:Int}(hx:ai env x=some (.rop cs off))(hy:ai env y=some (.int k i))(h1:bi P T=some xT)(h2:xT.desc= .array len e)(h3:bi P e=some xe)
  (hi0:0<=i) (hi:i<len):bA P C H env (.indexAddr T x y) (.rop cs (off+i.toNat*xe.size)):=by
 intro R ρ w hm hf dst t p af g;obtain⟨bl,o,e1,ho,hs⟩:=ic (hf _ _ hx);refine⟨.pointer (some ⟨bl,o+i.toNat*xe.size,none⟩),?_,gS a_ (by rw[Nat.add_sub_add_right];exact hs)⟩;simp only[execOp,e1,aq.1 (hf _ _ hy),Instr.indexAt,asIntOf,e_,h_,c_,ap h1,h2,Instr.sureAddr];rw[if_pos (show 0<=i/\i<(len:Int) from⟨hi0,hi⟩)];simp only[e_,aN h3,c_,h_,Addr.add];by_cases h0:i.toNat*xe.size=0
 ·simp[h0]
 ·simp[h0]
theorem zu {GL:List (Nat×List AVal)}(hGL:ab C.G GL)(h:ir P GL env T x y F K):Gw P C H env (.indexAddr T x y) F K:=by
 unfold ir at h;split at h
 ·rename_i xT ht;split at h
  ·rename_i e hd;split at h
   ·rename_i xe he;split at h
    ·rename_i sz m f hx;split at h
     ·rename_i hs;rcases gD h with h|⟨k,i,hy,h,h'⟩
      ·exact .inl h
      ·rcases FH h' with h'|⟨hp,h'⟩
       ·exact .inl h'
       ·exact .inr ⟨_,y4 hx hy ht hd he (m_ hs) h.1 h.2 hp,h'⟩
     ·exact .inl h
    ·rename_i i b m cap hx;obtain⟨s,rfl,hs⟩:=ma hx;split at h
     ·rename_i h1;rcases gD h with h|⟨k,j,hy,h,h'⟩
      ·exact .inl h
      ·obtain⟨j,rfl⟩:=Int.eq_ofNat_of_zero_le h.1;simp only[B_] at h';refine .inr ⟨_,jQ rfl ?_,h'⟩;intro R ρ w hm hf dst t p af g;have hv:=(aG.1 (hf (.tmp s) _ hx)).1;refine⟨_,?_,ar.2 rfl⟩;have hj:j<m:=by have:=h.2;omega
       have h4:=m_ h1;simp only[execOp,hv,aq.1 (hf _ _ hy),Instr.indexAt,asIntOf,e_,h_,c_,ap ht,hd];rw[if_pos (show 0<=(j:Int)/\(j:Int)<(m:Int) from⟨a_,a_⟩)];simp only[e_,aN he,h4,c_,h_,Addr.add,B_,Nat.mul_one];by_cases h0:j=0
       ·subst h0;simp
       ·simp[h0]
     ·rcases gD h with h|⟨k,j,hy,h,h'⟩
      ·exact .inl h
      ·obtain⟨j,rfl⟩:=Int.eq_ofNat_of_zero_le h.1;simp only[B_] at h';refine .inr ⟨_,jQ rfl ?_,h'⟩;intro R ρ w hm hf dst t p af g;have hv:=(aG.1 (hf (.tmp s) _ hx)).1;refine⟨_,?_,ar.2 rfl⟩;have hj:j<m:=by have:=h.2;omega
       simp only[execOp,hv,aq.1 (hf _ _ hy),Instr.indexAt,asIntOf,e_,h_,c_,ap ht,hd];rw[if_pos (show 0<=(j:Int)/\(j:Int)<(m:Int) from⟨a_,a_⟩)];simp only[e_,aN he,c_,h_,Addr.add,B_];by_cases h0:j*xe.size=0
       ·rw[h0];simp
       ·simp[h0]
    ·exact .inl h
   ·exact .inl h
  ·rename_i len e hd;split at h
   ·rename_i xe he;split at h
    ·rename_i g;split at h
     ·rename_i cs hg;rcases gD h with h|⟨k,i,hy,h,h'⟩
      ·exact .inl h
      ·exact .inr ⟨_,rH (hGL _ _ hg) hy ht hd he h.1 h.2,h'⟩
     ·exact .inl h
    ·split at h
     ·rename_i i b o hx;obtain⟨s,rfl,hs⟩:=ma hx;rcases gD h with h|⟨k,j,hy,h,h'⟩
      ·exact .inl h
      ·refine .inr ⟨_,jQ rfl (eI hs (s3 (k:=k) (by simp only[ai];exact ij) ?_ ht hd he h.1 h.2)),h'⟩;cases y with
       |tmp u=>
        simp only[ai,Env.get] at hy ⊢;split
        ·rename_i hb;have:=m_ hb;subst this;rw[hs] at hy;cases hy
        ·exact hy
       |const c=>rw[gt] at hy ⊢;exact hy
       |global g=>exact hy
       |func f=>exact hy
     ·rename_i cs off hx;rcases gD h with h|⟨k,i,hy,h,h'⟩
      ·exact .inl h
      ·exact .inr ⟨_,sZ hx hy ht hd he h.1 h.2,h'⟩
     ·exact .inl h
   ·exact .inl h
  ·exact .inl h
 ·exact .inl h
theorem Me {k:Nat}(h:Ik P env T x k F K):Gw P C H env (.field T x k) F K:=by
 unfold Ik at h;split at h
 ·rename_i xT ht;split at h
  ·rename_i fs hd;split at h
   ·rename_i f hf;split at h
    ·rename_i xf hxf;split at h
     ·rename_i cs hx;split at h
      ·rename_i ha;rw[cZ] at h;exact .inr ⟨_,BF hx ht hd hf hxf ha,h⟩
      ·rename_i ha;split at h
       ·rename_i av hc;split at h
        ·rename_i hav;exact .inr ⟨_,N6 hx ht hd hf hxf ha hc hav,h⟩
        ·exact .inl h
       ·exact .inl h
     ·exact .inl h
    ·exact .inl h
   ·exact .inl h
  ·exact .inl h
 ·exact .inl h
theorem B5 (h:pP env x F K):Gw P C H env (.nilCheck x) F K:=by
 unfold pP at h;split at h
 ·rename_i cs off hx;exact .inr ⟨_,uL hx,h⟩
 ·rename_i i a hx;obtain⟨s,rfl,hs⟩:=ma hx;exact .inr ⟨_,jQ rfl (eI hs (uM (by simp only[ai];exact ij))),h⟩
 ·exact .inl h
theorem G6 {i b cap:Nat}{s:List UInt8}{S e:TypeId}{xS xe:TI}(hx:ai env x=some (.raw (.slice (some ⟨b,0,none⟩) s.length cap))){c':Nat}(hi:H[i]? =some (.buf b s c'))(h1:bi P S=some xS)(h2:xS.desc= .slice e)
  (h5:bi P e=some xe) (h6:xe.desc= .int .u8) (h3:bi P T=some xT) (h4:xT.desc= .string):bA P C H env (.convert S T x) (.str s):=by
 intro R ρ w hm hf dst t p af g;obtain⟨_,Cs,el,fz,hb,hl,_⟩:=hm.heap.holds _ (q_ hi);refine⟨_,?_,aD.2 rfl⟩;have hl':=di s.length hl;rw[LO] at hl';simp only[execOp,ar.1 (hf _ _ hx),e_,rh h1 h2 h5 h6 h3 h4 (rg (o:=0) hb (by simpa using hl')),c_,h_]
theorem Qq {S:TypeId}(h:Qr P env H S T x F K):Gw P C H env (.convert S T x) F K:=by
 unfold Qr at h;split at h
 ·rename_i xS xT hS hT;split at h
  ·rename_i k m hx;split at h
   ·rename_i j hd;generalize hb:fe j=bd at h;obtain⟨lo,hi⟩:=bd;rcases h with h|h
    ·exact .inr ⟨_,DY hx hS hT hd (jk hb h.1),h.2⟩
    ·exact .inr ⟨_,BG hx hS hT hd,h⟩
   ·exact .inl h
  ·rename_i i b m cap hx;obtain⟨s,rfl,hs⟩:=ma hx;split at h
   ·rename_i e hd1 hd2;split at h
    ·rename_i xe he;split at h
     ·rename_i hu;split at h
      ·rename_i b' s' cap' hi;obtain⟨⟨rfl,rfl⟩,h⟩:=h;exact .inr ⟨_,eI hs (G6 (by simp only[ai];exact ij) hi hS hd1 he hu hT hd2),h⟩
      ·exact .inl h
     ·exact .inl h
    ·exact .inl h
   ·exact .inl h
  ·exact .inl h
 ·exact .inl h
theorem MF {l:Array (Nat×Operand)}(h:tU P env T l.toList F K):Gw P C H env (.build T l) F K:=by
 unfold tU at h;split at h
 ·rename_i xT ht;split at h
  ·rename_i fs hd;split at h
   ·rename_i ps pl z h1 h2 h3;split at h
    ·rename_i cs h4;rw[cZ] at h;have:=N8 (P:=P) (C:=C) (H:=H) (l:=l.toList) h1 ht (by simpa using hd) h2 h3 h4;exact .inr ⟨_,by simpa using this,h⟩
    ·exact .inl h
   ·exact .inl h
  ·rename_i m e hd;split at h
   ·rename_i ps xe z h1 h2 h3;split at h
    ·rename_i cs h4;rw[cZ] at h;have:=BH (P:=P) (C:=C) (H:=H) (l:=l.toList) h1 ht hd h2 h3 h4;exact .inr ⟨_,by simpa using this,h⟩
    ·exact .inl h
   ·exact .inl h
  ·exact .inl h
 ·exact .inl h
theorem L0 (h:tH P env T x F K):Gw P C H env (.makeInterface T x) F K:=by
 unfold tH at h;split at h
 ·rename_i xT v ht hx;split at h
  ·rename_i hd;exact .inr ⟨_,BB hx ht hd,h⟩
  ·exact .inl h
 ·exact .inl h
theorem IS {S:TypeId}{ok:Bool}(h:CR P env x S T ok F K):Gw P C H env (.typeAssert x S T ok) F K:=by
 unfold CR at h;split at h
 ·rename_i xT ht;split at h
  ·rename_i ty v hx;split at h
   ·rename_i hd hb;exact .inr ⟨_,y6 hx ht hd (m_ hb),h⟩
   ·rename_i hd hb;split at h
    ·rename_i z hz;exact .inr ⟨_,wB hx ht hd hb hz,h⟩
    ·exact .inl h
   ·rcases h with⟨h,k⟩|⟨h,k⟩
    ·refine .inr ⟨_,?_,k⟩;intro R ρ w hm hf dst t p af g;obtain⟨⟨u,e,h3,h4⟩,_⟩:=hf _ _ hx;have hr:=hf _ _ hx;have e':ρ x= .iface ty u:=by
      obtain⟨u',e',h3',h4'⟩:=bE hr rfl;simp only[o_,and_true] at e';rw[e'] at e;simp[Value.cells] at e;rw[e',e]
     rw[e'] at hr;refine⟨.tuple #[.iface ty u,.bool true],?_,⟨⟨_,rfl,_,_,rfl,⟨hr.1,hr.2⟩,_,_,rfl,⟨rfl,rfl⟩,rfl⟩,rfl⟩⟩;simp only[execOp,e',e_,h u w,c_,h_]
    ·refine .inr ⟨_,?_,k⟩;intro R ρ w hm hf dst t p af g;obtain⟨u',e',h3',h4'⟩:=bE (hf _ _ hx) rfl;simp only[o_,and_true] at e';refine⟨.tuple #[.nilIface,.bool false],?_,⟨⟨_,rfl,_,_,rfl,⟨rfl,rfl⟩,_,_,rfl,⟨rfl,rfl⟩,rfl⟩,rfl⟩⟩;simp only[execOp,e',e_,h u' w,c_,h_]
  ·rename_i hx;split at h
   ·rename_i z hz;exact .inr ⟨_,y5 hx ht hz,h⟩
   ·exact .inl h
  ·exact .inl h
 ·exact .inl h
theorem vg {GL:List (Nat×List AVal)}(hGL:ab C.G GL){op:Op}(h:Dm P GL env H op F K):Gw P C H env op F K:=by
 unfold Dm at h;split at h
 ·split at h
  ·rename_i av hx;exact .inr ⟨_,R5 hx,h⟩
  ·exact .inl h
 ·split at h
  ·rename_i av hx;exact .inr ⟨_,Lm hx,h⟩
  ·exact .inl h
 ·split at h
  ·rename_i b a a' hc hx hy;refine .inr ⟨_,R4 hc hx hy,?_⟩;cases b
   ·exact h.2 rfl
   ·exact h.1 rfl
  ·exact .inl h
 ·exact Tr h
 ·split at h
  ·rename_i b hx;exact .inr ⟨_,U8 hx,h⟩
  ·exact .inl h
 ·split at h
  ·rename_i k m hx;generalize hb:fe k=bd at h;obtain⟨lo,hi⟩:=bd;exact .inr ⟨_,U9 hx (jk hb h.1),h.2⟩
  ·exact .inl h
 ·exact MB h
 ·split at h
  ·rename_i cs hx;split at h
   ·rename_i av hi;exact .inr ⟨_,G9 hx hi,h⟩
   ·exact .inl h
  ·exact .inl h
 ·exact LZ h
 ·exact Lg h
 ·exact Pf hGL h
 ·exact zy h
 ·exact Me h
 ·exact zu hGL h
 ·exact B5 h
 ·exact Qq h
 ·exact MF h
 ·exact L0 h
 ·split at h
  ·rename_i a1 a2 h1 h2;have:=DP (P:=P) (C:=C) (H:=H) (fn:= ‹Fn›) h1 h2;exact .inr ⟨_,by simpa using this,h⟩
  ·exact .inl h
 ·exact IS h
 ·exact .inl h
end
end
section
open Go
def AF:AVal->AVal->Option Bool
 |.str s,.str t=>some (aY s t)
 |.int k m,.int j q=>match Nat.beq (Pm k) (Pm j) with
  |true=>some (bU m q)
  |false=>none
 |.bool true,.bool t=>some t
 |.bool false,.bool t=>some (!t)
 |_,_=>none
def mc:TypeDesc->AVal->Bool
 |.string,.str _=>true
 |.int _,.int _ _=>true
 |.bool,.bool _=>true
 |_,_=>false
noncomputable def Fx (k:AVal)(F:Prop)(hit:Nat->AVal->Prop)(miss:Prop)(l:List (AVal×AVal)):Nat->Prop:=
 List.rec (motive:=λ_=>Nat->Prop) (λ_=>miss) (λa _ ih i=>match AF k a.1 with
  |some b=>Sc b (hit i a.2) (ih (i+1))
  |none=>F) l
noncomputable def JT (k:AVal)(F:Prop)(hit:Nat->AVal->Prop)(miss:Prop)(l:List (AVal×AVal)):Prop:=
 match k with
 |.bool b=>Sc b (Fx (.bool true) F hit miss l 0) (Fx (.bool false) F hit miss l 0)
 |k=>Fx k F hit miss l 0
def kN (k:AVal):List (AVal×AVal)->Nat->Option (Option (Nat×AVal))
 |[],_=>some none
 |a::l,i=>match AF k a.1 with
  |some true=>some (some (i,a.2))
  |some false=>kN k l (i+1)
  |none=>none
def zeroV (z:Option Value):Option AVal:=
 match z with
 |some (.agg cs)=>match bF (some (.agg cs)) with
  |some l=>some (.agg l)
  |none=>none
 |some v=>some (JI v)
 |none=>none
theorem KQ {R:Seal}{z:Option Value}{a:AVal}(h:zeroV z=some a):∃v,z=some v/\bx R a v:=by
 unfold zeroV at h;split at h
 ·rename_i cs;split at h
  ·rename_i l hl;cases h;obtain⟨v,hv,hr⟩:=dp (R:=R) hl;cases hv;exact⟨_,rfl,hr,rfl⟩
  ·cases h
 ·cases h;exact⟨_,rfl,vj R _⟩
 ·cases h
theorem sj {k:AVal}{F:Prop}{hit:Nat->AVal->Prop}{miss:Prop}:∀(l:List (AVal×AVal)) (i:Nat),Fx k F hit miss l i->F\/(∃j a,kN k l i=some (some (j,a))/\hit j a)\/(kN k l i=some none/\miss)
 |[],i,h=>.inr (.inr ⟨rfl,h⟩)
 |a::l,i,h=>by
  have h:(match AF k a.1 with
   |some b=>Sc b (hit i a.2) (Fx k F hit miss l (i+1))
   |none=>F):=h
  have ih:=sj (k:=k) (F:=F) (hit:=hit) (miss:=miss) l (i+1);split at h
  ·rename_i b hb;cases b with
   |true=>exact .inr (.inl ⟨i,a.2,by simp only[kN,hb],h.1 rfl⟩)
   |false=>
    rcases ih (h.2 rfl) with q|⟨j,v,q,w⟩|⟨q,w⟩
    ·exact .inl q
    ·exact .inr (.inl ⟨j,v,by simp only[kN,hb];exact q,w⟩)
    ·exact .inr (.inr ⟨by simp only[kN,hb];exact q,w⟩)
  ·exact .inl h
theorem EV {k:AVal}{F:Prop}{hit:Nat->AVal->Prop}{miss:Prop}{l:List (AVal×AVal)}(h:JT k F hit miss l):F\/(∃j a,kN k l 0=some (some (j,a))/\hit j a)\/(kN k l 0=some none/\miss):=by
 unfold JT at h;split at h
 ·rename_i b;cases b with
  |true=>exact sj l 0 (h.1 rfl)
  |false=>exact sj l 0 (h.2 rfl)
 ·exact sj l 0 h
theorem DL (s t:List UInt8):((⟨s.toArray⟩:ByteArray)==⟨t.toArray⟩)=aY s t:=by
 show((s.toArray:Array UInt8)==t.toArray)=aY s t;unfold aY;rw[w_,YS,YS];exact⟨λh=>by simpa using congrArg Array.toList h,λh=>by rw[h]⟩
theorem E6 {kd:TypeDesc}{s:List UInt8}(h:mc kd (.str s)=true):kd= .string:=by
 cases kd<;>first|rfl|cases h
theorem E7 {kd:TypeDesc}{k:IntKind}{m:Int}(h:mc kd (.int k m)=true):∃j,kd= .int j:=by
 cases kd<;>first|exact⟨_,rfl⟩|cases h
theorem tD {kd:TypeDesc}{b:Bool}(h:mc kd (.bool b)=true):kd= .bool:=by
 cases kd<;>first|rfl|cases h
theorem ux {kd:TypeDesc}{k:AVal}(h:mc kd k=true):(∃s,k= .str s/\kd= .string)\/(∃i m j,k= .int i m/\kd= .int j)\/(∃b,k= .bool b/\kd= .bool):=by
 cases k with
 |str s=>exact .inl ⟨s,rfl,E6 h⟩
 |int i m=>obtain⟨j,e⟩:=E7 h;exact .inr (.inl ⟨i,m,j,rfl,e⟩)
 |bool b=>exact .inr (.inr ⟨b,rfl,tD h⟩)
 |_=>exfalso;revert h;cases kd<;>exact λh=>by cases h
theorem G3 {R:Seal}{kd:TypeDesc}{k a:AVal}{kv ev:Value}{b:Bool}(hk:mc kd k=true)(h1:bx R k kv)(h2:bx R a ev)(h:AF k a=some b):Instr.sameNow kd kv ev=some b/\(b=true->ev=kv):=by
 unfold AF at h;split at h
 ·cases h;obtain rfl:=aD.1 h1;obtain rfl:=aD.1 h2;obtain rfl:=E6 hk;refine⟨by simp only[Instr.sameNow,DL],λe=> ?_⟩;rw[bZ.1 e]
 ·rename_i k m j q;split at h
  ·rename_i hkk;cases h;obtain rfl:=xH hkk;obtain rfl:=aq.1 h1;obtain rfl:=aq.1 h2;obtain⟨j,rfl⟩:=E7 hk;refine⟨by unfold bU;simp only[Instr.sameNow,Zc];rfl,λe=> ?_⟩;rw[fA.1 e]
  ·cases h
 ·cases h;obtain rfl:=aO.1 h1;obtain rfl:=aO.1 h2;obtain rfl:=tD hk;refine⟨by cases b<;>rfl,λe=>by rw[e]⟩
 ·rename_i t;cases h;obtain rfl:=aO.1 h1;obtain rfl:=aO.1 h2;obtain rfl:=tD hk;refine⟨by cases t<;>rfl,λe=>by cases t<;>first|rfl|cases e⟩
 ·cases h
theorem lG {R:Seal}{kd:TypeDesc}{k:AVal}{kv:Value}(hk:mc kd k=true)(h1:bx R k kv):∀{l:List (AVal×AVal)} {E:List MapEntry} (i:Nat),mA R l E->
  (kN k l i=some none->Instr.findNow kd kv E i=some none)/\
  ∀j a,kN k l i=some (some (j,a))->∃p e,i<=j/\l[j-i]? =some p/\p.2=a/\E[j-i]? =some e/\e.key=kv/\bx R a e.val/\Instr.findNow kd kv E i=some (some (j,e.val))
 |[],E,i,hm=>by
  have hm:E=[]:=hm;subst hm;refine⟨λ_=>rfl,λj a h=> ?_⟩;simp[kN] at h
 |q::l,E,i,hm=>by
  obtain⟨e,t,rfl,⟨r1,r2⟩,hm⟩:=hm;have ih:=lG hk h1 (i+1) hm;simp only[kN];cases hb:AF k q.1 with
  |none=>refine⟨λh=> ?_,λj a h=> ?_⟩<;>simp at h
  |some b=>
   obtain⟨hs,hv⟩:=G3 hk h1 r1 hb;cases b with
   |true=>
    refine⟨λh=> ?_,λj a h=> ?_⟩
    ·simp at h
    ·simp only[g_,YV] at h;obtain⟨rfl,rfl⟩:=h;exact⟨q,e,Nat.le_refl _,by simp,rfl,by simp,hv rfl,r2,by simp only[Instr.findNow,hs]⟩
   |false=>
    refine⟨λh=>by simp only[Instr.findNow,hs];exact ih.1 h,λj a h=> ?_⟩;obtain⟨p,e',hle,h2,h3,h4,h5,h6,h7⟩:=ih.2 j a h;have ej:j-i=(j-(i+1))+1:=by omega
    exact⟨p,e',a_,by rw[ej,J_];exact h2,h3,by rw[ej,J_];exact h4,h5,h6,by simp only[Instr.findNow,hs];exact h7⟩
theorem NS (s:List UInt8):((⟨s.toArray⟩:ByteArray)==⟨s.toArray⟩)=true:=(DL s s).trans (bZ.2 rfl)
theorem yZ {R:Seal}{kd:TypeDesc}{k:AVal}{kv:Value}(hk:mc kd k=true)(h1:bx R k kv):Instr.sameBits 10000 kv kv=true:=by
 rcases ux hk with⟨s,rfl,_⟩|⟨i,m,j,rfl,_⟩|⟨b,rfl,_⟩
 ·obtain rfl:=aD.1 h1;simp only[Instr.sameBits,NS]
 ·obtain rfl:=aq.1 h1;simp[Instr.sameBits]
 ·obtain rfl:=aO.1 h1;simp[Instr.sameBits]
section
variable {P:Program} [Tab P] {C:Ctx} {n:Nat} {env:Env} {H:Heap} {Q:aM->Env->Heap->Prop} {ops:Array Oper} {rest:List Oper}
variable {d:Nat} {t:TypeId} {p:String} {af:Array Edge} {g:Option (Nat×Bool)} {b:Bool}
variable {x y z:Operand} {T kt et:TypeId} {xT xk xe:TI}
theorem IA {R:Seal}{k:AVal}{kv:Value}(em:Bool)(h:bi P kt=some xk)(hk:mc xk.desc k=true)(h1:bx R k kv)(w:World)(n:Nat):(Instr.checkKey em (n+1) kt kv).run P w= .ok () w:=by
 rcases ux hk with⟨s,rfl,hd⟩|⟨i,m,j,rfl,hd⟩|⟨b,rfl,hd⟩
 ·obtain rfl:=aD.1 h1;simp only[Instr.checkKey,e_,ap h,hd,c_,h_]
 ·obtain rfl:=aq.1 h1;simp only[Instr.checkKey,e_,ap h,hd,c_,h_]
 ·obtain rfl:=aO.1 h1;simp only[Instr.checkKey,e_,ap h,hd,c_,h_]
theorem k8 {R:Seal}{k:AVal}{kv:Value}(em:Bool)(h:bi P kt=some xk)(hk:mc xk.desc k=true)(h1:bx R k kv)(w:World):(Instr.checkKey em 10000 kt kv).run P w= .ok () w:=IA em h hk h1 w 9999
theorem vl {R:Seal}{w:World}{i bl:Nat}{es:List (AVal×AVal)}(hm:MS C R H w)(hi:H[i]? =some (.mp bl es)):∃E cl,w.heap[bl]? =some (.map E cl)/\mA R es E.toList:=hm.heap.holds _ (q_ hi)
theorem DQ {i0 i bl j:Nat}{es:List (AVal×AVal)}{k a:AVal}(ok:Bool)(hx:ai env x=some (.own i0 (.map (some bl))))(hy:ai env y=some k)(hi:H[i]? =some (.mp bl es))(h1:bi P T=some xT)(h2:xT.desc= .map kt et)(h3:bi P kt=some xk)(h4:mc xk.desc k=true)(h5:kN k es 0=some (some (j,a))):
  bA P C H env (.lookup T x y ok) (match ok with|true=>.tuple [a,.bool true]|false=>a):=by
 intro R ρ w hm hf dst t p af g;obtain⟨E,cl,hb,hl⟩:=vl hm hi;have hky:=hf _ _ hy;obtain⟨q,e,_,_,_,_,_,hr,hn⟩:=(lG h4 hky 0 hl).2 j a h5;refine⟨if ok then .tuple #[e.val,.bool true] else e.val,?_,?_⟩
 ·simp only[execOp,(aG.1 (hf _ _ hx)).1,Instr.lookup,e_,ap h1,h2,c_,fT hb (by simp),h_,k8 _ h3 h4 hky,Instr.findKey,ap h3,hn]
 ·cases ok
  ·exact hr
  ·exact⟨⟨_,rfl,_,_,rfl,hr,_,_,rfl,⟨rfl,rfl⟩,rfl⟩,rfl⟩
theorem BC {i0 i bl:Nat}{es:List (AVal×AVal)}{k a:AVal}(ok:Bool)(hx:ai env x=some (.own i0 (.map (some bl))))(hy:ai env y=some k)(hi:H[i]? =some (.mp bl es))(h1:bi P T=some xT)(h2:xT.desc= .map kt et)(h3:bi P kt=some xk)(h4:mc xk.desc k=true)(h5:kN k es 0=some none)(h6:bi P et=some xe)(h7:zeroV xe.zero=some a):
  bA P C H env (.lookup T x y ok) (match ok with|true=>.tuple [a,.bool false]|false=>a):=by
 intro R ρ w hm hf dst t p af g;obtain⟨E,cl,hb,hl⟩:=vl hm hi;have hky:=hf _ _ hy;have hn:=(lG h4 hky 0 hl).1 h5;obtain⟨v,hv,hr⟩:=KQ (R:=R) h7;refine⟨if ok then .tuple #[v,.bool false] else v,?_,?_⟩
 ·simp only[execOp,(aG.1 (hf _ _ hx)).1,Instr.lookup,e_,ap h1,h2,c_,fT hb (by simp),h_,k8 _ h3 h4 hky,Instr.findKey,ap h3,hn,dQ h6 hv]
 ·cases ok
  ·exact hr
  ·exact⟨⟨_,rfl,_,_,rfl,hr,_,_,rfl,⟨rfl,rfl⟩,rfl⟩,rfl⟩
theorem ut {R:Seal}{a:AVal×AVal}{e:MapEntry}(h1:bx R a.1 e.key)(h2:bx R a.2 e.val):∀{l:List (AVal×AVal)} {E:List MapEntry},mA R l E->mA R (l++[a]) (E++[e])
 |[],E,h=>by
  have h:E=[]:=h;subst h;exact⟨e,[],rfl,⟨h1,h2⟩,rfl⟩
 |q::l,E,h=>by
  obtain⟨e',t,rfl,r,h⟩:=h;exact⟨e',_,rfl,r,ut h1 h2 h⟩
theorem xt {R:Seal}{a:AVal×AVal}{e:MapEntry}(h1:bx R a.1 e.key)(h2:bx R a.2 e.val):∀{l:List (AVal×AVal)} {E:List MapEntry} (i:Nat),mA R l E->mA R (l.set i a) (E.set i e)
 |[],E,i,h=>by
  have h:E=[]:=h;subst h;exact rfl
 |q::l,E,0,h=>by
  obtain⟨e',t,rfl,r,h⟩:=h;exact⟨e,_,rfl,⟨h1,h2⟩,h⟩
 |q::l,E,i+1,h=>by
  obtain⟨e',t,rfl,r,h⟩:=h;exact⟨e',_,rfl,r,xt h1 h2 i h⟩
theorem wy {w:World}{bl:Nat}{o o':Obj}(h:w.heap[bl]? =some o):nU w bl o' {w with heap:=w.heap.setIfInBounds bl o'}:=by
 have hlt:=pY h;exact⟨rfl,rfl,rfl,by simp,by simp[hlt],λk hk=>by simp only[];rw[Array.getElem?_setIfInBounds_ne (Ne.symm hk)]⟩
theorem qo {w:World}{bl cl:Nat}{E:Array MapEntry}{o':Obj}(h:w.heap[bl]? =some (.map E cl)):(setObj bl o').run P w= .ok () {w with heap:=w.heap.setIfInBounds bl o'}:=by
 simp only[setObj,Sem.run,h]
theorem MM {T:TypeId}(hg:aQ ops env g=some (b,b))(hdn:Nat.ble (d+1) n=true)
  (h:∀bl:Nat,au P C n ops rest ((d,.raw (.map (some bl)))::env) (.mp bl []::H) Q):
  au P C n ops ({dst:=some d,op:=.makeMap T none,type:=t,pos:=p,after:=af,guard:=g}::rest) env H Q:=by
 refine gF (av:=λbl:Nat=>.raw (.map (some bl))) (H':=λbl=>.mp bl []::H) hg rfl hdn (λR ρ w hm hf=> ?_) h
 refine⟨w.heap.size,_,grow w (.map #[] 0),R,?_,Seal.le_refl R,ar.2 rfl,hm.alloc _ _ rfl ⟨_,_,gf w _,rfl⟩⟩
 rfl
theorem Bb {op:Op}(hop:op= .mapUpdate T x y z\/op= .insert T x y z){i0 i bl:Nat}{es:List (AVal×AVal)}{k a:AVal}(hg:aQ ops env g=some (b,b))(hx:ai env x=some (.own i0 (.map (some bl))))(hy:ai env y=some k)(hz:ai env z=some a)(hi:H[i]? =some (.mp bl es))(h1:bi P T=some xT)(h2:xT.desc= .map kt et)(h3:bi P kt=some xk)(h4:mc xk.desc k=true)
  (h:(∃j v,kN k es 0=some (some (j,v))/\au P C n ops rest env (H.set i (.mp bl (es.set j (k,a)))) Q)\/(kN k es 0=some none/\au P C n ops rest env (H.set i (.mp bl (es++[(k,a)]))) Q)):
  au P C n ops ({dst:=none,op:=op,type:=t,pos:=p,after:=af,guard:=g}::rest) env H Q:=by
 have he:∀ρ:Operand->Value,execOp ρ {dst:=none,op:=op,type:=t,pos:=p,after:=af,guard:=g}=execOp ρ {dst:=none,op:=.mapUpdate T x y z,type:=t,pos:=p,after:=af,guard:=g}:=by
  intro ρ;rcases hop with rfl|rfl<;>rfl
 rcases h with⟨j,v,hj,h⟩|⟨hj,h⟩
 ·refine nR hg rfl (λR ρ w hm hf=> ?_) h;obtain⟨E,cl,hb,hl⟩:=vl hm hi;have hky:=hf _ _ hy;obtain⟨q,e,_,_,_,h5,h6,hr,hn⟩:=(lG h4 hky 0 hl).2 j v hj;have h5:E[j]? =some e:=by simpa using h5
  have hlt:j<E.size:=by
   rcases YY j E.size with h|h
   ·exact h
   ·rw[Array.getElem?_eq_none h] at h5;cases h5
  have ho:=wy (o':=.map (E.modify j λe=>{e with key:=ρ y,val:=ρ z}) cl) hb;refine⟨_,R,?_,Seal.le_refl R,hm.write hi rfl ho rfl ⟨_,_,ho.at_,?_⟩⟩
  ·rw[he];simp only[execOp,(aG.1 (hf _ _ hx)).1,Instr.mapUpdate,e_,ap h1,h2,c_,fT hb (by simp),h_,k8 _ h3 h4 hky,Instr.findKey,ap h3,hn,h5,YZ,Z_,h6,Instr.keyThatStays,yZ h4 hky,Zc,qo hb]
  ·have e1:(E.modify j λe=>{e with key:=ρ y,val:=ρ z}).toList=E.toList.set j {key:=ρ y,val:=ρ z,born:=e.born}:=by
    rw[Array.toList_modify,List.modify_eq_set];have:E.toList[j]? =some e:=by simpa using h5
    rw[this];rfl
   rw[e1];exact xt (a:=(k,a)) hky (hf _ _ hz) j hl
 ·refine nR hg rfl (λR ρ w hm hf=> ?_) h;obtain⟨E,cl,hb,hl⟩:=vl hm hi;have hky:=hf _ _ hy;have hn:=(lG h4 hky 0 hl).1 hj;have ho:=wy (o':=.map (E.push {key:=ρ y,val:=ρ z,born:=cl}) (cl+1)) hb;refine⟨_,R,?_,Seal.le_refl R,hm.write hi rfl ho rfl ⟨_,_,ho.at_,?_⟩⟩
  ·rw[he];simp only[execOp,(aG.1 (hf _ _ hx)).1,Instr.mapUpdate,e_,ap h1,h2,c_,fT hb (by simp),h_,k8 _ h3 h4 hky,Instr.findKey,ap h3,hn,qo hb]
  ·rw[Array.toList_push];exact ut (a:=(k,a)) hky (hf _ _ hz) hl
end
end
section
open Go
structure Nx (pos:Nat) (s:List UInt8) (a b:Prop):Prop where
 more:pos<s.length->a
 done:s.length<=pos->b
theorem dq {pos:Nat}{s:List UInt8}{a b:Prop}(h:pos<s.length->a)(k:s.length<=pos->b):Nx pos s a b:=⟨h,k⟩
mutual
def mF:AVal->AVal
 |.own _ v=>.raw v
 |.tuple cs=>.tuple (jA cs)
 |.iface t v=>.iface t (mF v)
 |.func f a b=>.func f (jA a) (jA b)
 |a=>a
def jA:List AVal->List AVal
 |[]=>[]
 |c::cs=>mF c::jA cs
end
mutual
theorem sR {R:Seal}:∀(a:AVal) (v:Value),bx R a v->bx R (mF a) v
 |.own i x,v,h=>by simp only[mF];exact ar.2 (aG.1 h).1
 |.tuple cs,v,⟨⟨ws,e,h⟩,h2⟩=>by simp only[mF];exact⟨⟨ws,e,jz cs _ h⟩,h2⟩
 |.iface t a,v,⟨⟨w,e,h,k⟩,h2⟩=>by
  simp only[mF];have:=sR a w ⟨h,k⟩;exact⟨⟨w,e,this.1,this.2⟩,h2⟩
 |.func f a b,v,⟨⟨x,y,e,h,k⟩,h2⟩=>by simp only[mF];exact⟨⟨x,y,e,jz a _ h,jz b _ k⟩,h2⟩
 |.bool _,_,h=>h
 |.int _ _,_,h=>h
 |.str _,_,h=>h
 |.raw _,_,h=>h
 |.list _ _ _,_,h=>h
 |.rop _ _,_,h=>h
 |.agg _,_,h=>h
theorem jz {R:Seal}:∀(a:List AVal) (vs:List Value),dO R a vs->dO R (jA a) vs
 |[],_,h=>h
 |c::cs,_,⟨v,t,e,⟨h1,h2⟩,k⟩=>by
  have:=sR c v ⟨h1,h2⟩;exact⟨v,t,e,⟨this.1,this.2⟩,jz cs t k⟩
end
inductive Iv (P:Program) (G:Glo) (ty:TypeId) (a:AVal) (name:String) (avs:List AVal) (H:Heap) (K:AVal->Heap->Prop) (Kp:AVal->Heap->Prop):Prop
 |mk (f:FuncId) (r:AVal) (hm:∀R v,bx R a v->∀w,∃u,(Go.method (P.types.size+Made.depth) ty v name).run P w= .ok (f,u) w/\bx R r u) (k:Cx P G f (r::avs) H K Kp)
def wg (sz:Nat)(f:Nat->AVal):Nat->Bool
 |0=>true
 |m+1=>((f m).plain&&Nat.beq (f m).cells.length sz&&kQ (f m).cells)&&wg sz f m
theorem ld {sz:Nat}{f:Nat->AVal}:∀{m:Nat},wg sz f m=true->∀i,i<m->(f i).plain=true/\(f i).cells.length=sz/\kQ (f i).cells=true
 |0,_,i,h=>absurd h (Uf _)
 |m+1,h,i,hi=>by
  simp only[wg,l_] at h;by_cases e:i=m
  ·subst e;exact⟨h.1.1.1,m_ h.1.1.2,h.1.2⟩
  ·exact ld h.2 i a_
def az (sz m:Nat)(f:Nat->AVal):Prop:=∀i,i<m->(f i).plain=true/\(f i).cells.length=sz/\kQ (f i).cells=true
def eP (m:Nat)(f:Nat->AVal):List AVal:=(List.range m).flatMap λi=>(f i).cells
section
variable (P:Program) [Tab P] (C:Ctx) (n:Nat) (G:Glo) (GL:List (Nat×List AVal))
def cellsOf (a:AVal)(F:Prop)(K:List AVal->Prop):Prop:=
 match a with
 |.agg cs=>kA cs K
 |.raw (.agg _)=>F
 |a=>K [a]
def Bp (env:Env)(H:Heap)(T:TypeId)(x y:Operand)(F:Prop)(K:Heap->Prop):Prop:=
 match bi P T with
 |some xT=>match ai env x,ai env y with
  |some (.own i (.pointer (some ⟨b,o,none⟩))),some a=>match H[i]? with
   |some (.cells b' eT cs)=>cellsOf a F λac=>match Nat.beq ac.length xT.size,Nat.ble (o+xT.size) cs.length,kQ ac with
    |true,true,true=>Sp (b'=b) (kA (cs.take o++ac++cs.drop (o+xT.size)) λc=>ep (H.set i (.cells b eT c)) K)
    |_,_,_=>F
   |some (.buf b' s cap)=>match a,Nat.beq xT.size 1 with
    |.int .u8 m,true=>Sp (b'=b/\o<s.length/\0<=m/\m<=255) (ep (H.set i (.buf b (s.set o (UInt8.ofNat m.toNat)) cap)) K)
    |_,_=>F
   |some (.row v' eT sz n cs)=>cellsOf a F λac=>match Nat.beq ac.length xT.size,kQ ac with
    |true,true=>match Nat.beq xT.size 1 with
     |true=>Sp (cd v' b n/\o+1<=n*sz/\0<n) (ep (H.set i (.row v' eT sz n (cs.take o++ac++cs.drop (o+1)))) K)
     |false=>Sp (cd v' b n/\o+xT.size<=n*sz/\0<n) (ep (H.set i (.row v' eT sz n (cs.take o++ac++cs.drop (o+xT.size)))) K)
    |_,_=>F
   |_=>F
  |_,_=>F
 |none=>F
def UM:Option TypeId->TypeId->Bool
 |none,_=>true
 |some t,e=>Nat.beq e t
theorem I6 {eT:Option TypeId}{e:TypeId}(h:UM eT e=true):∀t,eT=some t->e=t:=by
 rintro t rfl
 exact m_ h
def CT (env:Env)(H:Heap)(T tx:TypeId)(x y:Operand)(F:Prop)(K:AVal->Heap->Prop):Prop:=
 match bi P T,bi P tx with
 |some xT,some xx=>match xT.desc,xx.desc with
  |.slice e,.slice _=>match bi P e with
   |some xe=>match bF xe.zero,Nat.ble xe.bytes 1024,Nat.ble 1 xe.size with
    |some z,true,true=>match Nat.beq z.length xe.size,ai env y with
     |true,some (.list sz m f)=>match Nat.beq xe.size sz with
      |true=>match ai env x with
       |some (.own i v)=>match H[i]? with
        |some (.row v' eT sz' n0 cs)=>match UM eT e with
         |true=>Sp (v'=v/\sz'=sz/\n0+m<=137438953472)
          (Ch (Sp (wg sz f m=true) (As (n0+m) λu=>ep (H.set i (.row u eT sz (n0+m) (cs++eP m f))) λH'=>K (.own i u) H'))
           (Sp (az sz m f) (As (n0+m) λu=>ep (H.set i (.row u eT sz (n0+m) (cs++eP m f))) λH'=>K (.own i u) H')))
         |false=>F
        |_=>F
       |some (.raw (.slice none 0 0))=>Sp (m<=137438953472)
          (Ch (Sp (wg sz f m=true) (As m λu=>ep (H++[.row u none sz m (eP m f)]) λH'=>K (.own H.length u) H'))
           (Sp (az sz m f) (As m λu=>ep (H++[.row u none sz m (eP m f)]) λH'=>K (.own H.length u) H')))
       |_=>F
      |false=>F
     |_,_=>F
    |_,_,_=>F
   |none=>F
  |_,_=>F
 |_,_=>F
def QE (env:Env)(H:Heap)(S T:TypeId)(s:List UInt8)(F:Prop)(K:AVal->Heap->Prop):Prop:=
 match bi P S,bi P T with
 |some xS,some xT=>match xS.desc,xT.desc with
  |.string,.slice e=>match bi P e with
   |some xe=>match xe.desc with
    |.int .u8=>Ac (λcap=>s.length<=cap) λbl cap=>ep (H++[.buf bl s cap]) λH'=>K (.own H.length (.slice (some ⟨bl,0,none⟩) s.length cap)) H'
    |_=>F
   |none=>F
  |.string,.string=>K (.str s) H
  |_,_=>F
 |_,_=>F
def KI (env:Env)(H:Heap)(T:TypeId)(m:Nat)(l:List (Nat×Operand))(F:Prop)(K:AVal->Heap->Prop):Prop:=
 match bi P T,jd env l with
 |some xT,some ps=>match xT.desc with
  |.slice e=>match bi P e with
   |some xe=>match bF xe.zero with
    |some z=>match Nat.beq z.length xe.size,k6 0 ps,fq xe.size ps,Nat.beq ps.length m,Nat.ble (m*xe.size) 16777216 with
     |true,true,true,true,true=>Bo (K (.list xe.size m (bT ps)) H) (As m λv=>kA (eJ ps) λcs=>ep (H++[.row v none xe.size m cs]) λH'=>K (.own H.length v) H')
     |_,_,_,_,_=>F
    |none=>F
   |none=>F
  |_=>F
 |_,_=>F
def Uw (env:Env)(H:Heap)(fv:Operand)(args:List Operand)(F:Prop)(Kp:AVal->Heap->Prop)(K:AVal->Heap->Prop):Prop:=
 match ai env fv,kj env args with
 |some (.func (.func f) l1 l2),some avs=>kA (jA (l1++(avs++l2))) λavs=>Cx P G f avs H K Kp
 |_,_=>F
noncomputable def pR (env:Env)(H:Heap)(T:TypeId)(x y z:Operand)(F:Prop)(K:Heap->Prop):Prop:=
 match bi P T,ai env x,ai env y,ai env z with
 |some xT,some (.own i (.map (some b))),some k,some a=>match xT.desc,H[i]? with
  |.map kt et,some (.mp b' es)=>match bi P kt with
   |some xk=>match mc xk.desc k with
    |true=>Sp (b'=b) (JT k F (λj _=>ep (H.set i (.mp b (es.set j (k,a)))) K) (ep (H.set i (.mp b (es++[(k,a)]))) K) es)
    |_=>F
   |_=>F
  |_,_=>F
 |_,_,_,_=>F
noncomputable def Sw (env:Env)(H:Heap)(op:Op)(F:Prop)(Kp:AVal->Heap->Prop)(K:AVal->Heap->Prop):Prop:=
 match op with
 |.alloc T=>match bi P T with
  |some xT=>match bF xT.zero with
   |some cs=>Ab λbl=>kA cs λcs=>ep (H++[.cells bl (some T) cs]) λH'=>K (.own H.length (.pointer (some ⟨bl,0,none⟩))) H'
   |none=>F
  |none=>F
 |.box T x=>match ai env x with
  |some a=>cellsOf a F λcs=>Bo (K (.rop cs 0) H) (Ab λbl=>ep (H++[.cells bl (some T) cs]) λH'=>K (.own H.length (.pointer (some ⟨bl,0,none⟩))) H')
  |none=>F
 |.call ⟨.builtin .append,args,ts⟩=>match args.toList,ts.toList with
  |[x,y],[T,tx]=>CT P env H T tx x y F K
  |_,_=>F
 |.call ⟨.invoke recv name,args,_⟩=>match ai env recv,kj env args.toList with
  |some (.iface ty a),some avs=>Iv P G ty (mF a) name (jA avs) H K Kp
  |_,_=>F
 |.call ⟨.value fv,args,_⟩=>Uw P G env H fv args.toList F Kp K
 |.convert S T x=>match ai env x with
  |some (.str s)=>QE P env H S T s F K
  |_=>Dm P GL env H (.convert S T x) F λav=>K av H
 |.buildSlice T m l=>KI P env H T m l.toList F K
 |.range T x=>match bi P T,ai env x with
  |some xT,some (.str s)=>match xT.desc with
   |.string=>Ab λbl=>ep (H++[.iter bl s 0]) λH'=>K (.own H.length (.pointer (some ⟨bl,0,none⟩))) H'
   |_=>F
  |_,_=>F
 |.next x true=>match ai env x with
  |some (.own i (.pointer (some ⟨b,0,none⟩)))=>match H[i]? with
   |some (.iter b' s pos)=>Sp (b'=b) (Nx pos s (ep (H.set i (.iter b s (pos+eN (s.drop pos)))) λH'=>K (.tuple [.bool true,.int .i64 (pos:Int),.int .i32 (fk (s.drop pos):Int)]) H') (K (.tuple [.bool false]) H))
   |_=>F
  |_=>F
 |.makeMap T none=>Ab λbl=>ep (H++[.mp bl []]) λH'=>K (.own H.length (.map (some bl))) H'
 |.lookup T x y ok=>match bi P T,ai env x,ai env y with
  |some xT,some (.own i (.map (some b))),some k=>match xT.desc,H[i]? with
   |.map kt et,some (.mp b' es)=>match bi P kt,bi P et with
    |some xk,some xe=>match mc xk.desc k,zeroV xe.zero with
     |true,some z=>Sp (b'=b) (JT k F (λ_ a=>match ok with|true=>K (.tuple [a,.bool true]) H|false=>K a H) (match ok with|true=>K (.tuple [z,.bool false]) H|false=>K z H) es)
     |_,_=>F
    |_,_=>F
   |_,_=>F
  |_,_,_=>F
 |op=>Dm P GL env H op F λav=>K av H
def tJ (ops:Array Oper)(env:Env)(g:Option (Nat×Bool))(F:Prop)(run skip:Env->Prop):Prop:=
 match g with
 |none=>run env
 |some (j,want)=>match ops[j]? with
  |some o=>match o.dst with
   |some e=>match Env.get env e with
    |some (.bool b)=>match want with
     |true=>Sc b (run ((e,.bool true)::env)) (skip ((e,.bool false)::env))
     |false=>Sc b (skip ((e,.bool true)::env)) (run ((e,.bool false)::env))
    |some (.raw v)=>Sp (v=undef) (skip env)
    |_=>F
   |none=>F
  |none=>F
structure uf (ops:Array Oper) (l:List Oper) (env:Env) (H:Heap) (Q:aM->Env->Heap->Prop):Prop where
 h:au P C n ops l env H Q
structure Cd (c:Code) (env:Env) (H:Heap) (Q:aM->Env->Heap->Prop):Prop where
 h:bG P C n c env H Q
noncomputable def NU (ops:Array Oper)(o:Oper)(rest:List Oper)(Q:aM->Env->Heap->Prop)(K:Env->Heap->Prop)(env:Env)(H:Heap):Prop:=
 tJ ops env o.guard (uf P C n ops (o::rest) env H Q)
  (λenv'=>match o.op with
   |.panic x=>match ai env' x with
    |some (.iface ty v)=>Q (.panic (.iface ty v)) env' H
    |_=>uf P C n ops (o::rest) env' H Q
   |op=>match o.dst with
    |some d=>match Nat.ble (d+1) n with
     |true=>Sw P G GL env' H op (uf P C n ops (o::rest) env' H Q) (λv H'=>Q (.panic v) env' H') (λav H'=>K ((d,av)::env') H')
     |false=>uf P C n ops (o::rest) env' H Q
    |none=>match op with
     |.store T x y=>Bp P env' H T x y (uf P C n ops (o::rest) env' H Q) (λH'=>K env' H')
     |.mapUpdate T x y z=>pR P env' H T x y z (uf P C n ops (o::rest) env' H Q) (λH'=>K env' H')
     |.insert T x y z=>pR P env' H T x y z (uf P C n ops (o::rest) env' H Q) (λH'=>K env' H')
     |_=>uf P C n ops (o::rest) env' H Q)
  (λenv'=>match o.dst with
   |some d=>match Nat.ble (d+1) n with
    |true=>K ((d,.raw undef)::env') H
    |false=>uf P C n ops (o::rest) env' H Q
   |none=>K env' H)
noncomputable def mt (ops:Array Oper)(Q:aM->Env->Heap->Prop)(l:List Oper):Env->Heap->Prop:=
 List.rec (motive:=λ_=>Env->Heap->Prop) (λenv H=>Q .normal env H) (λo rest ih=>NU P C n G GL ops o rest Q ih) l
def CL (id:Nat)(Q:aM->Env->Heap->Prop):aM->Env->Heap->Prop
 |.exit i,e,h=>match Nat.beq i id with
  |true=>Q .normal e h
  |false=>Q (.exit i) e h
 |x,e,h=>Q x e h
structure Lp (c:Code) (env:Env) (H:Heap) (Q:aM->Env->Heap->Prop):Prop where
 h:bG P C n (.loop c) env H Q
structure Dw (id:Nat) (ops:Array Oper) (env:Env) (H:Heap) (Q:aM->Env->Heap->Prop):Prop where
 h:bG P C n (.region id ops true) env H Q
noncomputable def gK (c:Code):Env->Heap->(aM->Env->Heap->Prop)->Prop:=
 Code.rec (motive:=λ_=>Env->Heap->(aM->Env->Heap->Prop)->Prop)
  (λenv H Q=>Q .normal env H)
  (λid ops d env H Q=>match d with
   |false=>mt P C n G GL ops Q ops.toList env H
   |true=>Dw P C n id ops env H Q)
  (λ_ _ iha ihb env H Q=>iha env H (iG (λe h=>ihb e h Q) Q))
  (λc x y ihx ihy env H Q=>match ai env c with
   |some (.bool b)=>Sc b (ihx env H Q) (ihy env H Q)
   |_=>Cd P C n (.cond c x y) env H Q)
  (λid _ ih env H Q=>ih env H (CL id Q))
  (λc _ env H Q=>Lp P C n c env H Q)
  (λf ps a b _ _ env H Q=>Cd P C n (.rangeFunc f ps a b) env H Q)
  (λid env H Q=>Q (.exit id) env H)
  (λc _ env H Q=>Cd P C n (.scope c) env H Q)
  (λl env H Q=>Cd P C n (.label l) env H Q)
  (λl env H Q=>Cd P C n (.goto l) env H Q)
  (λenv H Q=>Q .ret env H)
  (λw env H Q=>Cd P C n (.refuse w) env H Q) c
end
section
variable {P:Program} [Tab P] {C:Ctx} {n:Nat} {env:Env} {H:Heap} {Q:aM->Env->Heap->Prop} {ops:Array Oper} {rest:List Oper} {GL:List (Nat×List AVal)}
variable {eT:Option TypeId}
variable {d:Nat} {t:TypeId} {p:String} {af:Array Edge} {g:Option (Nat×Bool)} {b:Bool}
theorem WP {l:List Oper}{env':Env}(hs:∀{D:List Deferred} R a,FS D n R env a->FS D n R env' a)(h:au P C n ops l env' H Q):au P C n ops l env H Q:=
 λR a w hm hf=>h R a w hm (hs R a hf)
theorem CQ {c:Code}{env':Env}(hs:∀{D:List Deferred} R a,FS D n R env a->FS D n R env' a)(h:bG P C n c env' H Q):bG P C n c env H Q:=
 λR a w hm hf=>h R a w hm (hs R a hf)
theorem TE {l:List Oper}{H':Heap}(hs:H.Perm H')(h:au P C n ops l env H' Q):au P C n ops l env H Q:=
 λR a w hm hf=>h R a w (hm.perm hs) hf
theorem mw {l:List Oper}{x:HEnt}(h:au P C n ops l env (H++[x]) Q):au P C n ops l env (x::H) Q:=
 TE (List.perm_append_singleton x H).symm h
theorem tK {D:List Deferred}{R:Seal}{a:Act}{s i:Nat}{v:Value}(hv:dc v=false)(hs:Env.get env s=some (.raw v))(hf:FS D n R env a):FS D n R ((s,.own i v)::env) a:=by
 refine⟨λk x hk=> ?_,hf.size,hf.defers⟩
 simp only[Env.get] at hk;split at hk
 ·rename_i hb;have:=m_ hb;subst this
  simp only[g_] at hk
  subst hk
  obtain⟨y,hy,hr⟩:=hf.fr _ _ hs
  exact⟨y,hy,aG.2 ⟨ar.1 hr,hv⟩⟩
 ·exact hf.fr k x hk
theorem fL {i:Nat}{v:Value}(hv:dc v=false)(h:au P C n ops rest ((d,.own i v)::env) H Q):au P C n ops rest ((d,.raw v)::env) H Q:=
 WP (λR a hf=>by
  refine⟨λk y hk=> ?_,hf.size,hf.defers⟩;simp only[Env.get] at hk;split at hk
  ·rename_i hb;have:=m_ hb;subst this;simp only[g_] at hk;subst hk;obtain⟨z,hz,hr⟩:=hf.fr d (.raw v) (by simp[Env.get]);exact⟨z,hz,aG.2 ⟨ar.1 hr,hv⟩⟩
  ·rename_i hb;exact hf.fr k y (by simp only[Env.get,hb];exact hk)) h
theorem m9 {op:Op}{av:AVal}(hg:aQ ops env g=some (b,b))(hdn:Nat.ble (d+1) n=true)(hr:bA P C H env op av)(h:au P C n ops rest ((d,av)::env) H Q):
  au P C n ops ({dst:=some d,op:=op,type:=t,pos:=p,after:=af,guard:=g}::rest) env H Q:=
 KL hg rfl hdn (λR ρ w hm hf=>hr R ρ w hm hf _ _ _ _ _) h
theorem KM {op:Op}{F:Prop}{K:AVal->Prop}(hg:aQ ops env g=some (b,b))(hdn:Nat.ble (d+1) n=true)(h:Gw P C H env op F K)
  (hF:F->au P C n ops ({dst:=some d,op:=op,type:=t,pos:=p,after:=af,guard:=g}::rest) env H Q) (hK:∀av,K av->au P C n ops rest ((d,av)::env) H Q):
  au P C n ops ({dst:=some d,op:=op,type:=t,pos:=p,after:=af,guard:=g}::rest) env H Q:=by
 rcases h with h|⟨av,h1,h2⟩
 ·exact hF h
 ·exact m9 hg hdn h1 (hK av h2)
theorem rf {a:AVal}{F:Prop}{K:List AVal->Prop}(h:cellsOf a F K):F\/(a.plain=true/\K a.cells):=by
 unfold cellsOf at h;split at h
 ·rw[cZ] at h;exact .inr ⟨rfl,h⟩
 ·exact .inl h
 ·rename_i h1 h2;refine .inr ⟨?_,?_⟩
  ·cases a<;>first|rfl|skip
   rename_i v;cases v<;>first|rfl|(exact absurd rfl (h2 _))
  ·cases a<;>first|exact h|(exact absurd rfl (h1 _))
theorem MG {R:Seal}{w:World}{i bl cap:Nat}{s:List UInt8}(hi:H[i]? =some (.buf bl s cap))(hm:MS C R H w):MS C R (H.set i (.cells bl none (gg s cap))) w:=by
 obtain⟨_,C',e,fz,h1,h2,h3⟩:=hm.heap.holds _ (q_ hi);exact hm.swap hi rfl ⟨C',e,fz,h1,h2,h3,λ_ h=>nomatch h⟩
theorem A3 {R:Seal}{w:World}{i bl cap:Nat}{s:List UInt8}(hc:s.length<=cap)(hi:H[i]? =some (.cells bl eT (gg s cap)))(hm:MS C R H w):MS C R (H.set i (.buf bl s cap)) w:=by
 obtain⟨C',e,fz,h1,h2,h3,_⟩:=hm.heap.holds _ (q_ hi);exact hm.swap hi rfl ⟨hc,C',e,fz,h1,h2,h3⟩
theorem CV {l:List Oper}{H':Heap}(hs:∀R w,MS C R H w->MS C R H' w)(h:au P C n ops l env H' Q):au P C n ops l env H Q:=
 λR a w hm hf=>h R a w (hs R w hm) hf
theorem p5 {i:Nat}{x y:HEnt}(hi:H[i]? =some x):(H.set i y)[i]? =some y:=by
 have:=(List.getElem?_eq_some_iff.1 hi).1;simp[this]
theorem Jl (i:Nat)(y z:HEnt):(H.set i y).set i z=H.set i z:=by simp
theorem oV {x:Oper}{e:Nat}{v:Bool}{j:Nat}{want:Bool}(ho:ops[j]? =some x)(he:x.dst=some e):aQ ops ((e,.bool v)::env) (some (j,want))=some (v,want):=by
 simp only[aQ,ho,he,Env.get,Nat.beq_refl]
variable {x y:Operand} {T:TypeId} {xT:TI} {tx ty:TypeId} {av:AVal}
theorem D7 {R:Seal}{w:World}{i sz m:Nat}{v:Value}{cs:List AVal}(hm:MS C R H w)(hi:H[i]? =some (.row v eT sz m cs)):dc v=false:=by
 obtain⟨_,h⟩:=hm.heap.holds _ (q_ hi);rcases h with⟨rfl,_⟩|⟨_,_,_,_,_,rfl,_⟩<;>rfl
theorem mn {l:List Oper}{i sz m:Nat}{v:Value}{cs:List AVal}(hi:H[i]? =some (.row v eT sz m cs))(h:(∃a k c,v= .slice a k c/\Gj m a k)->au P C n ops l env H Q):au P C n ops l env H Q:=λR a w hm hf=>by
 obtain⟨_,hh⟩:=hm.heap.holds _ (q_ hi);refine h ?_ R a w hm hf;rcases hh with⟨rfl,rfl⟩|⟨_,_,_,_,_,rfl,_⟩
 ·exact⟨_,_,_,rfl,λh=>absurd h (Nat.lt_irrefl _)⟩
 ·exact⟨_,_,_,rfl,λ_=>⟨_,rfl,rfl⟩⟩
theorem EA {j0 i bl o:Nat}{cs:List AVal}(hg:aQ ops env g=some (b,b))
  (hx:ai env x=some (.own j0 (.pointer (some ⟨bl,o,none⟩)))) (hy:ai env y=some av) (hi:H[i]? =some (.cells bl eT cs)) (h1:bi P T=some xT) (h2:av.cells.length=xT.size)
  (hc:Nat.ble (o+xT.size) cs.length=true) (hp:av.plain=true) (hok:kQ av.cells=true)
  (h:au P C n ops rest env (H.set i (.cells bl eT (cs.take o++av.cells++cs.drop (o+xT.size)))) Q):
  au P C n ops ({dst:=none,op:=.store T x y,type:=t,pos:=p,after:=af,guard:=g}::rest) env H Q:=by
 refine nR hg rfl (λR ρ w hm hf=> ?_) h;have hc:=v_ hc;obtain⟨Cs,el,fz,hb,hl,hfz⟩:=lg hm hi;have hlen:=aJ hl;simp only[r_] at hlen;have hv:=lf (hf _ _ hy) hp;have hvl:=aJ hv;simp only[r_] at hvl;obtain⟨w',hr,ho⟩:=fj (P:=P) (ρ y).cells.toList o 0 Cs w hb (by simp only[r_];omega) hfz.1 (nS hv hok);refine⟨w',R,?_,Seal.le_refl R,hm.write hi rfl ho rfl ?_⟩
 ·simp only[execOp,(aG.1 (hf _ _ hx)).1,Instr.storeAt,Instr.sureAddr,storeVar,e_,h_,c_,aN h1];rw[if_neg a_];simp only[e_,h_,c_,hr]
 ·refine⟨_,_,_,ho.at_,?_,?_⟩
  ·simp only[Nat.add_zero,r_,hvl,h2];exact ck (ck (di o hl) hv) (dy _ hl)
  ·simp only[Nat.add_zero,r_,hvl,h2,Y_,d_,i_,k_];have:min o Cs.size+xT.size+(Cs.size-(o+xT.size))=Cs.size:=by omega
   rw[this];exact hfz
theorem rW {j0 i bl o n0 sz:Nat}{v:Value}{cs:List AVal}(hg:aQ ops env g=some (b,b))
  (hx:ai env x=some (.own j0 (.pointer (some ⟨bl,o,none⟩)))) (hy:ai env y=some av) (hi:H[i]? =some (.row v eT sz n0 cs)) (hr:cd v bl n0) (h0:0<n0) (h1:bi P T=some xT) (h2:av.cells.length=xT.size)
  (hc:o+xT.size<=n0*sz) (hp:av.plain=true) (hok:kQ av.cells=true)
  (h:au P C n ops rest env (H.set i (.row v eT sz n0 (cs.take o++av.cells++cs.drop (o+xT.size)))) Q):
  au P C n ops ({dst:=none,op:=.store T x y,type:=t,pos:=p,after:=af,guard:=g}::rest) env H Q:=by
 refine nR hg rfl (λR ρ w hm hf=> ?_) h;obtain⟨hlen,cap,Cs,el,fz,rfl,hb,hsz,hnc,hl,hfz⟩:=s6 hm hi hr h0;have hmul:n0*sz<=cap*sz:=YW _ hnc;have hv:=lf (hf _ _ hy) hp;have hvl:=aJ hv;simp only[r_] at hvl;obtain⟨w',hr',ho⟩:=fj (P:=P) (ρ y).cells.toList o 0 Cs w hb (by simp only[r_];omega) hfz.1 (nS hv hok);refine⟨w',R,?_,Seal.le_refl R,hm.write hi rfl ho rfl ?_⟩
 ·simp only[execOp,(aG.1 (hf _ _ hx)).1,Instr.storeAt,Instr.sureAddr,storeVar,e_,h_,c_,aN h1];rw[if_neg a_];simp only[e_,h_,c_,hr']
 ·refine⟨by simp only[d_,i_,k_];omega,.inr ⟨bl,cap,_,_,_,rfl,ho.at_,?_,hnc,?_,?_⟩⟩
  ·simp only[Nat.add_zero,r_,hvl,h2,Y_,d_,i_,k_];omega
  ·have e1:(Cs.toList.take (o+0)++(ρ y).cells.toList++Cs.toList.drop (o+0+(ρ y).cells.toList.length)).take (n0*sz)=(Cs.toList.take (n0*sz)).take o++(ρ y).cells.toList++(Cs.toList.take (n0*sz)).drop (o+xT.size):=by
    have hl1:(Cs.toList.take o).length=o:=by rw[i_,r_];omega
    have hl2:(ρ y).cells.toList.length=xT.size:=by rw[r_];omega
    rw[Nat.add_zero,hl2,List.take_append,d_,hl1,hl2,u_ (by rw[d_,hl1,hl2];omega),R_,Nat.min_eq_left a_,List.drop_take]
   simp only[];rw[e1];exact ck (ck (di o hl) hv) (dy _ hl)
  ·simp only[Nat.add_zero,r_,hvl,h2,Y_,d_,i_,k_];have:min o Cs.size+xT.size+(Cs.size-(o+xT.size))=Cs.size:=by omega
   rw[this];exact hfz
theorem B1 {j0 i bl pos:Nat}{s:List UInt8}(hg:aQ ops env g=some (b,b))(hdn:Nat.ble (d+1) n=true)(hx:ai env x=some (.own j0 (.pointer (some ⟨bl,0,none⟩))))(hi:H[i]? =some (.iter bl s pos))(hlt:pos<s.length)
  (h:au P C n ops rest ((d,.tuple [.bool true,.int .i64 (pos:Int),.int .i32 ((Utf8.decode ⟨s.toArray⟩ pos).1:Int)])::env) (H.set i (.iter bl s (pos+(Utf8.decode ⟨s.toArray⟩ pos).2))) Q):
  au P C n ops ({dst:=some d,op:=.next x true,type:=t,pos:=p,after:=af,guard:=g}::rest) env H Q:=by
 refine tZ hg rfl hdn (λR ρ w hm hf=> ?_) h;have hb:w.heap[bl]? =some (.stringIter ⟨s.toArray⟩ pos):=hm.heap.holds _ (q_ hi);have hlt':=pY hb;have ho:nU w bl (.stringIter ⟨s.toArray⟩ (pos+(Utf8.decode ⟨s.toArray⟩ pos).2)) {w with heap:=w.heap.setIfInBounds bl (.stringIter ⟨s.toArray⟩ (pos+(Utf8.decode ⟨s.toArray⟩ pos).2))}:=
  ⟨rfl,rfl,rfl,by simp,by simp[hlt'],λk hk=>by simp only[];rw[Array.getElem?_setIfInBounds_ne (Ne.symm hk)]⟩
 refine⟨.tuple #[.bool true,.int .i64 (pos:Int),.int .i32 ((Utf8.decode ⟨s.toArray⟩ pos).1:Int)],{w with heap:=w.heap.setIfInBounds bl (.stringIter ⟨s.toArray⟩ (pos+(Utf8.decode ⟨s.toArray⟩ pos).2))},R,?_,Seal.le_refl R,?_,
  hm.write hi rfl ho rfl ho.at_⟩
 ·simp only[execOp,(aG.1 (hf _ _ hx)).1,Instr.next,e_,fT hb (by simp),c_,bH,if_pos hlt];simp only[setObj,Sem.run,hb];rfl
 ·exact⟨⟨_,rfl,_,_,rfl,⟨rfl,rfl⟩,_,_,rfl,⟨rfl,rfl⟩,_,_,rfl,⟨rfl,rfl⟩,rfl⟩,rfl⟩
theorem B2 {j0 i bl pos:Nat}{s:List UInt8}(hg:aQ ops env g=some (b,b))(hdn:Nat.ble (d+1) n=true)(hx:ai env x=some (.own j0 (.pointer (some ⟨bl,0,none⟩))))(hi:H[i]? =some (.iter bl s pos))(hlt:s.length<=pos)
  (h:au P C n ops rest ((d,.tuple [.bool false])::env) H Q):
  au P C n ops ({dst:=some d,op:=.next x true,type:=t,pos:=p,after:=af,guard:=g}::rest) env H Q:=by
 refine KL hg rfl hdn (λR ρ w hm hf=> ?_) h;have hb:w.heap[bl]? =some (.stringIter ⟨s.toArray⟩ pos):=hm.heap.holds _ (q_ hi);refine⟨.tuple #[.bool false],?_,⟨⟨_,rfl,_,_,rfl,⟨rfl,rfl⟩,rfl⟩,rfl⟩⟩;simp only[execOp,(aG.1 (hf _ _ hx)).1,Instr.next,e_,fT hb (by simp),c_,bH];rw[if_neg a_];rfl
theorem OE {j0 i bl pos:Nat}{s:List UInt8}(hg:aQ ops env g=some (b,b))(hdn:Nat.ble (d+1) n=true)(hx:ai env x=some (.own j0 (.pointer (some ⟨bl,0,none⟩))))(hi:H[i]? =some (.iter bl s pos))
  (hmore:pos<s.length->au P C n ops rest ((d,.tuple [.bool true,.int .i64 (pos:Int),.int .i32 (fk (s.drop pos):Int)])::env) (H.set i (.iter bl s (pos+eN (s.drop pos)))) Q)
  (hdone:s.length<=pos->au P C n ops rest ((d,.tuple [.bool false])::env) H Q):
  au P C n ops ({dst:=some d,op:=.next x true,type:=t,pos:=p,after:=af,guard:=g}::rest) env H Q:=by
 by_cases hlt:pos<s.length
 ·refine B1 hg hdn hx hi hlt ?_;have e:=so s pos hlt;have h:=hmore hlt;have e1:(Utf8.decode ⟨s.toArray⟩ pos).1=fk (s.drop pos):=by rw[e];unfold fk;split<;>rfl
  have e2:(Utf8.decode ⟨s.toArray⟩ pos).2=eN (s.drop pos):=by rw[e];unfold eN;split<;>rfl
  rw[e1,e2];exact h
 ·exact B2 hg hdn hx hi a_ (hdone a_)
theorem Ag {j0 i m n0 sz:Nat}{v:Value}{xa:AVal}{cs new z:List AVal}{tx e:TypeId}{xe:TI}(hg:aQ ops env g=some (b,b))(hdn:Nat.ble (d+1) n=true)
  (hx:ai env x=some (.own j0 v)) (hi:H[i]? =some (.row v eT sz n0 cs)) (hy:ai env y=some xa)
  (h1:bi P T=some xT) (h2:xT.desc= .slice e) (h3:bi P e=some xe) (h4:xe.size=sz) (h5:Nat.ble 1 sz=true) (h6:Nat.ble xe.bytes 1024=true) (h7:bF xe.zero=some z) (h8:z.length=sz)
  (hs:∀R v,bx R xa v->Gi P R sz tx v m new) (hlen:n0+m<=137438953472) (hty:∀t,eT=some t->e=t)
  (h:∀v':Value,au P C n ops rest ((d,.own i v')::env) (H.set i (.row v' eT sz (n0+m) (cs++new))) Q):
  au P C n ops ({dst:=some d,op:=.call {callee:=.builtin .append,args:=[x,y].toArray,argTypes:=[T,tx].toArray},type:=t,pos:=p,after:=af,guard:=g}::rest) env H Q:=by
 refine gF (av:=λv':Value=>.own i v') (H':=λv'=>H.set i (.row v' eT sz (n0+m) (cs++new))) hg rfl hdn (λR ρ w hm hf=> ?_) h;obtain⟨v',w',hr,hm'⟩:=yK (T:=T) (tx:=tx) t hm hi h1 h2 h3 h4 (zI h7 h8) (v_ h6) (hs R _ (hf _ _ hy)) (v_ h5) hlen hty;refine⟨v',v',w',R,?_,Seal.le_refl R,aG.2 ⟨rfl,D7 hm' (p5 hi)⟩,hm'⟩;simp only[execOp,resolve,e_,h_,c_,invoke,builtin,X_,S_,YN,(aG.1 (hf _ _ hx)).1,hr]
end
end
end Go.Proofs.YtnbaflecdkgihaaGreatDoor
