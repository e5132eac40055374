/- Parts of the proof of jcardReads_card. -/
import Derived.Carry
import Derived.Test.YtpgdnpielhfpgaaGreatDoorBab
set_option linter.unusedVariables false
set_option linter.unusedSimpArgs false
set_option linter.unusedSectionVars false
namespace Go.Proofs.YtpgdnpielhfpgaaGreatDoor
open Tryz
set_option maxRecDepth 20000
set_option maxHeartbeats 4000000
section
open Go
structure Sp (p k:Prop):Prop where
 p:p
 k:k
structure Sc (b:Bool) (t f:Prop):Prop where
 t:b=true->t
 f:b=false->f
theorem vq {p k:Prop}(hp:p)(hk:k):Sp p k:=⟨hp,hk⟩
theorem gW {t f:Prop}(h:t):Sc true t f:=⟨λ_=>h,λe=>by cases e⟩
theorem d9 {t f:Prop}(h:f):Sc false t f:=⟨λe=>(by cases e),λ_=>h⟩
theorem qt {x y:Int}{t f:Prop}(ht:x<y->t)(hf:y<=x->f):Sc (lx x y) t f:=⟨λe=>ht (nE.1 e),λe=>hf (mW.1 e)⟩
theorem mn {x y:Int}{t f:Prop}(ht:y<=x->t)(hf:x<y->f):Sc (!lx x y) t f:=⟨λe=>ht (mW.1 (by simpa using e)),λe=>hf (nE.1 (by simpa using e))⟩
theorem qu {x y:Int}{t f:Prop}(ht:x=y->t)(hf:x≠y->f):Sc (cm x y) t f:=⟨λe=>ht (bP.1 e),λe=>hf (fV.1 e)⟩
theorem mq {x y:Int}{t f:Prop}(ht:x≠y->t)(hf:x=y->f):Sc (!cm x y) t f:=⟨λe=>ht (fV.1 (by simpa using e)),λe=>hf (bP.1 (by simpa using e))⟩
theorem mo {x:List UInt8}{t f:Prop}(ht:x.length=0->t)(hf:x.length≠0->f):Sc (aS x []) t f:=⟨λe=>ht (by have:=bx.1 e;subst this;rfl),λe=>hf (λh=>(du.1 e) (List.eq_nil_of_length_eq_zero h))⟩
theorem jG {x:List UInt8}{t f:Prop}(ht:x.length≠0->t)(hf:x.length=0->f):Sc (!aS x []) t f:=by
 refine⟨λe=>ht λh=> ?_,λe=>hf ?_⟩
 ·exact(du.1 (by simpa using e)) (List.eq_nil_of_length_eq_zero h)
 ·have e:aS x []=true:=by simpa using e
  have:=bx.1 e;subst this;rfl
theorem mm {x y:List UInt8}{t f:Prop}(ht:x=y->t)(hf:x≠y->f):Sc (aS x y) t f:=⟨λe=>ht (bx.1 e),λe=>hf (du.1 e)⟩
theorem jF {x y:List UInt8}{t f:Prop}(ht:x≠y->t)(hf:x=y->f):Sc (!aS x y) t f:=⟨λe=>ht (du.1 (by simpa using e)),λe=>hf (bx.1 (by simpa using e))⟩
theorem aF {b:Bool}{t f:Prop}(h:Sc b f t):Sc (!b) t f:=⟨λe=>h.2 (by simpa using e),λe=>h.1 (by simpa using e)⟩
theorem bf {a b:Bool}{t f:Prop}(h:Sc a t (Sc b t f)):Sc (a||b) t f:=by
 cases a
 ·exact⟨λe=>(h.2 rfl).1 (by simpa using e),λe=>(h.2 rfl).2 (by simpa using e)⟩
 ·exact⟨λ_=>h.1 rfl,λe=>by simp at e⟩
theorem bQ {b:Bool}{t f:Prop}(ht:b=true->t)(hf:b=false->f):Sc b t f:=⟨ht,hf⟩
structure Ix (i:Int) (m:Nat) (K:Nat->Prop):Prop where
 p:0<=i/\i<m
 k:K i.toNat
theorem T5 {i m:Nat}{K:Nat->Prop}(h:i<m)(k:K i):Ix (i:Int) m K:=⟨⟨by omega,by omega⟩,by simpa using k⟩
theorem T6 {i:Int}{m:Nat}{K:Nat->Prop}(h:0<=i/\i<m)(k:K i.toNat):Ix i m K:=⟨h,k⟩
structure Sl (i j:Int) (m:Nat) (K:Nat->Nat->Prop):Prop where
 p:0<=i/\i<=j/\j<=m
 k:K i.toNat j.toNat
theorem Ta {i j m:Nat}{K:Nat->Nat->Prop}(h:i<=j/\j<=m)(k:K i j):Sl (i:Int) (j:Int) m K:=⟨⟨by omega,by omega,by omega⟩,by simpa using k⟩
theorem Tb {i j:Int}{m:Nat}{K:Nat->Nat->Prop}(h:0<=i/\i<=j/\j<=m)(k:K i.toNat j.toNat):Sl i j m K:=⟨h,k⟩
structure Bx (s:List UInt8) (i:Nat) (k:Prop):Prop where
 h:aa s i<256->k
theorem bR {s:List UInt8}{i:Nat}{k:Prop}(h:aa s i<256->k):Bx s i k:=⟨h⟩
inductive Cx (P:Program) (G:Glo) (f:FuncId) (avs:List AVal) (H:Heap) (K:AVal->Heap->Prop) (Kp:AVal->Heap->Prop):Prop
 |mk (Qf:cz->Heap->Prop) (hs:ae P G f avs H Qf) (hr:∀v H',Qf (.ret v) H'->K v H') (hp:∀v H',Qf (.panic v) H'->Kp v H')
structure Ab (K:Nat->Prop):Prop where
 h:∀bl,K bl
structure Av (K:Value->Prop):Prop where
 h:∀v,K v
structure Ac (p:Nat->Prop) (K:Nat->Nat->Prop):Prop where
 h:∀bl cap,p cap->K bl cap
theorem bS {K:Nat->Prop}(h:∀bl,K bl):Ab K:=⟨h⟩
def EM (m:Nat)(a:Option Addr)(k:Nat):Prop:=0<m->∃b,a=some ⟨b,0,none⟩/\k=m
structure As (m:Nat) (K:Value->Prop):Prop where
 h:∀(a:Option Addr) (n c:Nat),EM m a n->K (.slice a n c)
theorem cb {m:Nat}{K:Value->Prop}(h:∀(a:Option Addr) (n c:Nat),EM m a n->K (.slice a n c)):As m K:=⟨h⟩
theorem ca {K:Value->Prop}(h:∀v,K v):Av K:=⟨h⟩
theorem cd {p:Nat->Prop}{K:Nat->Nat->Prop}(h:∀bl cap,p cap->K bl cap):Ac p K:=⟨h⟩
inductive Ch (a b:Prop):Prop
 |inl (h:a)
 |inr (h:b)
inductive Bo (a b:Prop):Prop
 |inl (h:a)
 |inr (h:b)
theorem cg {a b:Prop}(h:a):Bo a b:=.inl h
theorem RM {a b:Prop}(h:b):Bo a b:=.inr h
inductive Ia (P:Program) (ty:TypeId) (S T:TypeId) (a b:Prop):Prop
 |hit (h:∀v w,(Instr.typeAssert (.iface ty v) S T true).run P w= .ok (.tuple #[.iface ty v,.bool true]) w) (k:a)
 |miss (h:∀v w,(Instr.typeAssert (.iface ty v) S T true).run P w= .ok (.tuple #[.nilIface,.bool false]) w) (k:b)
inductive Gt (cs:List AVal) (o:Nat) (K:AVal->Prop):Prop
 |mk (a:AVal) (h:cs[o]? =some a) (ha:a.isAgg=false) (k:K a)
inductive Gs (cs:List AVal) (o sz:Nat) (K:List AVal->Prop):Prop
 |mk (c:List AVal) (h:(cs.drop o).take sz=c) (k:K c)
theorem yD {cs:List AVal}{o:Nat}{K:AVal->Prop}{a:AVal}(h:cs[o]? =some a)(ha:a.isAgg=false)(k:K a):Gt cs o K:=.mk a h ha k
theorem UJ {a b:Prop}(h:b):Ch a b:=.inr h
def ju {β:Type}:List AVal->(List AVal->β)->β
 |[],k=>k []
 |c::cs,k=>ju cs (λr=>k (c::r))
theorem dq {β:Type}:∀(l:List AVal) (k:List AVal->β),ju l k=k l
 |[],_=>rfl
 |_::cs,k=>dq cs _
def dP {β:Type}:Heap->(Heap->β)->β
 |[],k=>k []
 |c::cs,k=>dP cs (λr=>k (c::r))
theorem bB {β:Type}:∀(l:Heap) (k:Heap->β),dP l k=k l
 |[],_=>rfl
 |_::cs,k=>bB cs _
abbrev Xf:=(AVal->Prop)->Prop
def Nl:IntKind->Nat
 |.i8=>0|.i16=>1|.i32=>2|.i64=>3|.u8=>4|.u16=>5|.u32=>6|.u64=>7
theorem wu {k j:IntKind}(h:Nat.beq (Nl k) (Nl j)=true):j=k:=by
 have:=Nat.eq_of_beq_eq_true h;cases k<;>cases j<;>simp[Nl] at this<;>rfl
def M7:List (Nat×Nat×Int):=[(1,1,2),(3,2,4),(7,3,8),(15,4,16),(31,5,32),(63,6,64),(127,7,128),(255,8,256),(1023,10,1024),(4095,12,4096),(65535,16,65536)]
def zq (c:Nat):List (Nat×Nat×Int)->Option (Nat×Int)
 |[]=>none
 |(m,e,q)::r=>match Nat.beq m c with
  |true=>some (e,q)
  |false=>zq c r
theorem M8 {c e:Nat}{q:Int}(h:zq c M7=some (e,q)):c=2^e-1/\AY KX e=some q:=by
 have key:∀l:List (Nat×Nat×Int),(∀x∈l,x.1=2^x.2.1-1/\AY KX x.2.1=some x.2.2)->zq c l=some (e,q)->c=2^e-1/\AY KX e=some q:=by
  intro l;induction l with
  |nil=>intro _ h;simp[zq] at h
  |cons x r ih=>
   obtain⟨m,e',q'⟩:=x;intro hl h;simp only[zq] at h;split at h
   ·rename_i hb;have:=Nat.eq_of_beq_eq_true hb;simp only[Option.some.injEq,Prod.mk.injEq] at h;obtain⟨rfl,rfl⟩:=h;have h1:=hl (m,e',q') (by simp);exact⟨by rw[<-this];exact h1.1,h1.2⟩
   ·exact ih (λx hx=>hl x (by simp[hx])) h
 exact key M7 (by decide) h
def bg (m q:Int):Prop:=(m%16=0/\q<16)\/(m%64=0/\q<64)\/(m%256=0/\q<256)\/(m%4096=0/\q<4096)\/(m%262144=0/\q<262144)
def Gu (op:BinOp)(k:IntKind)(m q:Int)(F:Prop):Xf:=λK=>
 match kx op k m q with
 |some av=>K av
 |none=>F
def G3 (op:BinOp)(k:IntKind)(m q:Int)(y:Operand)(F:Prop):Xf:=λK=>
 match ep k with
 |(lo,hi)=>match op with
  |.add=>Ch (Sp (lo<=m+q/\m+q<=hi) (K (.int k (m+q)))) (K (.int k (k.wrap (m+q))))
  |.sub=>Ch (Sp (lo<=m-q/\m-q<=hi) (K (.int k (m-q)))) (K (.int k (k.wrap (m-q))))
  |.mul=>Ch (Sp (lo<=m*q/\m*q<=hi) (K (.int k (m*q)))) (K (.int k (k.wrap (m*q))))
  |.quo=>Sp (0<=m/\0<q/\m<=hi) (K (.int k (m/q)))
  |.rem=>Ch (Sp (0<=m/\0<q) (K (.int k (m%q)))) (Sp (0<q) (K (.int k (m.tmod q))))
  |.or=>Ch (Sp (0<=m/\0<=q/\m+q<=hi/\bg m q) (K (.int k (m+q)))) (Gu .or k m q F K)
  |.and=>match y with
   |.const (.int _ (.ofNat c))=>match zq c M7 with
    |some (e,c')=>match Nat.ble (e+1) k.bits with
     |true=>Ch (Sp (0<=m/\m<=hi) (K (.int k (m%c')))) (Gu .and k m q F K)
     |false=>F
    |none=>Gu .and k m q F K
   |_=>Ch (Sp (0<=m/\0<=q/\m<=hi/\q<=hi) (K (.int k ((m.toNat&&& q.toNat:Nat):Int)))) (Gu .and k m q F K)
  |op=>match OG op m q with
   |some av=>K av
   |none=>Gu op k m q F K
def Fm (op:BinOp)(k:IntKind)(m:Int)(y:Operand)(F:Prop):Xf:=λK=>
 match y with
 |.const (.int _ (.ofNat s))=>match AY KX s with
  |some c=>match Nat.ble s k.bits with
   |true=>match ep k with
    |(lo,hi)=>match op with
     |.shl=>Ch (Sp (lo<=m*c/\m*c<=hi) (K (.int k (m*c)))) (K (.int k (k.wrap (m*c))))
     |.shr=>K (.int k (m/c))
     |_=>F
   |false=>F
  |none=>F
 |_=>F
def Q1:BinOp->Bool
 |.shl=>true
 |.shr=>true
 |_=>false
section
variable (P:Program) [Tab P]
def UP (env:Env)(op:BinOp)(tx:TypeId)(x y:Operand)(F:Prop):Xf:=λK=>
 match ai env x with
 |some (.int k m)=>match Q1 op with
  |true=>Fm op k m y F K
  |false=>match ai env y with
   |some (.int j q)=>match Nat.beq (Nl k) (Nl j) with
    |true=>G3 op k m q y F K
    |false=>F
   |_=>F
 |some (.str s)=>match ai env y with
  |some (.str t)=>match op with
   |.add=>Sp (s.length+t.length<=9223372036854775807) (K (.str (s++t)))
   |_=>match Ff op s t with
    |some av=>K av
    |none=>F
  |_=>F
 |some (.bool a)=>match ai env y with
  |some (.bool c)=>match bC P tx with
   |some xT=>match xT.desc,op with
    |.bool,.eql=>K (.bool (a==c))
    |_,_=>F
   |none=>F
  |_=>F
 |some a=>match y with
  |.const z=>match bC P tx with
   |some xT=>match A9 xT.desc a,ph xT.desc with
    |some c,some z'=>match op with
     |.eql=>Sp (z'=z) (K (.bool c))
     |.neq=>Sp (z'=z) (K (.bool (!c)))
     |_=>F
    |_,_=>F
   |none=>F
  |_=>F
 |none=>F
def TY (env:Env)(H:Heap)(T:TypeId)(x:Operand)(F:Prop):Xf:=λK=>
 match bC P T with
 |some xT=>match ai env x,xT.desc with
  |some (.str m),.string=>K (.int .i64 (m.length:Int))
  |some (.list _ m _),.slice _=>K (.int .i64 (m:Int))
  |some (.raw (.slice _ m _)),.slice _=>K (.int .i64 (m:Int))
  |some (.own i v),.slice _=>match H[i]? with
   |some (.row v' eT _ m _)=>Sp (v'=v) (K (.int .i64 (m:Int)))
   |_=>match v with
    |.slice _ m _=>K (.int .i64 (m:Int))
    |_=>F
  |_,_=>F
 |none=>F
def ux (env:Env)(mx:Bool)(x y:Operand)(F:Prop):Xf:=λK=>
 match ai env x,ai env y with
 |some (.int k m),some (.int j q)=>match Nat.beq (Nl k) (Nl j),mx with
  |true,false=>K (.int k (min m q))
  |true,true=>K (.int k (max m q))
  |_,_=>F
 |_,_=>F
def GY (env:Env)(H:Heap)(b:Builtin)(args:List Operand)(ts:List TypeId)(F:Prop):Xf:=λK=>
 match b,args,ts with
 |.len,[x],[T]=>TY P env H T x F K
 |.min,[x,y],_=>ux env false x y F K
 |.max,[x,y],_=>ux env true x y F K
 |_,_,_=>F
structure Sd (i:Int) (m:Nat) (K:Nat->Prop):Prop where
 p:0<=i/\i<=m
 k:K i.toNat
def sx (env:Env)(x:Operand)(F:Prop)(K:Int->Prop):Prop:=
 match ai env x with
 |some (.int _ i)=>K i
 |_=>F
def uL (env:Env)(m:Nat)(lo hi:Option Operand)(F:Prop)(K0:Prop)(Kf Kt:Nat->Prop)(K:Nat->Nat->Prop):Prop:=
 match lo,hi with
 |none,none=>K0
 |some a,none=>sx env a F λi=>Sd i m Kf
 |none,some b=>sx env b F λj=>Sd j m Kt
 |some a,some b=>sx env a F λi=>sx env b F λj=>Sl i j m K
def Fk (env:Env)(T:TypeId)(x:Operand)(lo hi mx:Option Operand)(F:Prop):Xf:=λK=>
 match mx with
 |some _=>F
 |none=>match bC P T with
  |some xT=>match ai env x,xT.desc with
   |some (.str m),.string=>uL env m.length lo hi F (K (.str m)) (λi=>K (.str (m.drop i))) (λj=>K (.str (m.take j))) (λi j=>K (.str ((m.take j).drop i)))
   |some (.list sz m f),.slice e=>match bC P e with
    |some xe=>match Nat.beq xe.size sz with
     |true=>uL env m lo hi F (K (.list sz m f)) (λi=>K (.list sz (m-i) (λk=>f (i+k)))) (λj=>K (.list sz j f)) (λi j=>K (.list sz (j-i) (λk=>f (i+k))))
     |false=>F
    |none=>F
   |_,_=>F
  |none=>F
def Gm (env:Env)(T:TypeId)(x y:Operand)(F:Prop):Xf:=λK=>
 match bC P T with
 |some xT=>match ai env x,xT.desc with
  |some (.str m),.string=>sx env y F λi=>Ix i m.length λj=>Bx m j (K (.int .u8 (aa m j:Int)))
  |_,_=>F
 |none=>F
def nI:List (Nat×List AVal)->Nat->Option (List AVal)
 |[],_=>none
 |(g,cs)::r,k=>match Nat.beq g k with
  |true=>some cs
  |false=>nI r k
def Eo (ag:Bool)(sz:Nat)(cs:List AVal)(o:Nat)(F:Prop):Xf:=λK=>
 match ag with
 |true=>match Nat.ble (o+sz) cs.length with
  |true=>ju ((cs.drop o).take sz) λc=>K (.agg c)
  |false=>F
 |false=>match cs[o]? with
  |some av=>match av.isAgg with
   |false=>K av
   |true=>F
  |none=>F
def DB (GL:List (Nat×List AVal))(env:Env)(H:Heap)(T:TypeId)(x:Operand)(F:Prop):Xf:=λK=>
 match bC P T with
 |some xT=>match x with
  |.global g=>match nI GL g with
   |some cs=>Eo (cv xT.desc) xT.size cs 0 F K
   |none=>F
  |_=>match ai env x with
   |some (.rop cs off)=>Eo (cv xT.desc) xT.size cs off F K
   |some (.own i (.pointer (some ⟨b,o,none⟩)))=>match H[i]? with
    |some (.cells b' eT cs)=>Sp (b'=b) (Eo (cv xT.desc) xT.size cs o F K)
    |some (.buf b' s _)=>match cv xT.desc with
     |false=>Sp (b'=b/\o<s.length) (Bx s o (K (.int .u8 (aa s o:Int))))
     |true=>F
    |some (.row v' _ sz n cs)=>match cv xT.desc with
     |false=>Sp (eW v' b n/\o<n*sz) (Gt cs o K)
     |true=>Sp (eW v' b n/\o+xT.size<=n*sz/\0<n) (Gs cs o xT.size λc=>K (.agg c))
    |_=>F
   |_=>F
 |none=>F
def kD (env:Env)(T:TypeId)(x:Operand)(k:Nat)(F:Prop):Xf:=λK=>
 match bC P T with
 |some xT=>match xT.desc with
  |.struct fs=>match fs[k]? with
   |some f=>match bC P f.type with
    |some xf=>match Nat.ble 1 xf.size with
     |true=>match ai env x with
      |some (.rop cs off)=>K (.rop cs (off+f.offset))
      |some (.own i (.pointer (some ⟨b,o,none⟩)))=>K (.own i (.pointer (some ⟨b,o+f.offset,none⟩)))
      |_=>F
     |false=>F
    |none=>F
   |none=>F
  |_=>F
 |none=>F
def Of (a:AVal)(F:Prop):Xf:=λK=>
 match a with
 |.agg cs=>ju cs λc=>K (.rop c 0)
 |.raw (.agg _)=>F
 |a=>K (.rop [a] 0)
def gx (GL:List (Nat×List AVal))(env:Env)(T:TypeId)(x y:Operand)(F:Prop):Xf:=λK=>
 match bC P T with
 |some xT=>match xT.desc with
  |.slice e=>match bC P e with
   |some xe=>match ai env x with
    |some (.list sz m f)=>match Nat.beq xe.size sz with
     |true=>sx env y F λi=>Ix i m λj=>Of (f j) F K
     |false=>F
    |some (.own i (.slice (some ⟨b,0,none⟩) m _))=>match Nat.beq xe.size 1 with
     |true=>sx env y F λk=>Ix k m λj=>K (.own i (.pointer (some ⟨b,j,none⟩)))
     |false=>sx env y F λk=>Ix k m λj=>K (.own i (.pointer (some ⟨b,j*xe.size,none⟩)))
    |_=>F
   |none=>F
  |.array len e=>match bC P e with
   |some xe=>match x with
    |.global g=>match nI GL g with
     |some cs=>sx env y F λi=>Ix i len λj=>K (.rop cs (j*xe.size))
     |none=>F
    |_=>match ai env x with
     |some (.own i (.pointer (some ⟨b,o,none⟩)))=>sx env y F λk=>Ix k len λj=>K (.own i (.pointer (some ⟨b,o+j*xe.size,none⟩)))
     |some (.rop cs off)=>sx env y F λk=>Ix k len λj=>K (.rop cs (off+j*xe.size))
     |_=>F
   |none=>F
  |_=>F
 |none=>F
def GE (env:Env)(T:TypeId)(x:Operand)(k:Nat)(F:Prop):Xf:=λK=>
 match bC P T with
 |some xT=>match xT.desc with
  |.struct fs=>match fs[k]? with
   |some f=>match bC P f.type with
    |some xf=>match ai env x with
     |some (.agg cs)=>match cv xf.desc with
      |true=>ju ((cs.drop f.offset).take xf.size) λc=>K (.agg c)
      |false=>match cs[f.offset]? with
       |some av=>match av.isAgg with
        |false=>K av
        |true=>F
       |none=>F
     |_=>F
    |none=>F
   |none=>F
  |_=>F
 |none=>F
def oo (env:Env)(x:Operand)(F:Prop):Xf:=λK=>
 match ai env x with
 |some (.rop cs off)=>K (.rop cs off)
 |some (.own i (.pointer (some a)))=>K (.own i (.pointer (some a)))
 |_=>F
def OD (env:Env)(H:Heap)(S T:TypeId)(x:Operand)(F:Prop):Xf:=λK=>
 match bC P S,bC P T with
 |some xS,some xT=>match ai env x with
  |some (.int k m)=>match xT.desc with
   |.int j=>match ep j with
    |(lo,hi)=>Ch (Sp (lo<=m/\m<=hi) (K (.int j m))) (K (.int j (j.wrap m)))
   |_=>F
  |some (.own i (.slice (some ⟨b,0,none⟩) m _))=>match xS.desc,xT.desc with
   |.slice e,.string=>match bC P e with
    |some xe=>match xe.desc with
     |.int .u8=>match H[i]? with
      |some (.buf b' s _)=>Sp (b'=b/\m=s.length) (K (.str s))
      |_=>F
     |_=>F
    |none=>F
   |_,_=>F
  |_=>F
 |_,_=>F
def sQ (env:Env)(T:TypeId)(l:List (Nat×Operand))(F:Prop):Xf:=λK=>
 match bC P T with
 |some xT=>match xT.desc with
  |.struct fs=>match gZ env l,mu P fs.toList,bF xT.zero with
   |some ps,some pl,some z=>match pn pl z ps with
    |some cs=>ju cs λc=>K (.agg c)
    |none=>F
   |_,_,_=>F
  |.array m e=>match gZ env l,bC P e,bF xT.zero with
   |some ps,some xe,some z=>match pn (tr m 0 xe.size) z ps with
    |some cs=>ju cs λc=>K (.agg c)
    |none=>F
   |_,_,_=>F
  |_=>F
 |none=>F
def sB (env:Env)(T:TypeId)(x:Operand)(F:Prop):Xf:=λK=>
 match bC P T,ai env x with
 |some xT,some v=>match fT xT.desc with
  |false=>K (.iface T v)
  |true=>F
 |_,_=>F
def BK (env:Env)(x:Operand)(S T:TypeId)(ok:Bool)(F:Prop):Xf:=λK=>
 match ok,bC P T with
 |true,some xT=>match ai env x with
  |some (.iface ty v)=>match fT xT.desc,Nat.beq ty T with
   |false,true=>K (.tuple [v,.bool true])
   |false,false=>match uW xT.zero with
    |some z=>K (.tuple [z,.bool false])
    |none=>F
   |true,_=>Ia P ty S T (K (.tuple [.iface ty v,.bool true])) (K (.tuple [.raw .nilIface,.bool false]))
  |some (.raw .nilIface)=>match uW xT.zero with
   |some z=>K (.tuple [z,.bool false])
   |none=>F
  |_=>F
 |_,_=>F
def B8 (GL:List (Nat×List AVal))(env:Env)(H:Heap)(op:Op)(F:Prop):Xf:=λK=>
 match op with
 |.move x|.assign x=>match ai env x with
  |some av=>K av
  |none=>F
 |.pick c x y=>match ai env c,ai env x,ai env y with
  |some (.bool b),some a,some a'=>Sc b (K a) (K a')
  |_,_,_=>F
 |.binOp op tx x y _=>UP P env op tx x y F K
 |.unOp .not _ x=>match ai env x with
  |some (.bool b)=>K (.bool (!b))
  |_=>F
 |.unOp .neg _ x=>match ai env x with
  |some (.int k m)=>match ep k with
   |(lo,hi)=>Sp (lo<=0-m/\0-m<=hi) (K (.int k (0-m)))
  |_=>F
 |.call ⟨.builtin b,args,ts⟩=>GY P env H b args.toList ts.toList F K
 |.extract x i=>match ai env x with
  |some (.tuple cs)=>match cs[i]? with
   |some av=>K av
   |none=>F
  |_=>F
 |.index T x y=>Gm P env T x y F K
 |.slice T x lo hi mx=>Fk P env T x lo hi mx F K
 |.load T x=>DB P GL env H T x F K
 |.fieldAddr T x k=>kD P env T x k F K
 |.field T x k=>GE P env T x k F K
 |.indexAddr T x y=>gx P GL env T x y F K
 |.nilCheck x=>oo env x F K
 |.convert S T x=>OD P env H S T x F K
 |.build T l=>sQ P env T l.toList F K
 |.makeInterface T x=>sB P env T x F K
 |.makeFunc fn l1 l2=>match jm env l1.toList,jm env l2.toList with
  |some a1,some a2=>K (.func fn a1 a2)
  |_,_=>F
 |.typeAssert x S T ok=>BK P env x S T ok F K
 |_=>F
end
theorem Tg {i m:Nat}{K:Nat->Prop}(h:i<=m)(k:K i):Sd (i:Int) m K:=⟨⟨by omega,by omega⟩,by simpa using k⟩
theorem Th {i:Int}{m:Nat}{K:Nat->Prop}(h:0<=i/\i<=m)(k:K i.toNat):Sd i m K:=⟨h,k⟩
section
variable {P:Program} [Tab P] {C:Ctx} {n:Nat} {env:Env} {H:Heap} {F:Prop} {K:AVal->Prop}
variable {av:AVal} {x y:Operand} {T:TypeId} {xT:TI} {tx ty:TypeId}
def ab (G:Glo)(GL:List (Nat×List AVal)):Prop:=∀g cs,nI GL g=some cs->IQ G g cs
theorem aG {G:Glo}:ab G []:=λ_ _ h=>by simp[nI] at h
theorem eA {op:Op}{s i:Nat}{v:Value}(hs:Env.get env s=some (.own i v))(h:bD P C H ((s,.raw v)::env) op av):bD P C H env op av:=by
 intro R ρ w hm hf;refine h R ρ w hm λx a hx=> ?_;cases x with
 |tmp t=>
  simp only[ai,Env.get] at hx;split at hx
  ·rename_i hb;have:=Nat.eq_of_beq_eq_true hb;subst this;simp only[Option.some.injEq] at hx;subst hx;exact ar.2 (a7.1 (hf (.tmp s) _ hs)).1
  ·exact hf (.tmp t) a hx
 |const c=>rw[eP] at hx;exact hf (.const c) a (by rw[eP];exact hx)
 |global g=>exact hf (.global g) a hx
 |func f=>exact hf (.func f) a hx
theorem mv {i:Nat}{v:Value}(h:ai env x=some (.own i v)):∃s,x= .tmp s/\Env.get env s=some (.own i v):=by
 cases x with
 |tmp t=>exact⟨t,rfl,h⟩
 |const c=>cases c<;>simp[ai,HR,sE] at h
 |global g=>simp[ai] at h
 |func f=>simp[ai] at h
theorem ic {s:Nat}{a:AVal}:Env.get ((s,a)::env) s=some a:=by simp[Env.get]
theorem Qc (hx:ai env x=some av):bD P C H env (.move x) av:=λR ρ w hm hf _ _ _ _ _=>⟨ρ x,rfl,hf _ _ hx⟩
theorem Jn (hx:ai env x=some av):bD P C H env (.assign x) av:=λR ρ w hm hf _ _ _ _ _=>⟨ρ x,rfl,hf _ _ hx⟩
theorem Qb {c:Operand}{b:Bool}{a a':AVal}(hc:ai env c=some (.bool b))(hx:ai env x=some a)(hy:ai env y=some a'):bD P C H env (.pick c x y) (if b then a else a'):=by
 intro R ρ w hm hf _ _ _ _ _;have:=aW.1 (hf _ _ hc);cases b
 ·exact⟨ρ y,by simp only[execOp,this,asBool];rfl,hf _ _ hy⟩
 ·exact⟨ρ x,by simp only[execOp,this,asBool];rfl,hf _ _ hx⟩
theorem ii {k:IntKind}{m lo hi:Int}(hk:ep k=(lo,hi))(h:lo<=m/\m<=hi):fZ k m:=Wc hk h.1 h.2
theorem Qe {k:IntKind}{j:IntKind}{m c:Int}{e:Nat}(hx:ai env x=some (.int k m))(hj:j=k)(hm:0<=m)(hm':fZ k m)(he:Nat.ble (e+1) k.bits=true)(hc:AY KX e=some c):
    bD P C H env (.binOp .and tx x (.const (.int j (Int.ofNat (2^e-1)))) ty) (.int k (m%c)):=by
  subst hj;have he:=Nat.le_of_ble_eq_true he;have hq:fZ j (Int.ofNat (2^e-1)):=by
    have hp:0<2^e:=Nat.pow_pos (by omega)
    have key:∀b,e+1<=b->2^e<=2^(b-1):=λb hb=>Nat.pow_le_pow_right (by omega) (by omega)
    have:=key _ he
    cases j<;>simp only[IntKind.bits] at this he<;>simp only[fZ,Int.ofNat_eq_natCast]<;>first|omega|(have:2^e<=2^8:=Nat.pow_le_pow_right (by omega) (by omega)
                                                                                                                      omega)
  have e1:((m.toNat&&& (Int.ofNat (2^e-1)).toNat:Nat):Int)=m%(2^e:Nat):=by
    obtain⟨a,rfl⟩:=Int.eq_ofNat_of_zero_le hm
    simp only[Int.toNat_natCast,Int.ofNat_eq_natCast,Nat.and_two_pow_sub_one_eq_mod]
    simp
  refine ke hx (show ai env (.const (.int j (Int.ofNat (2^e-1))))=_ from rfl) ?_
  rw[kx,BF (λ_ a c=>a&&& c) (· &&& ·) (λa c=>by simp) (λa c e h1 h2=>Nat.and_lt_two_pow a h2) hm (by simp) hm' hq,e1,C6 hc]
theorem Jk {k:IntKind}{a q c:Int}{e:Nat}(hc:AY KX e=some c)(hx:ai env x=some (.int k (a*c)))(hy:ai env y=some (.int k q))(ha:0<=a)(hq:0<=q)(hq':q<c)(hw:fZ k (a*c+q)):
  bD P C H env (.binOp .or tx x y ty) (.int k (a*c+q)):=by
 rw[<-C6 hc] at hx hq' hw ⊢;obtain⟨a,rfl⟩:=Int.eq_ofNat_of_zero_le ha;obtain⟨q,rfl⟩:=Int.eq_ofNat_of_zero_le hq;have h0:(0:Int)<=(a:Int)*(2^e:Nat):=Int.mul_nonneg ha (Int.natCast_nonneg _);have h1:fZ k (a*(2^e:Nat)):=by cases k<;>simp only[fZ] at hw ⊢ <;>omega
 have h2:fZ k (q:Int):=by cases k<;>simp only[fZ] at hw ⊢ <;>omega
 have e1:((((a:Int)*(2^e:Nat)).toNat|||(q:Int).toNat:Nat):Int)=(a:Int)*(2^e:Nat)+q:=by
  rw[<-Int.natCast_mul,Int.toNat_natCast,Int.toNat_natCast,<-Nat.shiftLeft_eq,<-Nat.shiftLeft_add_eq_or_of_lt (by omega)];rw[Nat.shiftLeft_eq];simp
 refine ke hx hy ?_;rw[kx,BF (λ_ a c=>a|||c) (· ||| ·) (λa c=>by simp) (λa c e h1 h2=>Nat.or_lt_two_pow h1 h2) h0 hq h1 h2,e1]
theorem lH {k:IntKind}{m q c:Int}(e:Nat)(hc:AY KX e=some c)(hx:ai env x=some (.int k m))(hy:ai env y=some (.int k q))(hm:0<=m)(hd:m%c=0)(hq:0<=q)(hq':q<c)(hw:fZ k (m+q)):
  bD P C H env (.binOp .or tx x y ty) (.int k (m+q)):=by
 have e1:m=m/c*c:=by have:=Int.mul_ediv_add_emod m c;rw[hd] at this;rw[Int.mul_comm];omega
 rw[e1] at hx hw ⊢;exact Jk hc hx hy (Int.ediv_nonneg hm (by omega)) hq hq' hw
theorem qU {op:BinOp}{k:IntKind}{m q:Int}(hx:ai env x=some (.int k m))(hy:ai env y=some (.int k q))(h:Gu op k m q F K):
  F\/∃av,bD P C H env (.binOp op tx x y ty) av/\K av:=by
 unfold Gu at h;split at h
 ·rename_i av ho;exact .inr ⟨av,ke hx hy ho,h⟩
 ·exact .inl h
theorem P9 {k:IntKind}{m q:Int}(hx:ai env x=some (.int k m))(hy:ai env y=some (.int k q))(hq:0<q):bD P C H env (.binOp .rem tx x y ty) (.int k (m.tmod q)):=by
 intro R ρ w _hm hf dst t p af g;refine⟨_,?_,aq.2 rfl⟩;simp only[execOp,aq.1 (hf _ _ hx),aq.1 (hf _ _ hy),Go.binOp,eqGuard,Op.intDiv,ne_eq,not_true_eq_false,if_false];rw[if_neg (show ¬q=0 by omega)];rfl
theorem KI {op:BinOp}{k:IntKind}{m q:Int}(hx:ai env x=some (.int k m))(hy:ai env y=some (.int k q))(h:G3 op k m q y F K):
  F\/∃av,bD P C H env (.binOp op tx x y ty) av/\K av:=by
 unfold G3 at h;generalize hb:ep k=bd at h;obtain⟨lo,hi⟩:=bd;dsimp only at h;split at h
 ·rcases h with h|h
  ·exact .inr ⟨_,ke hx hy (by rw[kx,gF (ii hb h.1)]),h.2⟩
  ·exact .inr ⟨_,ke hx hy rfl,h⟩
 ·rcases h with h|h
  ·exact .inr ⟨_,ke hx hy (by rw[kx,gF (ii hb h.1)]),h.2⟩
  ·exact .inr ⟨_,ke hx hy rfl,h⟩
 ·rcases h with h|h
  ·exact .inr ⟨_,ke hx hy (by rw[kx,gF (ii hb h.1)]),h.2⟩
  ·exact .inr ⟨_,ke hx hy rfl,h⟩
 ·refine .inr ⟨_,Ts hx hy h.1.1 h.1.2.1 (ii hb ⟨?_,h.1.2.2⟩),h.2⟩;have h0:=h.1.1;cases k<;>simp only[ep,Prod.mk.injEq] at hb<;>omega
 ·rcases h with h|h
  ·exact .inr ⟨_,Tr hx hy h.1.1 h.1.2,h.2⟩
  ·exact .inr ⟨_,P9 hx hy h.1,h.2⟩
 ·rcases h with h|h
  rotate_left
  ·exact qU hx hy h
  obtain⟨⟨h0,h1,h2,h3⟩,hk⟩:=h;have hw:fZ k (m+q):=ii hb ⟨by cases k<;>simp only[ep,Prod.mk.injEq] at hb<;>omega,h2⟩;rcases h3 with h3|h3|h3|h3|h3
  ·exact .inr ⟨_,lH 4 rfl hx hy h0 h3.1 h1 h3.2 hw,hk⟩
  ·exact .inr ⟨_,lH 6 rfl hx hy h0 h3.1 h1 h3.2 hw,hk⟩
  ·exact .inr ⟨_,lH 8 rfl hx hy h0 h3.1 h1 h3.2 hw,hk⟩
  ·exact .inr ⟨_,lH 12 rfl hx hy h0 h3.1 h1 h3.2 hw,hk⟩
  ·exact .inr ⟨_,lH 18 rfl hx hy h0 h3.1 h1 h3.2 hw,hk⟩
 ·split at h
  ·rename_i j c;split at h
   ·rename_i e c' he;split at h
    ·rename_i hbit;rcases h with h|h
     rotate_left
     ·exact qU hx hy h
     obtain⟨rfl,hp⟩:=M8 he;simp only[ai,HR,Option.some.injEq,AVal.int.injEq] at hy;refine .inr ⟨_,Qe hx hy.1 h.1.1 (ii hb ⟨?_,h.1.2⟩) hbit hp,h.2⟩;have h0:=h.1.1;cases k<;>simp only[ep,Prod.mk.injEq] at hb<;>omega
    ·exact .inl h
   ·exact qU hx hy h
  ·rcases h with h|h
   rotate_left
   ·exact qU hx hy h
   obtain⟨⟨h0,h1,h2,h3⟩,hk⟩:=h;have hm:fZ k m:=ii hb ⟨by cases k<;>simp only[ep,Prod.mk.injEq] at hb<;>omega,h2⟩;have hq:fZ k q:=ii hb ⟨by cases k<;>simp only[ep,Prod.mk.injEq] at hb<;>omega,h3⟩;refine .inr ⟨_,ke hx hy ?_,hk⟩;rw[kx,BF (λ_ a c=>a&&& c) (· &&& ·) (λa c=>by simp) (λa c e h1 h2=>Nat.and_lt_two_pow a h2) h0 h1 hm hq]
 ·split at h
  ·rename_i av hc;refine .inr ⟨av,ke hx hy ?_,h⟩;revert hc
   unfold OG kx;split<;>simp
  ·exact qU hx hy h
theorem Jj {op:BinOp}{k:IntKind}{m:Int}(hx:ai env x=some (.int k m))(h:Fm op k m y F K):
  F\/∃av,bD P C H env (.binOp op tx x y ty) av/\K av:=by
 unfold Fm at h;split at h
 ·split at h
  ·rename_i c hc;split at h
   ·rename_i hb;generalize hbd:ep k=bd at h;obtain⟨lo,hi⟩:=bd;dsimp only at h;split at h
    ·rcases h with h|h
     ·exact .inr ⟨_,Tq hx hb hc (ii hbd h.1),h.2⟩
     ·exact .inr ⟨_,CE hx hb hc,h⟩
    ·exact .inr ⟨_,Tp hx hb hc,h⟩
    ·exact .inl h
   ·exact .inl h
  ·exact .inl h
 ·exact .inl h
theorem RN {op:BinOp}(h:UP P env op tx x y F K):F\/∃av,bD P C H env (.binOp op tx x y ty) av/\K av:=by
 unfold UP at h;split at h
 ·rename_i k m hx;split at h
  ·exact Jj hx h
  ·split at h
   ·rename_i j q hy;split at h
    ·rename_i hk;have:=wu hk;subst this;exact KI hx hy h
    ·exact .inl h
   ·exact .inl h
 ·rename_i s hx;split at h
  ·rename_i t hy;split at h
   ·exact .inr ⟨_,Tx hx hy h.1,h.2⟩
   ·split at h
    ·rename_i av hs;exact .inr ⟨av,Tn hx hy hs,h⟩
    ·exact .inl h
  ·exact .inl h
 ·rename_i a hx;split at h
  ·rename_i c hy;split at h
   ·rename_i xT ht;split at h
    ·rename_i hd;exact .inr ⟨_,Ty hx hy (by rw[ck ht,hd]),h⟩
    ·exact .inl h
   ·exact .inl h
  ·exact .inl h
 ·rename_i a _ _ _ hx;split at h
  ·rename_i z;split at h
   ·rename_i xT ht;split at h
    ·rename_i c z' h1 h2;split at h
     ·obtain⟨rfl,h⟩:=h;exact .inr ⟨_,Jm hx ht h1 h2,h⟩
     ·obtain⟨rfl,h⟩:=h;exact .inr ⟨_,Jl hx ht h1 h2,h⟩
     ·exact .inl h
    ·exact .inl h
   ·exact .inl h
  ·exact .inl h
 ·exact .inl h
def ET (P:Program)(C:Ctx)(H:Heap)(env:Env)(op:Op)(F:Prop)(K:AVal->Prop):Prop:=F\/∃av,bD P C H env op av/\K av
theorem dt {α:Type}{a:Array α}{l:List α}(h:a.toList=l):a=l.toArray:=by rw[<-h]
theorem QU (h:TY P env H T x F K):ET P C H env (.call {callee:=.builtin .len,args:=[x].toArray,argTypes:=[T].toArray}) F K:=by
 unfold TY at h;split at h
 ·rename_i xT ht;split at h
  ·rename_i m hx hd;exact .inr ⟨_,Fu hx ht hd,h⟩
  ·rename_i m f e hx hd;exact .inr ⟨_,CL hx ht hd,h⟩
  ·rename_i m cap e hx hd;exact .inr ⟨_,vG hx ht hd,h⟩
  ·rename_i i v e hx hd;obtain⟨s,rfl,hs⟩:=mv hx;split at h
   ·rename_i v' sz m cs hi;obtain⟨rfl,h⟩:=h;exact .inr ⟨_,eA hs (Fv (by simp only[ai];exact ic) hi ht hd),h⟩
   ·split at h
    ·exact .inr ⟨_,eA hs (vG (by simp only[ai];exact ic) ht hd),h⟩
    ·exact .inl h
  ·exact .inl h
 ·exact .inl h
theorem wf {mx:Bool}{ts:Array TypeId}(h:ux env mx x y F K):ET P C H env (.call {callee:=.builtin (if mx then .max else .min),args:=[x,y].toArray,argTypes:=ts}) F K:=by
 unfold ux at h;split at h
 ·rename_i k m j q hx hy;split at h
  ·rename_i hk;have:=wu hk;subst this;exact .inr ⟨_,Tv hx hy,h⟩
  ·rename_i hk;have:=wu hk;subst this;exact .inr ⟨_,Tw hx hy,h⟩
  ·exact .inl h
 ·exact .inl h
theorem KC {b:Builtin}{args:Array Operand}{ts:Array TypeId}(h:GY P env H b args.toList ts.toList F K):ET P C H env (.call {callee:=.builtin b,args:=args,argTypes:=ts}) F K:=by
 unfold GY at h;split at h
 ·rename_i h1 h2;rw[dt h1,dt h2];exact QU h
 ·rename_i h1;rw[dt h1];exact wf (mx:=false) h
 ·rename_i h1;rw[dt h1];exact wf (mx:=true) h
 ·exact .inl h
theorem fR {K:Int->Prop}(h:sx env x F K):F\/∃k i,ai env x=some (.int k i)/\K i:=by
 unfold sx at h;split at h
 ·rename_i k i hx;exact .inr ⟨k,i,hx,h⟩
 ·exact .inl h
theorem xF {m:Nat}{lo hi:Option Operand}{K0:Prop}{Kf Kt:Nat->Prop}{K:Nat->Nat->Prop}(h:uL env m lo hi F K0 Kf Kt K):
  F\/∃i j,gB env 0 lo=some i/\gB env (m:Int) hi=some j/\0<=i/\i<=j/\j<=m/\
   ((lo=none/\hi=none/\i=0/\j=m/\K0)\/(hi=none/\j=m/\Kf i.toNat)\/(lo=none/\i=0/\Kt j.toNat)\/K i.toNat j.toNat):=by
 unfold uL at h;split at h
 ·exact .inr ⟨0,m,rfl,rfl,Int.le_refl _,by omega,Int.le_refl _,.inl ⟨rfl,rfl,rfl,rfl,h⟩⟩
 ·rcases fR h with h|⟨k,i,hx,h,h'⟩
  ·exact .inl h
  ·exact .inr ⟨i,m,by simp only[gB,hx],rfl,h.1,h.2,Int.le_refl _,.inr (.inl ⟨rfl,rfl,h'⟩)⟩
 ·rcases fR h with h|⟨k,j,hx,h,h'⟩
  ·exact .inl h
  ·exact .inr ⟨0,j,rfl,by simp only[gB,hx],Int.le_refl _,h.1,h.2,.inr (.inr (.inl ⟨rfl,rfl,h'⟩))⟩
 ·rcases fR h with h|⟨k,i,hx,h⟩
  ·exact .inl h
  ·rcases fR h with h|⟨k',j,hy,h,h'⟩
   ·exact .inl h
   ·exact .inr ⟨i,j,by simp only[gB,hx],by simp only[gB,hy],h.1,h.2.1,h.2.2,.inr (.inr (.inr h'))⟩
theorem Jh {lo hi mx:Option Operand}(h:Fk P env T x lo hi mx F K):ET P C H env (.slice T x lo hi mx) F K:=by
 unfold Fk at h;split at h
 ·exact .inl h
 ·split at h
  ·rename_i xT ht;split at h
   ·rename_i m hx hd;rcases xF h with h|⟨i,j,h1,h2,h3,h4,h5,h6⟩
    ·exact .inl h
    ·have hr:=AA (P:=P) (C:=C) (H:=H) hx ht hd h1 h2 h3 h4 h5;rcases h6 with⟨_,_,rfl,rfl,h6⟩|⟨_,rfl,h6⟩|⟨_,rfl,h6⟩|h6
     ·simp only[Int.toNat_natCast,List.take_length,Int.toNat_zero,List.drop_zero] at hr;exact .inr ⟨_,hr,h6⟩
     ·simp only[Int.toNat_natCast,List.take_length] at hr;exact .inr ⟨_,hr,h6⟩
     ·simp only[Int.toNat_zero,List.drop_zero] at hr;exact .inr ⟨_,hr,h6⟩
     ·exact .inr ⟨_,hr,h6⟩
   ·rename_i sz m f e hx hd;split at h
    ·rename_i xe he;split at h
     ·rename_i hs;rcases xF h with h|⟨i,j,h1,h2,h3,h4,h5,h6⟩
      ·exact .inl h
      ·have hr:=x9 (P:=P) (C:=C) (H:=H) hx ht hd he (Nat.eq_of_beq_eq_true hs) h1 h2 h3 h4 h5;rcases h6 with⟨_,_,rfl,rfl,h6⟩|⟨_,rfl,h6⟩|⟨_,rfl,h6⟩|h6
       ·simp only[Int.toNat_natCast,Int.toNat_zero,Nat.sub_zero,Nat.zero_add] at hr;exact .inr ⟨_,hr,h6⟩
       ·simp only[Int.toNat_natCast] at hr;exact .inr ⟨_,hr,h6⟩
       ·simp only[Int.toNat_zero,Nat.sub_zero,Nat.zero_add] at hr;exact .inr ⟨_,hr,h6⟩
       ·exact .inr ⟨_,hr,h6⟩
     ·exact .inl h
    ·exact .inl h
   ·exact .inl h
  ·exact .inl h
theorem J5 (h:Gm P env T x y F K):ET P C H env (.index T x y) F K:=by
 unfold Gm at h;split at h
 ·rename_i xT ht;split at h
  ·rename_i m hx hd;rcases fR h with h|⟨k,i,hy,h,h'⟩
   ·exact .inl h
   ·exact .inr ⟨_,AE hx hy ht hd h.1 h.2,h'.h (bu _ _)⟩
  ·exact .inl h
 ·exact .inl h
theorem rt {ag:Bool}{sz:Nat}{cs:List AVal}{o:Nat}(h:Eo ag sz cs o F K):
  F\/(ag=true/\o+sz<=cs.length/\K (.agg ((cs.drop o).take sz)))\/(ag=false/\∃av,cs[o]? =some av/\av.isAgg=false/\K av):=by
 unfold Eo at h;split at h
 ·split at h
  ·rename_i hb;rw[dq] at h;exact .inr (.inl ⟨rfl,Nat.le_of_ble_eq_true hb,h⟩)
  ·exact .inl h
 ·split at h
  ·rename_i av hc;split at h
   ·rename_i ha;exact .inr (.inr ⟨rfl,av,hc,ha,h⟩)
   ·exact .inl h
  ·exact .inl h
theorem CK {i b o cap:Nat}{s:List UInt8}(hx:ai env x=some (.raw (.pointer (some ⟨b,o,none⟩))))(hi:H[i]? =some (.buf b s cap))(ht:bC P T=some xT)(ha:cv xT.desc=false)(ho:o<s.length):
  bD P C H env (.load T x) (.int .u8 (aa s o:Int)):=by
 intro R ρ w hm hf dst t p af g;obtain⟨_,Cs,el,fz,hb,hl,_⟩:=hm.heap.holds _ (List.mem_of_getElem? hi);obtain⟨v,hv,hr⟩:=eD hl (MF (cap:=cap) ho);refine⟨v,?_,cG hr rfl⟩;have hcell:w.cell? ⟨b,o,none⟩=some v:=by simp only[World.cell?,hb];simpa using hv
 simp only[execOp,ar.1 (hf _ _ hx),Instr.loadAt,Instr.sureAddr,Sem.run_bind,Sem.run_pure,Result.andThen_ok,gJ ht ha hcell]
theorem rT {g:Nat}{cs:List AVal}(hG:IQ C.G g cs)(ht:bC P T=some xT)(ha:cv xT.desc=true)(hc:0+xT.size<=cs.length):
  bD P C H env (.load T (.global g)) (.agg ((cs.drop 0).take xT.size)):=by
 intro R ρ w hm hf dst t p af g';have hr:=ar.1 (hf (.global g) _ rfl);obtain⟨Cs,el,fz,hR,hl⟩:=hG R hm.glo;have hlen:=aO hl;simp only[List.length_take,List.length_drop,Array.length_toList] at hlen;refine⟨.agg ((Cs.toList.drop 0).take xT.size).toArray,?_,?_,rfl⟩
 ·simp only[execOp,hr,Instr.loadAt,Instr.sureAddr,Sem.run_bind,Sem.run_pure,Result.andThen_ok];by_cases hz:xT.size=0
  ·simp only[loadVar,Sem.run_bind,dE ht,ha,if_true,aR ht,loadCells,hz,loadCellsFrom,Result.andThen_ok];simp
  ·rw[nF ht ha (hm.sealed _ _ hR) (by omega)];simp only[Result.andThen_ok]
 ·have:=cZ xT.size (dm 0 hl);simp only[Value.cells,bh];rw[List.drop_zero] at this ⊢;simp only[List.drop_zero] at this ⊢;rw[List.take_take,Nat.min_eq_left (by omega)] at this;simpa using this
theorem Ng {GL:List (Nat×List AVal)}(hGL:ab C.G GL)(h:DB P GL env H T x F K):ET P C H env (.load T x) F K:=by
 unfold DB at h;split at h
 ·rename_i xT ht;split at h
  ·rename_i g;split at h
   ·rename_i cs hg;rcases rt h with h|⟨ha,hc,h⟩|⟨ha,av,hc,hav,h⟩
    ·exact .inl h
    ·exact .inr ⟨_,rT (hGL _ _ hg) ht ha hc,h⟩
    ·exact .inr ⟨_,AD (hGL _ _ hg) ht ha hc hav,h⟩
   ·exact .inl h
  ·split at h
   ·rename_i cs off hx;rcases rt h with h|⟨ha,hc,h⟩|⟨ha,av,hc,hav,h⟩
    ·exact .inl h
    ·exact .inr ⟨_,tI hx ht ha hc,h⟩
    ·exact .inr ⟨_,CI hx ht ha hc hav,h⟩
   ·rename_i i b o hx;obtain⟨s,rfl,hs⟩:=mv hx;split at h
    ·rename_i b' cs hi;obtain⟨rfl,h⟩:=h;rcases rt h with h|⟨ha,hc,h⟩|⟨ha,av,hc,hav,h⟩
     ·exact .inl h
     ·exact .inr ⟨_,eA hs (tK (by simp only[ai];exact ic) hi ht ha hc),h⟩
     ·exact .inr ⟨_,eA hs (CJ (by simp only[ai];exact ic) hi ht ha hc hav),h⟩
    ·rename_i b' s' cap hi;split at h
     ·rename_i ha;obtain⟨⟨rfl,ho⟩,h⟩:=h;exact .inr ⟨_,eA hs (CK (by simp only[ai];exact ic) hi ht ha ho),h.h (bu _ _)⟩
     ·exact .inl h
    ·rename_i v' _ sz n0 cs hi;split at h
     ·rename_i ha;obtain⟨⟨hr,ho⟩,⟨a,hc,hav,k⟩⟩:=h;exact .inr ⟨_,eA hs (CH (by simp only[ai];exact ic) hi hr ho ht ha hc hav),k⟩
     ·rename_i ha;obtain⟨⟨hr,ho,h0⟩,⟨c,hc,k⟩⟩:=h;exact .inr ⟨_,eA hs (tH (by simp only[ai];exact ic) hi hr ho h0 ht ha hc),k⟩
    ·exact .inl h
   ·exact .inl h
 ·exact .inl h
theorem yE {k:Nat}(h:kD P env T x k F K):ET P C H env (.fieldAddr T x k) F K:=by
 unfold kD at h;split at h
 ·rename_i xT ht;split at h
  ·rename_i fs hd;split at h
   ·rename_i f hf;split at h
    ·rename_i xf hxf;split at h
     ·rename_i hb;split at h
      ·rename_i cs off hx;exact .inr ⟨_,rW hx ht hd hf hxf hb,h⟩
      ·rename_i i b o hx;obtain⟨s,rfl,hs⟩:=mv hx;refine .inr ⟨_,?_,h⟩;have:=rX (P:=P) (C:=C) (H:=H) (env:=(s,.raw (.pointer (some ⟨b,o,none⟩)))::env) (x:=.tmp s) (by simp only[ai];exact ic) ht hd hf hxf hb;intro R ρ w hm hr dst t p af g;obtain⟨v,h1,h2⟩:=eA hs this R ρ w hm hr dst t p af g;exact⟨v,h1,a7.2 ⟨ar.1 h2,rfl⟩⟩
      ·exact .inl h
     ·exact .inl h
    ·exact .inl h
   ·exact .inl h
  ·exact .inl h
 ·exact .inl h
theorem Ef {a:AVal}(h:Of a F K):F\/(a.plain=true/\K (.rop a.cells 0)):=by
 unfold Of at h;split at h
 ·rw[dq] at h;exact .inr ⟨rfl,h⟩
 ·exact .inl h
 ·rename_i h1 h2;refine .inr ⟨?_,?_⟩
  ·cases a<;>first|rfl|skip
   rename_i v;cases v<;>first|rfl|(exact absurd rfl (h2 _))
  ·cases a<;>first|exact h|(exact absurd rfl (h1 _))
theorem iR {op:Op}{i:Nat}{v:Value}(hv:cU v=false)(h:bD P C H env op (.raw v)):bD P C H env op (.own i v):=by
 intro R ρ w hm hr dst t p af g;obtain⟨u,h1,h2⟩:=h R ρ w hm hr dst t p af g;have:=ar.1 h2;subst this;exact⟨_,h1,a7.2 ⟨rfl,hv⟩⟩
theorem rU {len off:Nat}{e:TypeId}{xe:TI}{cs:List AVal}{k:IntKind}{i:Int}(hx:ai env x=some (.rop cs off))(hy:ai env y=some (.int k i))(h1:bC P T=some xT)(h2:xT.desc= .array len e)(h3:bC P e=some xe)
  (hi0:0<=i) (hi:i<len):bD P C H env (.indexAddr T x y) (.rop cs (off+i.toNat*xe.size)):=by
 intro R ρ w hm hf dst t p af g;obtain⟨bl,o,e1,ho,hs⟩:=gn (hf _ _ hx);refine⟨.pointer (some ⟨bl,o+i.toNat*xe.size,none⟩),?_,gf (by omega) (by rw[Nat.add_sub_add_right];exact hs)⟩;simp only[execOp,e1,aq.1 (hf _ _ hy),Instr.indexAt,asIntOf,Sem.run_bind,Sem.run_pure,Result.andThen_ok,ap h1,h2,Instr.sureAddr];rw[if_pos (show 0<=i/\i<(len:Int) from⟨hi0,hi⟩)];simp only[Sem.run_bind,aR h3,Result.andThen_ok,Sem.run_pure,Addr.add];by_cases h0:i.toNat*xe.size=0
 ·simp[h0]
 ·simp[h0]
theorem yB {GL:List (Nat×List AVal)}(hGL:ab C.G GL)(h:gx P GL env T x y F K):ET P C H env (.indexAddr T x y) F K:=by
 unfold gx at h;split at h
 ·rename_i xT ht;split at h
  ·rename_i e hd;split at h
   ·rename_i xe he;split at h
    ·rename_i sz m f hx;split at h
     ·rename_i hs;rcases fR h with h|⟨k,i,hy,h,h'⟩
      ·exact .inl h
      ·rcases Ef h' with h'|⟨hp,h'⟩
       ·exact .inl h'
       ·exact .inr ⟨_,yb hx hy ht hd he (Nat.eq_of_beq_eq_true hs) h.1 h.2 hp,h'⟩
     ·exact .inl h
    ·rename_i i b m cap hx;obtain⟨s,rfl,hs⟩:=mv hx;split at h
     ·rename_i h1;rcases fR h with h|⟨k,j,hy,h,h'⟩
      ·exact .inl h
      ·obtain⟨j,rfl⟩:=Int.eq_ofNat_of_zero_le h.1;simp only[Int.toNat_natCast] at h';refine .inr ⟨_,iR rfl ?_,h'⟩;intro R ρ w hm hf dst t p af g;have hv:=(a7.1 (hf (.tmp s) _ hx)).1;refine⟨_,?_,ar.2 rfl⟩;have hj:j<m:=by have:=h.2;omega
       have h4:=Nat.eq_of_beq_eq_true h1;simp only[execOp,hv,aq.1 (hf _ _ hy),Instr.indexAt,asIntOf,Sem.run_bind,Sem.run_pure,Result.andThen_ok,ap ht,hd];rw[if_pos (show 0<=(j:Int)/\(j:Int)<(m:Int) from⟨by omega,by omega⟩)];simp only[Sem.run_bind,aR he,h4,Result.andThen_ok,Sem.run_pure,Addr.add,Int.toNat_natCast,Nat.mul_one];by_cases h0:j=0
       ·subst h0;simp
       ·simp[h0]
     ·rcases fR h with h|⟨k,j,hy,h,h'⟩
      ·exact .inl h
      ·obtain⟨j,rfl⟩:=Int.eq_ofNat_of_zero_le h.1;simp only[Int.toNat_natCast] at h';refine .inr ⟨_,iR rfl ?_,h'⟩;intro R ρ w hm hf dst t p af g;have hv:=(a7.1 (hf (.tmp s) _ hx)).1;refine⟨_,?_,ar.2 rfl⟩;have hj:j<m:=by have:=h.2;omega
       simp only[execOp,hv,aq.1 (hf _ _ hy),Instr.indexAt,asIntOf,Sem.run_bind,Sem.run_pure,Result.andThen_ok,ap ht,hd];rw[if_pos (show 0<=(j:Int)/\(j:Int)<(m:Int) from⟨by omega,by omega⟩)];simp only[Sem.run_bind,aR he,Result.andThen_ok,Sem.run_pure,Addr.add,Int.toNat_natCast];by_cases h0:j*xe.size=0
       ·rw[h0];simp
       ·simp[h0]
    ·exact .inl h
   ·exact .inl h
  ·rename_i len e hd;split at h
   ·rename_i xe he;split at h
    ·rename_i g;split at h
     ·rename_i cs hg;rcases fR h with h|⟨k,i,hy,h,h'⟩
      ·exact .inl h
      ·exact .inr ⟨_,qv (hGL _ _ hg) hy ht hd he h.1 h.2,h'⟩
     ·exact .inl h
    ·split at h
     ·rename_i i b o hx;obtain⟨s,rfl,hs⟩:=mv hx;rcases fR h with h|⟨k,j,hy,h,h'⟩
      ·exact .inl h
      ·refine .inr ⟨_,iR rfl (eA hs (rV (k:=k) (by simp only[ai];exact ic) ?_ ht hd he h.1 h.2)),h'⟩;cases y with
       |tmp u=>
        simp only[ai,Env.get] at hy ⊢;split
        ·rename_i hb;have:=Nat.eq_of_beq_eq_true hb;subst this;rw[hs] at hy;cases hy
        ·exact hy
       |const c=>rw[eP] at hy ⊢;exact hy
       |global g=>exact hy
       |func f=>exact hy
     ·rename_i cs off hx;rcases fR h with h|⟨k,i,hy,h,h'⟩
      ·exact .inl h
      ·exact .inr ⟨_,rU hx hy ht hd he h.1 h.2,h'⟩
     ·exact .inl h
   ·exact .inl h
  ·exact .inl h
 ·exact .inl h
theorem Kj {k:Nat}(h:GE P env T x k F K):ET P C H env (.field T x k) F K:=by
 unfold GE at h;split at h
 ·rename_i xT ht;split at h
  ·rename_i fs hd;split at h
   ·rename_i f hf;split at h
    ·rename_i xf hxf;split at h
     ·rename_i cs hx;split at h
      ·rename_i ha;rw[dq] at h;exact .inr ⟨_,AF hx ht hd hf hxf ha,h⟩
      ·rename_i ha;split at h
       ·rename_i av hc;split at h
        ·rename_i hav;exact .inr ⟨_,Md hx ht hd hf hxf ha hc hav,h⟩
        ·exact .inl h
       ·exact .inl h
     ·exact .inl h
    ·exact .inl h
   ·exact .inl h
  ·exact .inl h
 ·exact .inl h
theorem A0 (h:oo env x F K):ET P C H env (.nilCheck x) F K:=by
 unfold oo at h;split at h
 ·rename_i cs off hx;exact .inr ⟨_,tF hx,h⟩
 ·rename_i i a hx;obtain⟨s,rfl,hs⟩:=mv hx;exact .inr ⟨_,iR rfl (eA hs (tG (by simp only[ai];exact ic))),h⟩
 ·exact .inl h
theorem Ft {i b cap:Nat}{s:List UInt8}{S e:TypeId}{xS xe:TI}(hx:ai env x=some (.raw (.slice (some ⟨b,0,none⟩) s.length cap))){c':Nat}(hi:H[i]? =some (.buf b s c'))(h1:bC P S=some xS)(h2:xS.desc= .slice e)
  (h5:bC P e=some xe) (h6:xe.desc= .int .u8) (h3:bC P T=some xT) (h4:xT.desc= .string):bD P C H env (.convert S T x) (.str s):=by
 intro R ρ w hm hf dst t p af g;obtain⟨_,Cs,el,fz,hb,hl,_⟩:=hm.heap.holds _ (List.mem_of_getElem? hi);refine⟨_,?_,aI.2 rfl⟩;have hl':=cZ s.length hl;rw[JN] at hl';simp only[execOp,ar.1 (hf _ _ hx),Sem.run_bind,xB h1 h2 h5 h6 h3 h4 (xA (o:=0) hb (by simpa using hl')),Result.andThen_ok,Sem.run_pure]
theorem OC {S:TypeId}(h:OD P env H S T x F K):ET P C H env (.convert S T x) F K:=by
 unfold OD at h;split at h
 ·rename_i xS xT hS hT;split at h
  ·rename_i k m hx;split at h
   ·rename_i j hd;generalize hb:ep j=bd at h;obtain⟨lo,hi⟩:=bd;rcases h with h|h
    ·exact .inr ⟨_,CN hx hS hT hd (ii hb h.1),h.2⟩
    ·exact .inr ⟨_,AG hx hS hT hd,h⟩
   ·exact .inl h
  ·rename_i i b m cap hx;obtain⟨s,rfl,hs⟩:=mv hx;split at h
   ·rename_i e hd1 hd2;split at h
    ·rename_i xe he;split at h
     ·rename_i hu;split at h
      ·rename_i b' s' cap' hi;obtain⟨⟨rfl,rfl⟩,h⟩:=h;exact .inr ⟨_,eA hs (Ft (by simp only[ai];exact ic) hi hS hd1 he hu hT hd2),h⟩
      ·exact .inl h
     ·exact .inl h
    ·exact .inl h
   ·exact .inl h
  ·exact .inl h
 ·exact .inl h
theorem KG {l:Array (Nat×Operand)}(h:sQ P env T l.toList F K):ET P C H env (.build T l) F K:=by
 unfold sQ at h;split at h
 ·rename_i xT ht;split at h
  ·rename_i fs hd;split at h
   ·rename_i ps pl z h1 h2 h3;split at h
    ·rename_i cs h4;rw[dq] at h;have:=Mf (P:=P) (C:=C) (H:=H) (l:=l.toList) h1 ht (by simpa using hd) h2 h3 h4;exact .inr ⟨_,by simpa using this,h⟩
    ·exact .inl h
   ·exact .inl h
  ·rename_i m e hd;split at h
   ·rename_i ps xe z h1 h2 h3;split at h
    ·rename_i cs h4;rw[dq] at h;have:=AH (P:=P) (C:=C) (H:=H) (l:=l.toList) h1 ht hd h2 h3 h4;exact .inr ⟨_,by simpa using this,h⟩
    ·exact .inl h
   ·exact .inl h
  ·exact .inl h
 ·exact .inl h
theorem J6 (h:sB P env T x F K):ET P C H env (.makeInterface T x) F K:=by
 unfold sB at h;split at h
 ·rename_i xT v ht hx;split at h
  ·rename_i hd;exact .inr ⟨_,AB hx ht hd,h⟩
  ·exact .inl h
 ·exact .inl h
theorem G7 {S:TypeId}{ok:Bool}(h:BK P env x S T ok F K):ET P C H env (.typeAssert x S T ok) F K:=by
 unfold BK at h;split at h
 ·rename_i xT ht;split at h
  ·rename_i ty v hx;split at h
   ·rename_i hd hb;exact .inr ⟨_,ye hx ht hd (Nat.eq_of_beq_eq_true hb),h⟩
   ·rename_i hd hb;split at h
    ·rename_i z hz;exact .inr ⟨_,vI hx ht hd hb hz,h⟩
    ·exact .inl h
   ·rcases h with⟨h,k⟩|⟨h,k⟩
    ·refine .inr ⟨_,?_,k⟩;intro R ρ w hm hf dst t p af g;obtain⟨⟨u,e,h3,h4⟩,_⟩:=hf _ _ hx;have hr:=hf _ _ hx;have e':ρ x= .iface ty u:=by
      obtain⟨u',e',h3',h4'⟩:=bA hr rfl;simp only[List.cons.injEq,and_true] at e';rw[e'] at e;simp[Value.cells] at e;rw[e',e]
     rw[e'] at hr;refine⟨.tuple #[.iface ty u,.bool true],?_,⟨⟨_,rfl,_,_,rfl,⟨hr.1,hr.2⟩,_,_,rfl,⟨rfl,rfl⟩,rfl⟩,rfl⟩⟩;simp only[execOp,e',Sem.run_bind,h u w,Result.andThen_ok,Sem.run_pure]
    ·refine .inr ⟨_,?_,k⟩;intro R ρ w hm hf dst t p af g;obtain⟨u',e',h3',h4'⟩:=bA (hf _ _ hx) rfl;simp only[List.cons.injEq,and_true] at e';refine⟨.tuple #[.nilIface,.bool false],?_,⟨⟨_,rfl,_,_,rfl,⟨rfl,rfl⟩,_,_,rfl,⟨rfl,rfl⟩,rfl⟩,rfl⟩⟩;simp only[execOp,e',Sem.run_bind,h u' w,Result.andThen_ok,Sem.run_pure]
  ·rename_i hx;split at h
   ·rename_i z hz;exact .inr ⟨_,yd hx ht hz,h⟩
   ·exact .inl h
  ·exact .inl h
 ·exact .inl h
theorem ul {GL:List (Nat×List AVal)}(hGL:ab C.G GL){op:Op}(h:B8 P GL env H op F K):ET P C H env op F K:=by
 unfold B8 at h;split at h
 ·split at h
  ·rename_i av hx;exact .inr ⟨_,Qc hx,h⟩
  ·exact .inl h
 ·split at h
  ·rename_i av hx;exact .inr ⟨_,Jn hx,h⟩
  ·exact .inl h
 ·split at h
  ·rename_i b a a' hc hx hy;refine .inr ⟨_,Qb hc hx hy,?_⟩;cases b
   ·exact h.2 rfl
   ·exact h.1 rfl
  ·exact .inl h
 ·exact RN h
 ·split at h
  ·rename_i b hx;exact .inr ⟨_,Tt hx,h⟩
  ·exact .inl h
 ·split at h
  ·rename_i k m hx;generalize hb:ep k=bd at h;obtain⟨lo,hi⟩:=bd;exact .inr ⟨_,Tu hx (ii hb h.1),h.2⟩
  ·exact .inl h
 ·exact KC h
 ·split at h
  ·rename_i cs hx;split at h
   ·rename_i av hi;exact .inr ⟨_,Fw hx hi,h⟩
   ·exact .inl h
  ·exact .inl h
 ·exact J5 h
 ·exact Jh h
 ·exact Ng hGL h
 ·exact yE h
 ·exact Kj h
 ·exact yB hGL h
 ·exact A0 h
 ·exact OC h
 ·exact KG h
 ·exact J6 h
 ·split at h
  ·rename_i a1 a2 h1 h2;have:=CF (P:=P) (C:=C) (H:=H) (fn:= ‹Fn›) h1 h2;exact .inr ⟨_,by simpa using this,h⟩
  ·exact .inl h
 ·exact G7 h
 ·exact .inl h
end
end
section
open Go
def zz:AVal->AVal->Option Bool
 |.str s,.str t=>some (aS s t)
 |.int k m,.int j q=>match Nat.beq (Nl k) (Nl j) with
  |true=>some (cm m q)
  |false=>none
 |.bool true,.bool t=>some t
 |.bool false,.bool t=>some (!t)
 |_,_=>none
def kZ:TypeDesc->AVal->Bool
 |.string,.str _=>true
 |.int _,.int _ _=>true
 |.bool,.bool _=>true
 |_,_=>false
noncomputable def D6 (k:AVal)(F:Prop)(hit:Nat->AVal->Prop)(miss:Prop)(l:List (AVal×AVal)):Nat->Prop:=
 List.rec (motive:=λ_=>Nat->Prop) (λ_=>miss) (λa _ ih i=>match zz k a.1 with
  |some b=>Sc b (hit i a.2) (ih (i+1))
  |none=>F) l
noncomputable def H5 (k:AVal)(F:Prop)(hit:Nat->AVal->Prop)(miss:Prop)(l:List (AVal×AVal)):Prop:=
 match k with
 |.bool b=>Sc b (D6 (.bool true) F hit miss l 0) (D6 (.bool false) F hit miss l 0)
 |k=>D6 k F hit miss l 0
def jy (k:AVal):List (AVal×AVal)->Nat->Option (Option (Nat×AVal))
 |[],_=>some none
 |a::l,i=>match zz k a.1 with
  |some true=>some (some (i,a.2))
  |some false=>jy k l (i+1)
  |none=>none
def zeroV (z:Option Value):Option AVal:=
 match z with
 |some (.agg cs)=>match bF (some (.agg cs)) with
  |some l=>some (.agg l)
  |none=>none
 |some v=>some (HR v)
 |none=>none
theorem IR {R:Seal}{z:Option Value}{a:AVal}(h:zeroV z=some a):∃v,z=some v/\bE R a v:=by
 unfold zeroV at h;split at h
 ·rename_i cs;split at h
  ·rename_i l hl;cases h;obtain⟨v,hv,hr⟩:=de (R:=R) hl;cases hv;exact⟨_,rfl,hr,rfl⟩
  ·cases h
 ·cases h;exact⟨_,rfl,ur R _⟩
 ·cases h
theorem rf {k:AVal}{F:Prop}{hit:Nat->AVal->Prop}{miss:Prop}:∀(l:List (AVal×AVal)) (i:Nat),D6 k F hit miss l i->F\/(∃j a,jy k l i=some (some (j,a))/\hit j a)\/(jy k l i=some none/\miss)
 |[],i,h=>.inr (.inr ⟨rfl,h⟩)
 |a::l,i,h=>by
  have h:(match zz k a.1 with
   |some b=>Sc b (hit i a.2) (D6 k F hit miss l (i+1))
   |none=>F):=h
  have ih:=rf (k:=k) (F:=F) (hit:=hit) (miss:=miss) l (i+1);split at h
  ·rename_i b hb;cases b with
   |true=>exact .inr (.inl ⟨i,a.2,by simp only[jy,hb],h.1 rfl⟩)
   |false=>
    rcases ih (h.2 rfl) with q|⟨j,v,q,w⟩|⟨q,w⟩
    ·exact .inl q
    ·exact .inr (.inl ⟨j,v,by simp only[jy,hb];exact q,w⟩)
    ·exact .inr (.inr ⟨by simp only[jy,hb];exact q,w⟩)
  ·exact .inl h
theorem Dz {k:AVal}{F:Prop}{hit:Nat->AVal->Prop}{miss:Prop}{l:List (AVal×AVal)}(h:H5 k F hit miss l):F\/(∃j a,jy k l 0=some (some (j,a))/\hit j a)\/(jy k l 0=some none/\miss):=by
 unfold H5 at h;split at h
 ·rename_i b;cases b with
  |true=>exact rf l 0 (h.1 rfl)
  |false=>exact rf l 0 (h.2 rfl)
 ·exact rf l 0 h
theorem CC (s t:List UInt8):((⟨s.toArray⟩:ByteArray)==⟨t.toArray⟩)=aS s t:=by
 show((s.toArray:Array UInt8)==t.toArray)=aS s t;unfold aS;rw[Bool.eq_iff_iff,beq_iff_eq,beq_iff_eq];exact⟨λh=>by simpa using congrArg Array.toList h,λh=>by rw[h]⟩
theorem DF {kd:TypeDesc}{s:List UInt8}(h:kZ kd (.str s)=true):kd= .string:=by
 cases kd<;>first|rfl|cases h
theorem DG {kd:TypeDesc}{k:IntKind}{m:Int}(h:kZ kd (.int k m)=true):∃j,kd= .int j:=by
 cases kd<;>first|exact⟨_,rfl⟩|cases h
theorem sr {kd:TypeDesc}{b:Bool}(h:kZ kd (.bool b)=true):kd= .bool:=by
 cases kd<;>first|rfl|cases h
theorem tf {kd:TypeDesc}{k:AVal}(h:kZ kd k=true):(∃s,k= .str s/\kd= .string)\/(∃i m j,k= .int i m/\kd= .int j)\/(∃b,k= .bool b/\kd= .bool):=by
 cases k with
 |str s=>exact .inl ⟨s,rfl,DF h⟩
 |int i m=>obtain⟨j,e⟩:=DG h;exact .inr (.inl ⟨i,m,j,rfl,e⟩)
 |bool b=>exact .inr (.inr ⟨b,rfl,sr h⟩)
 |_=>exfalso;revert h;cases kd<;>exact λh=>by cases h
theorem Fs {R:Seal}{kd:TypeDesc}{k a:AVal}{kv ev:Value}{b:Bool}(hk:kZ kd k=true)(h1:bE R k kv)(h2:bE R a ev)(h:zz k a=some b):Instr.sameNow kd kv ev=some b/\(b=true->ev=kv):=by
 unfold zz at h;split at h
 ·cases h;obtain rfl:=aI.1 h1;obtain rfl:=aI.1 h2;obtain rfl:=DF hk;refine⟨by simp only[Instr.sameNow,CC],λe=> ?_⟩;rw[bx.1 e]
 ·rename_i k m j q;split at h
  ·rename_i hkk;cases h;obtain rfl:=wu hkk;obtain rfl:=aq.1 h1;obtain rfl:=aq.1 h2;obtain⟨j,rfl⟩:=DG hk;refine⟨by unfold cm;simp only[Instr.sameNow,if_true];rfl,λe=> ?_⟩;rw[bP.1 e]
  ·cases h
 ·cases h;obtain rfl:=aW.1 h1;obtain rfl:=aW.1 h2;obtain rfl:=sr hk;refine⟨by cases b<;>rfl,λe=>by rw[e]⟩
 ·rename_i t;cases h;obtain rfl:=aW.1 h1;obtain rfl:=aW.1 h2;obtain rfl:=sr hk;refine⟨by cases t<;>rfl,λe=>by cases t<;>first|rfl|cases e⟩
 ·cases h
theorem kC {R:Seal}{kd:TypeDesc}{k:AVal}{kv:Value}(hk:kZ kd k=true)(h1:bE R k kv):∀{l:List (AVal×AVal)} {E:List MapEntry} (i:Nat),lv R l E->
  (jy k l i=some none->Instr.findNow kd kv E i=some none)/\
  ∀j a,jy k l i=some (some (j,a))->∃p e,i<=j/\l[j-i]? =some p/\p.2=a/\E[j-i]? =some e/\e.key=kv/\bE R a e.val/\Instr.findNow kd kv E i=some (some (j,e.val))
 |[],E,i,hm=>by
  have hm:E=[]:=hm;subst hm;refine⟨λ_=>rfl,λj a h=> ?_⟩;simp[jy] at h
 |q::l,E,i,hm=>by
  obtain⟨e,t,rfl,⟨r1,r2⟩,hm⟩:=hm;have ih:=kC hk h1 (i+1) hm;simp only[jy];cases hb:zz k q.1 with
  |none=>refine⟨λh=> ?_,λj a h=> ?_⟩<;>simp at h
  |some b=>
   obtain⟨hs,hv⟩:=Fs hk h1 r1 hb;cases b with
   |true=>
    refine⟨λh=> ?_,λj a h=> ?_⟩
    ·simp at h
    ·simp only[Option.some.injEq,Prod.mk.injEq] at h;obtain⟨rfl,rfl⟩:=h;exact⟨q,e,Nat.le_refl _,by simp,rfl,by simp,hv rfl,r2,by simp only[Instr.findNow,hs]⟩
   |false=>
    refine⟨λh=>by simp only[Instr.findNow,hs];exact ih.1 h,λj a h=> ?_⟩;obtain⟨p,e',hle,h2,h3,h4,h5,h6,h7⟩:=ih.2 j a h;have ej:j-i=(j-(i+1))+1:=by omega
    exact⟨p,e',by omega,by rw[ej,List.getElem?_cons_succ];exact h2,h3,by rw[ej,List.getElem?_cons_succ];exact h4,h5,h6,by simp only[Instr.findNow,hs];exact h7⟩
theorem LY (s:List UInt8):((⟨s.toArray⟩:ByteArray)==⟨s.toArray⟩)=true:=(CC s s).trans (bx.2 rfl)
theorem x8 {R:Seal}{kd:TypeDesc}{k:AVal}{kv:Value}(hk:kZ kd k=true)(h1:bE R k kv):Instr.sameBits 10000 kv kv=true:=by
 rcases tf hk with⟨s,rfl,_⟩|⟨i,m,j,rfl,_⟩|⟨b,rfl,_⟩
 ·obtain rfl:=aI.1 h1;simp only[Instr.sameBits,LY]
 ·obtain rfl:=aq.1 h1;simp[Instr.sameBits]
 ·obtain rfl:=aW.1 h1;simp[Instr.sameBits]
section
variable {P:Program} [Tab P] {C:Ctx} {n:Nat} {env:Env} {H:Heap} {Q:aQ->Env->Heap->Prop} {ops:Array Oper} {rest:List Oper}
variable {d:Nat} {t:TypeId} {p:String} {af:Array Edge} {g:Option (Nat×Bool)} {b:Bool}
variable {x y z:Operand} {T kt et:TypeId} {xT xk xe:TI}
theorem GR {R:Seal}{k:AVal}{kv:Value}(em:Bool)(h:bC P kt=some xk)(hk:kZ xk.desc k=true)(h1:bE R k kv)(w:World)(n:Nat):(Instr.checkKey em (n+1) kt kv).run P w= .ok () w:=by
 rcases tf hk with⟨s,rfl,hd⟩|⟨i,m,j,rfl,hd⟩|⟨b,rfl,hd⟩
 ·obtain rfl:=aI.1 h1;simp only[Instr.checkKey,Sem.run_bind,ap h,hd,Result.andThen_ok,Sem.run_pure]
 ·obtain rfl:=aq.1 h1;simp only[Instr.checkKey,Sem.run_bind,ap h,hd,Result.andThen_ok,Sem.run_pure]
 ·obtain rfl:=aW.1 h1;simp only[Instr.checkKey,Sem.run_bind,ap h,hd,Result.andThen_ok,Sem.run_pure]
theorem jS {R:Seal}{k:AVal}{kv:Value}(em:Bool)(h:bC P kt=some xk)(hk:kZ xk.desc k=true)(h1:bE R k kv)(w:World):(Instr.checkKey em 10000 kt kv).run P w= .ok () w:=GR em h hk h1 w 9999
theorem uv {R:Seal}{w:World}{i bl:Nat}{es:List (AVal×AVal)}(hm:MS C R H w)(hi:H[i]? =some (.mp bl es)):∃E cl,w.heap[bl]? =some (.map E cl)/\lv R es E.toList:=hm.heap.holds _ (List.mem_of_getElem? hi)
theorem CG {i0 i bl j:Nat}{es:List (AVal×AVal)}{k a:AVal}(ok:Bool)(hx:ai env x=some (.own i0 (.map (some bl))))(hy:ai env y=some k)(hi:H[i]? =some (.mp bl es))(h1:bC P T=some xT)(h2:xT.desc= .map kt et)(h3:bC P kt=some xk)(h4:kZ xk.desc k=true)(h5:jy k es 0=some (some (j,a))):
  bD P C H env (.lookup T x y ok) (match ok with|true=>.tuple [a,.bool true]|false=>a):=by
 intro R ρ w hm hf dst t p af g;obtain⟨E,cl,hb,hl⟩:=uv hm hi;have hky:=hf _ _ hy;obtain⟨q,e,_,_,_,_,_,hr,hn⟩:=(kC h4 hky 0 hl).2 j a h5;refine⟨if ok then .tuple #[e.val,.bool true] else e.val,?_,?_⟩
 ·simp only[execOp,(a7.1 (hf _ _ hx)).1,Instr.lookup,Sem.run_bind,ap h1,h2,Result.andThen_ok,fm hb (by simp),Sem.run_pure,jS _ h3 h4 hky,Instr.findKey,ap h3,hn]
 ·cases ok
  ·exact hr
  ·exact⟨⟨_,rfl,_,_,rfl,hr,_,_,rfl,⟨rfl,rfl⟩,rfl⟩,rfl⟩
theorem AC {i0 i bl:Nat}{es:List (AVal×AVal)}{k a:AVal}(ok:Bool)(hx:ai env x=some (.own i0 (.map (some bl))))(hy:ai env y=some k)(hi:H[i]? =some (.mp bl es))(h1:bC P T=some xT)(h2:xT.desc= .map kt et)(h3:bC P kt=some xk)(h4:kZ xk.desc k=true)(h5:jy k es 0=some none)(h6:bC P et=some xe)(h7:zeroV xe.zero=some a):
  bD P C H env (.lookup T x y ok) (match ok with|true=>.tuple [a,.bool false]|false=>a):=by
 intro R ρ w hm hf dst t p af g;obtain⟨E,cl,hb,hl⟩:=uv hm hi;have hky:=hf _ _ hy;have hn:=(kC h4 hky 0 hl).1 h5;obtain⟨v,hv,hr⟩:=IR (R:=R) h7;refine⟨if ok then .tuple #[v,.bool false] else v,?_,?_⟩
 ·simp only[execOp,(a7.1 (hf _ _ hx)).1,Instr.lookup,Sem.run_bind,ap h1,h2,Result.andThen_ok,fm hb (by simp),Sem.run_pure,jS _ h3 h4 hky,Instr.findKey,ap h3,hn,dA h6 hv]
 ·cases ok
  ·exact hr
  ·exact⟨⟨_,rfl,_,_,rfl,hr,_,_,rfl,⟨rfl,rfl⟩,rfl⟩,rfl⟩
theorem ta {R:Seal}{a:AVal×AVal}{e:MapEntry}(h1:bE R a.1 e.key)(h2:bE R a.2 e.val):∀{l:List (AVal×AVal)} {E:List MapEntry},lv R l E->lv R (l++[a]) (E++[e])
 |[],E,h=>by
  have h:E=[]:=h;subst h;exact⟨e,[],rfl,⟨h1,h2⟩,rfl⟩
 |q::l,E,h=>by
  obtain⟨e',t,rfl,r,h⟩:=h;exact⟨e',_,rfl,r,ta h1 h2 h⟩
theorem wi {R:Seal}{a:AVal×AVal}{e:MapEntry}(h1:bE R a.1 e.key)(h2:bE R a.2 e.val):∀{l:List (AVal×AVal)} {E:List MapEntry} (i:Nat),lv R l E->lv R (l.set i a) (E.set i e)
 |[],E,i,h=>by
  have h:E=[]:=h;subst h;exact rfl
 |q::l,E,0,h=>by
  obtain⟨e',t,rfl,r,h⟩:=h;exact⟨e,_,rfl,⟨h1,h2⟩,h⟩
 |q::l,E,i+1,h=>by
  obtain⟨e',t,rfl,r,h⟩:=h;exact⟨e',_,rfl,r,wi h1 h2 i h⟩
theorem vD {w:World}{bl:Nat}{o o':Obj}(h:w.heap[bl]? =some o):mR w bl o' {w with heap:=w.heap.setIfInBounds bl o'}:=by
 have hlt:=ov h;exact⟨rfl,rfl,rfl,by simp,by simp[hlt],λk hk=>by simp only[];rw[Array.getElem?_setIfInBounds_ne (Ne.symm hk)]⟩
theorem o0 {w:World}{bl cl:Nat}{E:Array MapEntry}{o':Obj}(h:w.heap[bl]? =some (.map E cl)):(setObj bl o').run P w= .ok () {w with heap:=w.heap.setIfInBounds bl o'}:=by
 simp only[setObj,Sem.run,h]
theorem KO {T:TypeId}(hg:a8 ops env g=some (b,b))(hdn:Nat.ble (d+1) n=true)
  (h:∀bl:Nat,aw P C n ops rest ((d,.raw (.map (some bl)))::env) (.mp bl []::H) Q):
  aw P C n ops ({dst:=some d,op:=.makeMap T none,type:=t,pos:=p,after:=af,guard:=g}::rest) env H Q:=by
 refine gt (av:=λbl:Nat=>.raw (.map (some bl))) (H':=λbl=>.mp bl []::H) hg rfl hdn (λR ρ w hm hf=> ?_) h
 refine⟨w.heap.size,_,grow w (.map #[] 0),R,?_,Seal.le_refl R,ar.2 rfl,hm.alloc _ _ rfl ⟨_,_,fS w _,rfl⟩⟩
 rfl
theorem Ah {op:Op}(hop:op= .mapUpdate T x y z\/op= .insert T x y z){i0 i bl:Nat}{es:List (AVal×AVal)}{k a:AVal}(hg:a8 ops env g=some (b,b))(hx:ai env x=some (.own i0 (.map (some bl))))(hy:ai env y=some k)(hz:ai env z=some a)(hi:H[i]? =some (.mp bl es))(h1:bC P T=some xT)(h2:xT.desc= .map kt et)(h3:bC P kt=some xk)(h4:kZ xk.desc k=true)
  (h:(∃j v,jy k es 0=some (some (j,v))/\aw P C n ops rest env (H.set i (.mp bl (es.set j (k,a)))) Q)\/(jy k es 0=some none/\aw P C n ops rest env (H.set i (.mp bl (es++[(k,a)]))) Q)):
  aw P C n ops ({dst:=none,op:=op,type:=t,pos:=p,after:=af,guard:=g}::rest) env H Q:=by
 have he:∀ρ:Operand->Value,execOp ρ {dst:=none,op:=op,type:=t,pos:=p,after:=af,guard:=g}=execOp ρ {dst:=none,op:=.mapUpdate T x y z,type:=t,pos:=p,after:=af,guard:=g}:=by
  intro ρ;rcases hop with rfl|rfl<;>rfl
 rcases h with⟨j,v,hj,h⟩|⟨hj,h⟩
 ·refine mO hg rfl (λR ρ w hm hf=> ?_) h;obtain⟨E,cl,hb,hl⟩:=uv hm hi;have hky:=hf _ _ hy;obtain⟨q,e,_,_,_,h5,h6,hr,hn⟩:=(kC h4 hky 0 hl).2 j v hj;have h5:E[j]? =some e:=by simpa using h5
  have hlt:j<E.size:=by
   rcases Nat.lt_or_ge j E.size with h|h
   ·exact h
   ·rw[Array.getElem?_eq_none h] at h5;cases h5
  have ho:=vD (o':=.map (E.modify j λe=>{e with key:=ρ y,val:=ρ z}) cl) hb;refine⟨_,R,?_,Seal.le_refl R,hm.write hi rfl ho rfl ⟨_,_,ho.at_,?_⟩⟩
  ·rw[he];simp only[execOp,(a7.1 (hf _ _ hx)).1,Instr.mapUpdate,Sem.run_bind,ap h1,h2,Result.andThen_ok,fm hb (by simp),Sem.run_pure,jS _ h3 h4 hky,Instr.findKey,ap h3,hn,h5,Option.map_some,Option.getD_some,h6,Instr.keyThatStays,x8 h4 hky,if_true,o0 hb]
  ·have e1:(E.modify j λe=>{e with key:=ρ y,val:=ρ z}).toList=E.toList.set j {key:=ρ y,val:=ρ z,born:=e.born}:=by
    rw[Array.toList_modify,List.modify_eq_set];have:E.toList[j]? =some e:=by simpa using h5
    rw[this];rfl
   rw[e1];exact wi (a:=(k,a)) hky (hf _ _ hz) j hl
 ·refine mO hg rfl (λR ρ w hm hf=> ?_) h;obtain⟨E,cl,hb,hl⟩:=uv hm hi;have hky:=hf _ _ hy;have hn:=(kC h4 hky 0 hl).1 hj;have ho:=vD (o':=.map (E.push {key:=ρ y,val:=ρ z,born:=cl}) (cl+1)) hb;refine⟨_,R,?_,Seal.le_refl R,hm.write hi rfl ho rfl ⟨_,_,ho.at_,?_⟩⟩
  ·rw[he];simp only[execOp,(a7.1 (hf _ _ hx)).1,Instr.mapUpdate,Sem.run_bind,ap h1,h2,Result.andThen_ok,fm hb (by simp),Sem.run_pure,jS _ h3 h4 hky,Instr.findKey,ap h3,hn,o0 hb]
  ·rw[Array.toList_push];exact ta (a:=(k,a)) hky (hf _ _ hz) hl
end
end
section
open Go
structure Nx (pos:Nat) (s:List UInt8) (a b:Prop):Prop where
 more:pos<s.length->a
 done:s.length<=pos->b
theorem bZ {pos:Nat}{s:List UInt8}{a b:Prop}(h:pos<s.length->a)(k:s.length<=pos->b):Nx pos s a b:=⟨h,k⟩
mutual
def lB:AVal->AVal
 |.own _ v=>.raw v
 |.tuple cs=>.tuple (iE cs)
 |.iface t v=>.iface t (lB v)
 |.func f a b=>.func f (iE a) (iE b)
 |a=>a
def iE:List AVal->List AVal
 |[]=>[]
 |c::cs=>lB c::iE cs
end
mutual
theorem rM {R:Seal}:∀(a:AVal) (v:Value),bE R a v->bE R (lB a) v
 |.own i x,v,h=>by simp only[lB];exact ar.2 (a7.1 h).1
 |.tuple cs,v,⟨⟨ws,e,h⟩,h2⟩=>by simp only[lB];exact⟨⟨ws,e,iD cs _ h⟩,h2⟩
 |.iface t a,v,⟨⟨w,e,h,k⟩,h2⟩=>by
  simp only[lB];have:=rM a w ⟨h,k⟩;exact⟨⟨w,e,this.1,this.2⟩,h2⟩
 |.func f a b,v,⟨⟨x,y,e,h,k⟩,h2⟩=>by simp only[lB];exact⟨⟨x,y,e,iD a _ h,iD b _ k⟩,h2⟩
 |.bool _,_,h=>h
 |.int _ _,_,h=>h
 |.str _,_,h=>h
 |.raw _,_,h=>h
 |.list _ _ _,_,h=>h
 |.rop _ _,_,h=>h
 |.agg _,_,h=>h
theorem iD {R:Seal}:∀(a:List AVal) (vs:List Value),dv R a vs->dv R (iE a) vs
 |[],_,h=>h
 |c::cs,_,⟨v,t,e,⟨h1,h2⟩,k⟩=>by
  have:=rM c v ⟨h1,h2⟩;exact⟨v,t,e,⟨this.1,this.2⟩,iD cs t k⟩
end
inductive Iv (P:Program) (G:Glo) (ty:TypeId) (a:AVal) (name:String) (avs:List AVal) (H:Heap) (K:AVal->Heap->Prop) (Kp:AVal->Heap->Prop):Prop
 |mk (f:FuncId) (r:AVal) (hm:∀R v,bE R a v->∀w,∃u,(Go.method (P.types.size+Made.depth) ty v name).run P w= .ok (f,u) w/\bE R r u) (k:Cx P G f (r::avs) H K Kp)
def vm (sz:Nat)(f:Nat->AVal):Nat->Bool
 |0=>true
 |m+1=>((f m).plain&&Nat.beq (f m).cells.length sz&&jA (f m).cells)&&vm sz f m
theorem lF {sz:Nat}{f:Nat->AVal}:∀{m:Nat},vm sz f m=true->∀i,i<m->(f i).plain=true/\(f i).cells.length=sz/\jA (f i).cells=true
 |0,_,i,h=>absurd h (Nat.not_lt_zero _)
 |m+1,h,i,hi=>by
  simp only[vm,Bool.and_eq_true] at h;by_cases e:i=m
  ·subst e;exact⟨h.1.1.1,Nat.eq_of_beq_eq_true h.1.1.2,h.1.2⟩
  ·exact lF h.2 i (by omega)
def aC (sz m:Nat)(f:Nat->AVal):Prop:=∀i,i<m->(f i).plain=true/\(f i).cells.length=sz/\jA (f i).cells=true
def gX (m:Nat)(f:Nat->AVal):List AVal:=(List.range m).flatMap λi=>(f i).cells
section
variable (P:Program) [Tab P] (C:Ctx) (n:Nat) (G:Glo) (GL:List (Nat×List AVal))
def cellsOf (a:AVal)(F:Prop)(K:List AVal->Prop):Prop:=
 match a with
 |.agg cs=>ju cs K
 |.raw (.agg _)=>F
 |a=>K [a]
def Aq (env:Env)(H:Heap)(T:TypeId)(x y:Operand)(F:Prop)(K:Heap->Prop):Prop:=
 match bC P T with
 |some xT=>match ai env x,ai env y with
  |some (.own i (.pointer (some ⟨b,o,none⟩))),some a=>match H[i]? with
   |some (.cells b' eT cs)=>cellsOf a F λac=>match Nat.beq ac.length xT.size,Nat.ble (o+xT.size) cs.length,jA ac with
    |true,true,true=>Sp (b'=b) (ju (cs.take o++ac++cs.drop (o+xT.size)) λc=>dP (H.set i (.cells b eT c)) K)
    |_,_,_=>F
   |some (.buf b' s cap)=>match a,Nat.beq xT.size 1 with
    |.int .u8 m,true=>Sp (b'=b/\o<s.length/\0<=m/\m<=255) (dP (H.set i (.buf b (s.set o (UInt8.ofNat m.toNat)) cap)) K)
    |_,_=>F
   |some (.row v' eT sz n cs)=>cellsOf a F λac=>match Nat.beq ac.length xT.size,jA ac with
    |true,true=>match Nat.beq xT.size 1 with
     |true=>Sp (eW v' b n/\o+1<=n*sz/\0<n) (dP (H.set i (.row v' eT sz n (cs.take o++ac++cs.drop (o+1)))) K)
     |false=>Sp (eW v' b n/\o+xT.size<=n*sz/\0<n) (dP (H.set i (.row v' eT sz n (cs.take o++ac++cs.drop (o+xT.size)))) K)
    |_,_=>F
   |_=>F
  |_,_=>F
 |none=>F
def S0:Option TypeId->TypeId->Bool
 |none,_=>true
 |some t,e=>Nat.beq e t
theorem Hi {eT:Option TypeId}{e:TypeId}(h:S0 eT e=true):∀t,eT=some t->e=t:=by
 rintro t rfl
 exact Nat.eq_of_beq_eq_true h
def BM (env:Env)(H:Heap)(T tx:TypeId)(x y:Operand)(F:Prop)(K:AVal->Heap->Prop):Prop:=
 match bC P T,bC P tx with
 |some xT,some xx=>match xT.desc,xx.desc with
  |.slice e,.slice _=>match bC P e with
   |some xe=>match bF xe.zero,Nat.ble xe.bytes 1024,Nat.ble 1 xe.size with
    |some z,true,true=>match Nat.beq z.length xe.size,ai env y with
     |true,some (.list sz m f)=>match Nat.beq xe.size sz with
      |true=>match ai env x with
       |some (.own i v)=>match H[i]? with
        |some (.row v' eT sz' n0 cs)=>match S0 eT e with
         |true=>Sp (v'=v/\sz'=sz/\n0+m<=137438953472)
          (Ch (Sp (vm sz f m=true) (As (n0+m) λu=>dP (H.set i (.row u eT sz (n0+m) (cs++gX m f))) λH'=>K (.own i u) H'))
           (Sp (aC sz m f) (As (n0+m) λu=>dP (H.set i (.row u eT sz (n0+m) (cs++gX m f))) λH'=>K (.own i u) H')))
         |false=>F
        |_=>F
       |some (.raw (.slice none 0 0))=>Sp (m<=137438953472)
          (Ch (Sp (vm sz f m=true) (As m λu=>dP (H++[.row u none sz m (gX m f)]) λH'=>K (.own H.length u) H'))
           (Sp (aC sz m f) (As m λu=>dP (H++[.row u none sz m (gX m f)]) λH'=>K (.own H.length u) H')))
       |_=>F
      |false=>F
     |_,_=>F
    |_,_,_=>F
   |none=>F
  |_,_=>F
 |_,_=>F
def OP (env:Env)(H:Heap)(S T:TypeId)(s:List UInt8)(F:Prop)(K:AVal->Heap->Prop):Prop:=
 match bC P S,bC P T with
 |some xS,some xT=>match xS.desc,xT.desc with
  |.string,.slice e=>match bC P e with
   |some xe=>match xe.desc with
    |.int .u8=>Ac (λcap=>s.length<=cap) λbl cap=>dP (H++[.buf bl s cap]) λH'=>K (.own H.length (.slice (some ⟨bl,0,none⟩) s.length cap)) H'
    |_=>F
   |none=>F
  |.string,.string=>K (.str s) H
  |_,_=>F
 |_,_=>F
def IK (env:Env)(H:Heap)(T:TypeId)(m:Nat)(l:List (Nat×Operand))(F:Prop)(K:AVal->Heap->Prop):Prop:=
 match bC P T,gZ env l with
 |some xT,some ps=>match xT.desc with
  |.slice e=>match bC P e with
   |some xe=>match bF xe.zero with
    |some z=>match Nat.beq z.length xe.size,jM 0 ps,eG xe.size ps,Nat.beq ps.length m,Nat.ble (m*xe.size) 16777216 with
     |true,true,true,true,true=>Bo (K (.list xe.size m (bq ps)) H) (As m λv=>ju (dZ ps) λcs=>dP (H++[.row v none xe.size m cs]) λH'=>K (.own H.length v) H')
     |_,_,_,_,_=>F
    |none=>F
   |none=>F
  |_=>F
 |_,_=>F
def SL (env:Env)(H:Heap)(fv:Operand)(args:List Operand)(F:Prop)(Kp:AVal->Heap->Prop)(K:AVal->Heap->Prop):Prop:=
 match ai env fv,jm env args with
 |some (.func (.func f) l1 l2),some avs=>ju (iE (l1++(avs++l2))) λavs=>Cx P G f avs H K Kp
 |_,_=>F
noncomputable def oq (env:Env)(H:Heap)(T:TypeId)(x y z:Operand)(F:Prop)(K:Heap->Prop):Prop:=
 match bC P T,ai env x,ai env y,ai env z with
 |some xT,some (.own i (.map (some b))),some k,some a=>match xT.desc,H[i]? with
  |.map kt et,some (.mp b' es)=>match bC P kt with
   |some xk=>match kZ xk.desc k with
    |true=>Sp (b'=b) (H5 k F (λj _=>dP (H.set i (.mp b (es.set j (k,a)))) K) (dP (H.set i (.mp b (es++[(k,a)]))) K) es)
    |_=>F
   |_=>F
  |_,_=>F
 |_,_,_,_=>F
noncomputable def QI (env:Env)(H:Heap)(op:Op)(F:Prop)(Kp:AVal->Heap->Prop)(K:AVal->Heap->Prop):Prop:=
 match op with
 |.alloc T=>match bC P T with
  |some xT=>match bF xT.zero with
   |some cs=>Ab λbl=>ju cs λcs=>dP (H++[.cells bl (some T) cs]) λH'=>K (.own H.length (.pointer (some ⟨bl,0,none⟩))) H'
   |none=>F
  |none=>F
 |.box T x=>match ai env x with
  |some a=>cellsOf a F λcs=>Bo (K (.rop cs 0) H) (Ab λbl=>dP (H++[.cells bl (some T) cs]) λH'=>K (.own H.length (.pointer (some ⟨bl,0,none⟩))) H')
  |none=>F
 |.call ⟨.builtin .append,args,ts⟩=>match args.toList,ts.toList with
  |[x,y],[T,tx]=>BM P env H T tx x y F K
  |_,_=>F
 |.call ⟨.invoke recv name,args,_⟩=>match ai env recv,jm env args.toList with
  |some (.iface ty a),some avs=>Iv P G ty (lB a) name (iE avs) H K Kp
  |_,_=>F
 |.call ⟨.value fv,args,_⟩=>SL P G env H fv args.toList F Kp K
 |.convert S T x=>match ai env x with
  |some (.str s)=>OP P env H S T s F K
  |_=>B8 P GL env H (.convert S T x) F λav=>K av H
 |.buildSlice T m l=>IK P env H T m l.toList F K
 |.range T x=>match bC P T,ai env x with
  |some xT,some (.str s)=>match xT.desc with
   |.string=>Ab λbl=>dP (H++[.iter bl s 0]) λH'=>K (.own H.length (.pointer (some ⟨bl,0,none⟩))) H'
   |_=>F
  |_,_=>F
 |.next x true=>match ai env x with
  |some (.own i (.pointer (some ⟨b,0,none⟩)))=>match H[i]? with
   |some (.iter b' s pos)=>Sp (b'=b) (Nx pos s (dP (H.set i (.iter b s (pos+d8 (s.drop pos)))) λH'=>K (.tuple [.bool true,.int .i64 (pos:Int),.int .i32 (eC (s.drop pos):Int)]) H') (K (.tuple [.bool false]) H))
   |_=>F
  |_=>F
 |.makeMap T none=>Ab λbl=>dP (H++[.mp bl []]) λH'=>K (.own H.length (.map (some bl))) H'
 |.lookup T x y ok=>match bC P T,ai env x,ai env y with
  |some xT,some (.own i (.map (some b))),some k=>match xT.desc,H[i]? with
   |.map kt et,some (.mp b' es)=>match bC P kt,bC P et with
    |some xk,some xe=>match kZ xk.desc k,zeroV xe.zero with
     |true,some z=>Sp (b'=b) (H5 k F (λ_ a=>match ok with|true=>K (.tuple [a,.bool true]) H|false=>K a H) (match ok with|true=>K (.tuple [z,.bool false]) H|false=>K z H) es)
     |_,_=>F
    |_,_=>F
   |_,_=>F
  |_,_,_=>F
 |op=>B8 P GL env H op F λav=>K av H
def sC (ops:Array Oper)(env:Env)(g:Option (Nat×Bool))(F:Prop)(run skip:Env->Prop):Prop:=
 match g with
 |none=>run env
 |some (j,want)=>match ops[j]? with
  |some o=>match o.dst with
   |some e=>match Env.get env e with
    |some (.bool b)=>match want with
     |true=>Sc b (run ((e,.bool true)::env)) (skip ((e,.bool false)::env))
     |false=>Sc b (skip ((e,.bool true)::env)) (run ((e,.bool false)::env))
    |some (.raw v)=>Sp (v=undef) (skip env)
    |_=>F
   |none=>F
  |none=>F
structure uj (ops:Array Oper) (l:List Oper) (env:Env) (H:Heap) (Q:aQ->Env->Heap->Prop):Prop where
 h:aw P C n ops l env H Q
structure Cd (c:Code) (env:Env) (H:Heap) (Q:aQ->Env->Heap->Prop):Prop where
 h:bN P C n c env H Q
noncomputable def L0 (ops:Array Oper)(o:Oper)(rest:List Oper)(Q:aQ->Env->Heap->Prop)(K:Env->Heap->Prop)(env:Env)(H:Heap):Prop:=
 sC ops env o.guard (uj P C n ops (o::rest) env H Q)
  (λenv'=>match o.op with
   |.panic x=>match ai env' x with
    |some (.iface ty v)=>Q (.panic (.iface ty v)) env' H
    |_=>uj P C n ops (o::rest) env' H Q
   |op=>match o.dst with
    |some d=>match Nat.ble (d+1) n with
     |true=>QI P G GL env' H op (uj P C n ops (o::rest) env' H Q) (λv H'=>Q (.panic v) env' H') (λav H'=>K ((d,av)::env') H')
     |false=>uj P C n ops (o::rest) env' H Q
    |none=>match op with
     |.store T x y=>Aq P env' H T x y (uj P C n ops (o::rest) env' H Q) (λH'=>K env' H')
     |.mapUpdate T x y z=>oq P env' H T x y z (uj P C n ops (o::rest) env' H Q) (λH'=>K env' H')
     |.insert T x y z=>oq P env' H T x y z (uj P C n ops (o::rest) env' H Q) (λH'=>K env' H')
     |_=>uj P C n ops (o::rest) env' H Q)
  (λenv'=>match o.dst with
   |some d=>match Nat.ble (d+1) n with
    |true=>K ((d,.raw undef)::env') H
    |false=>uj P C n ops (o::rest) env' H Q
   |none=>K env' H)
noncomputable def mw (ops:Array Oper)(Q:aQ->Env->Heap->Prop)(l:List Oper):Env->Heap->Prop:=
 List.rec (motive:=λ_=>Env->Heap->Prop) (λenv H=>Q .normal env H) (λo rest ih=>L0 P C n G GL ops o rest Q ih) l
def BD (id:Nat)(Q:aQ->Env->Heap->Prop):aQ->Env->Heap->Prop
 |.exit i,e,h=>match Nat.beq i id with
  |true=>Q .normal e h
  |false=>Q (.exit i) e h
 |x,e,h=>Q x e h
structure Lp (c:Code) (env:Env) (H:Heap) (Q:aQ->Env->Heap->Prop):Prop where
 h:bN P C n (.loop c) env H Q
structure Dw (id:Nat) (ops:Array Oper) (env:Env) (H:Heap) (Q:aQ->Env->Heap->Prop):Prop where
 h:bN P C n (.region id ops true) env H Q
noncomputable def gh (c:Code):Env->Heap->(aQ->Env->Heap->Prop)->Prop:=
 Code.rec (motive:=λ_=>Env->Heap->(aQ->Env->Heap->Prop)->Prop)
  (λenv H Q=>Q .normal env H)
  (λid ops d env H Q=>match d with
   |false=>mw P C n G GL ops Q ops.toList env H
   |true=>Dw P C n id ops env H Q)
  (λ_ _ iha ihb env H Q=>iha env H (gG (λe h=>ihb e h Q) Q))
  (λc x y ihx ihy env H Q=>match ai env c with
   |some (.bool b)=>Sc b (ihx env H Q) (ihy env H Q)
   |_=>Cd P C n (.cond c x y) env H Q)
  (λid _ ih env H Q=>ih env H (BD id Q))
  (λc _ env H Q=>Lp P C n c env H Q)
  (λf ps a b _ _ env H Q=>Cd P C n (.rangeFunc f ps a b) env H Q)
  (λid env H Q=>Q (.exit id) env H)
  (λc _ env H Q=>Cd P C n (.scope c) env H Q)
  (λl env H Q=>Cd P C n (.label l) env H Q)
  (λl env H Q=>Cd P C n (.goto l) env H Q)
  (λenv H Q=>Q .ret env H)
  (λw env H Q=>Cd P C n (.refuse w) env H Q) c
end
section
variable {P:Program} [Tab P] {C:Ctx} {n:Nat} {env:Env} {H:Heap} {Q:aQ->Env->Heap->Prop} {ops:Array Oper} {rest:List Oper} {GL:List (Nat×List AVal)}
variable {eT:Option TypeId}
variable {d:Nat} {t:TypeId} {p:String} {af:Array Edge} {g:Option (Nat×Bool)} {b:Bool}
theorem UZ {l:List Oper}{env':Env}(hs:∀{D:List Deferred} R a,FS D n R env a->FS D n R env' a)(h:aw P C n ops l env' H Q):aw P C n ops l env H Q:=
 λR a w hm hf=>h R a w hm (hs R a hf)
theorem G6 {c:Code}{env':Env}(hs:∀{D:List Deferred} R a,FS D n R env a->FS D n R env' a)(h:bN P C n c env' H Q):bN P C n c env H Q:=
 λR a w hm hf=>h R a w hm (hs R a hf)
theorem RZ {l:List Oper}{H':Heap}(hs:H.Perm H')(h:aw P C n ops l env H' Q):aw P C n ops l env H Q:=
 λR a w hm hf=>h R a w (hm.perm hs) hf
theorem mP {l:List Oper}{x:HEnt}(h:aw P C n ops l env (H++[x]) Q):aw P C n ops l env (x::H) Q:=
 RZ (List.perm_append_singleton x H).symm h
theorem wU {D:List Deferred}{R:Seal}{a:Act}{s i:Nat}{v:Value}(hv:cU v=false)(hs:Env.get env s=some (.raw v))(hf:FS D n R env a):FS D n R ((s,.own i v)::env) a:=by
 refine⟨λk x hk=> ?_,hf.size,hf.defers⟩
 simp only[Env.get] at hk;split at hk
 ·rename_i hb;have:=Nat.eq_of_beq_eq_true hb;subst this
  simp only[Option.some.injEq] at hk
  subst hk
  obtain⟨y,hy,hr⟩:=hf.fr _ _ hs
  exact⟨y,hy,a7.2 ⟨ar.1 hr,hv⟩⟩
 ·exact hf.fr k x hk
theorem fP {i:Nat}{v:Value}(hv:cU v=false)(h:aw P C n ops rest ((d,.own i v)::env) H Q):aw P C n ops rest ((d,.raw v)::env) H Q:=
 UZ (λR a hf=>by
  refine⟨λk y hk=> ?_,hf.size,hf.defers⟩;simp only[Env.get] at hk;split at hk
  ·rename_i hb;have:=Nat.eq_of_beq_eq_true hb;subst this;simp only[Option.some.injEq] at hk;subst hk;obtain⟨z,hz,hr⟩:=hf.fr d (.raw v) (by simp[Env.get]);exact⟨z,hz,a7.2 ⟨ar.1 hr,hv⟩⟩
  ·rename_i hb;exact hf.fr k y (by simp only[Env.get,hb];exact hk)) h
theorem ma {op:Op}{av:AVal}(hg:a8 ops env g=some (b,b))(hdn:Nat.ble (d+1) n=true)(hr:bD P C H env op av)(h:aw P C n ops rest ((d,av)::env) H Q):
  aw P C n ops ({dst:=some d,op:=op,type:=t,pos:=p,after:=af,guard:=g}::rest) env H Q:=
 IL hg rfl hdn (λR ρ w hm hf=>hr R ρ w hm hf _ _ _ _ _) h
theorem IM {op:Op}{F:Prop}{K:AVal->Prop}(hg:a8 ops env g=some (b,b))(hdn:Nat.ble (d+1) n=true)(h:ET P C H env op F K)
  (hF:F->aw P C n ops ({dst:=some d,op:=op,type:=t,pos:=p,after:=af,guard:=g}::rest) env H Q) (hK:∀av,K av->aw P C n ops rest ((d,av)::env) H Q):
  aw P C n ops ({dst:=some d,op:=op,type:=t,pos:=p,after:=af,guard:=g}::rest) env H Q:=by
 rcases h with h|⟨av,h1,h2⟩
 ·exact hF h
 ·exact ma hg hdn h1 (hK av h2)
theorem p4 {a:AVal}{F:Prop}{K:List AVal->Prop}(h:cellsOf a F K):F\/(a.plain=true/\K a.cells):=by
 unfold cellsOf at h;split at h
 ·rw[dq] at h;exact .inr ⟨rfl,h⟩
 ·exact .inl h
 ·rename_i h1 h2;refine .inr ⟨?_,?_⟩
  ·cases a<;>first|rfl|skip
   rename_i v;cases v<;>first|rfl|(exact absurd rfl (h2 _))
  ·cases a<;>first|exact h|(exact absurd rfl (h1 _))
theorem KH {R:Seal}{w:World}{i bl cap:Nat}{s:List UInt8}(hi:H[i]? =some (.buf bl s cap))(hm:MS C R H w):MS C R (H.set i (.cells bl none (fA s cap))) w:=by
 obtain⟨_,C',e,fz,h1,h2,h3⟩:=hm.heap.holds _ (List.mem_of_getElem? hi);exact hm.swap hi rfl ⟨C',e,fz,h1,h2,h3,λ_ h=>nomatch h⟩
theorem zY {R:Seal}{w:World}{i bl cap:Nat}{s:List UInt8}(hc:s.length<=cap)(hi:H[i]? =some (.cells bl eT (fA s cap)))(hm:MS C R H w):MS C R (H.set i (.buf bl s cap)) w:=by
 obtain⟨C',e,fz,h1,h2,h3,_⟩:=hm.heap.holds _ (List.mem_of_getElem? hi);exact hm.swap hi rfl ⟨hc,C',e,fz,h1,h2,h3⟩
theorem BO {l:List Oper}{H':Heap}(hs:∀R w,MS C R H w->MS C R H' w)(h:aw P C n ops l env H' Q):aw P C n ops l env H Q:=
 λR a w hm hf=>h R a w (hs R w hm) hf
theorem oz {i:Nat}{x y:HEnt}(hi:H[i]? =some x):(H.set i y)[i]? =some y:=by
 have:=(List.getElem?_eq_some_iff.1 hi).1;simp[this]
theorem Hy (i:Nat)(y z:HEnt):(H.set i y).set i z=H.set i z:=by simp
theorem nH {x:Oper}{e:Nat}{v:Bool}{j:Nat}{want:Bool}(ho:ops[j]? =some x)(he:x.dst=some e):a8 ops ((e,.bool v)::env) (some (j,want))=some (v,want):=by
 simp only[a8,ho,he,Env.get,Nat.beq_refl]
variable {x y:Operand} {T:TypeId} {xT:TI} {tx ty:TypeId} {av:AVal}
theorem CU {R:Seal}{w:World}{i sz m:Nat}{v:Value}{cs:List AVal}(hm:MS C R H w)(hi:H[i]? =some (.row v eT sz m cs)):cU v=false:=by
 obtain⟨_,h⟩:=hm.heap.holds _ (List.mem_of_getElem? hi);rcases h with⟨rfl,_⟩|⟨_,_,_,_,_,rfl,_⟩<;>rfl
theorem li {l:List Oper}{i sz m:Nat}{v:Value}{cs:List AVal}(hi:H[i]? =some (.row v eT sz m cs))(h:(∃a k c,v= .slice a k c/\EM m a k)->aw P C n ops l env H Q):aw P C n ops l env H Q:=λR a w hm hf=>by
 obtain⟨_,hh⟩:=hm.heap.holds _ (List.mem_of_getElem? hi);refine h ?_ R a w hm hf;rcases hh with⟨rfl,rfl⟩|⟨_,_,_,_,_,rfl,_⟩
 ·exact⟨_,_,_,rfl,λh=>absurd h (Nat.lt_irrefl _)⟩
 ·exact⟨_,_,_,rfl,λ_=>⟨_,rfl,rfl⟩⟩
theorem Di {j0 i bl o:Nat}{cs:List AVal}(hg:a8 ops env g=some (b,b))
  (hx:ai env x=some (.own j0 (.pointer (some ⟨bl,o,none⟩)))) (hy:ai env y=some av) (hi:H[i]? =some (.cells bl eT cs)) (h1:bC P T=some xT) (h2:av.cells.length=xT.size)
  (hc:Nat.ble (o+xT.size) cs.length=true) (hp:av.plain=true) (hok:jA av.cells=true)
  (h:aw P C n ops rest env (H.set i (.cells bl eT (cs.take o++av.cells++cs.drop (o+xT.size)))) Q):
  aw P C n ops ({dst:=none,op:=.store T x y,type:=t,pos:=p,after:=af,guard:=g}::rest) env H Q:=by
 refine mO hg rfl (λR ρ w hm hf=> ?_) h;have hc:=Nat.le_of_ble_eq_true hc;obtain⟨Cs,el,fz,hb,hl,hfz⟩:=jZ hm hi;have hlen:=aO hl;simp only[Array.length_toList] at hlen;have hv:=jY (hf _ _ hy) hp;have hvl:=aO hv;simp only[Array.length_toList] at hvl;obtain⟨w',hr,ho⟩:=ez (P:=P) (ρ y).cells.toList o 0 Cs w hb (by simp only[Array.length_toList];omega) hfz.1 (mQ hv hok);refine⟨w',R,?_,Seal.le_refl R,hm.write hi rfl ho rfl ?_⟩
 ·simp only[execOp,(a7.1 (hf _ _ hx)).1,Instr.storeAt,Instr.sureAddr,storeVar,Sem.run_bind,Sem.run_pure,Result.andThen_ok,aR h1];rw[if_neg (by omega)];simp only[Sem.run_bind,Sem.run_pure,Result.andThen_ok,hr]
 ·refine⟨_,_,_,ho.at_,?_,?_⟩
  ·simp only[Nat.add_zero,Array.length_toList,hvl,h2];exact cr (cr (cZ o hl) hv) (dm _ hl)
  ·simp only[Nat.add_zero,Array.length_toList,hvl,h2,List.size_toArray,List.length_append,List.length_take,List.length_drop];have:min o Cs.size+xT.size+(Cs.size-(o+xT.size))=Cs.size:=by omega
   rw[this];exact hfz
theorem qG {j0 i bl o n0 sz:Nat}{v:Value}{cs:List AVal}(hg:a8 ops env g=some (b,b))
  (hx:ai env x=some (.own j0 (.pointer (some ⟨bl,o,none⟩)))) (hy:ai env y=some av) (hi:H[i]? =some (.row v eT sz n0 cs)) (hr:eW v bl n0) (h0:0<n0) (h1:bC P T=some xT) (h2:av.cells.length=xT.size)
  (hc:o+xT.size<=n0*sz) (hp:av.plain=true) (hok:jA av.cells=true)
  (h:aw P C n ops rest env (H.set i (.row v eT sz n0 (cs.take o++av.cells++cs.drop (o+xT.size)))) Q):
  aw P C n ops ({dst:=none,op:=.store T x y,type:=t,pos:=p,after:=af,guard:=g}::rest) env H Q:=by
 refine mO hg rfl (λR ρ w hm hf=> ?_) h;obtain⟨hlen,cap,Cs,el,fz,rfl,hb,hsz,hnc,hl,hfz⟩:=rY hm hi hr h0;have hmul:n0*sz<=cap*sz:=Nat.mul_le_mul_right _ hnc;have hv:=jY (hf _ _ hy) hp;have hvl:=aO hv;simp only[Array.length_toList] at hvl;obtain⟨w',hr',ho⟩:=ez (P:=P) (ρ y).cells.toList o 0 Cs w hb (by simp only[Array.length_toList];omega) hfz.1 (mQ hv hok);refine⟨w',R,?_,Seal.le_refl R,hm.write hi rfl ho rfl ?_⟩
 ·simp only[execOp,(a7.1 (hf _ _ hx)).1,Instr.storeAt,Instr.sureAddr,storeVar,Sem.run_bind,Sem.run_pure,Result.andThen_ok,aR h1];rw[if_neg (by omega)];simp only[Sem.run_bind,Sem.run_pure,Result.andThen_ok,hr']
 ·refine⟨by simp only[List.length_append,List.length_take,List.length_drop];omega,.inr ⟨bl,cap,_,_,_,rfl,ho.at_,?_,hnc,?_,?_⟩⟩
  ·simp only[Nat.add_zero,Array.length_toList,hvl,h2,List.size_toArray,List.length_append,List.length_take,List.length_drop];omega
  ·have e1:(Cs.toList.take (o+0)++(ρ y).cells.toList++Cs.toList.drop (o+0+(ρ y).cells.toList.length)).take (n0*sz)=(Cs.toList.take (n0*sz)).take o++(ρ y).cells.toList++(Cs.toList.take (n0*sz)).drop (o+xT.size):=by
    have hl1:(Cs.toList.take o).length=o:=by rw[List.length_take,Array.length_toList];omega
    have hl2:(ρ y).cells.toList.length=xT.size:=by rw[Array.length_toList];omega
    rw[Nat.add_zero,hl2,List.take_append,List.length_append,hl1,hl2,List.take_of_length_le (by rw[List.length_append,hl1,hl2];omega),List.take_take,Nat.min_eq_left (by omega),List.drop_take]
   simp only[];rw[e1];exact cr (cr (cZ o hl) hv) (dm _ hl)
  ·simp only[Nat.add_zero,Array.length_toList,hvl,h2,List.size_toArray,List.length_append,List.length_take,List.length_drop];have:min o Cs.size+xT.size+(Cs.size-(o+xT.size))=Cs.size:=by omega
   rw[this];exact hfz
theorem AW {j0 i bl pos:Nat}{s:List UInt8}(hg:a8 ops env g=some (b,b))(hdn:Nat.ble (d+1) n=true)(hx:ai env x=some (.own j0 (.pointer (some ⟨bl,0,none⟩))))(hi:H[i]? =some (.iter bl s pos))(hlt:pos<s.length)
  (h:aw P C n ops rest ((d,.tuple [.bool true,.int .i64 (pos:Int),.int .i32 ((Utf8.decode ⟨s.toArray⟩ pos).1:Int)])::env) (H.set i (.iter bl s (pos+(Utf8.decode ⟨s.toArray⟩ pos).2))) Q):
  aw P C n ops ({dst:=some d,op:=.next x true,type:=t,pos:=p,after:=af,guard:=g}::rest) env H Q:=by
 refine sT hg rfl hdn (λR ρ w hm hf=> ?_) h;have hb:w.heap[bl]? =some (.stringIter ⟨s.toArray⟩ pos):=hm.heap.holds _ (List.mem_of_getElem? hi);have hlt':=ov hb;have ho:mR w bl (.stringIter ⟨s.toArray⟩ (pos+(Utf8.decode ⟨s.toArray⟩ pos).2)) {w with heap:=w.heap.setIfInBounds bl (.stringIter ⟨s.toArray⟩ (pos+(Utf8.decode ⟨s.toArray⟩ pos).2))}:=
  ⟨rfl,rfl,rfl,by simp,by simp[hlt'],λk hk=>by simp only[];rw[Array.getElem?_setIfInBounds_ne (Ne.symm hk)]⟩
 refine⟨.tuple #[.bool true,.int .i64 (pos:Int),.int .i32 ((Utf8.decode ⟨s.toArray⟩ pos).1:Int)],{w with heap:=w.heap.setIfInBounds bl (.stringIter ⟨s.toArray⟩ (pos+(Utf8.decode ⟨s.toArray⟩ pos).2))},R,?_,Seal.le_refl R,?_,
  hm.write hi rfl ho rfl ho.at_⟩
 ·simp only[execOp,(a7.1 (hf _ _ hx)).1,Instr.next,Sem.run_bind,fm hb (by simp),Result.andThen_ok,bG,if_pos hlt];simp only[setObj,Sem.run,hb];rfl
 ·exact⟨⟨_,rfl,_,_,rfl,⟨rfl,rfl⟩,_,_,rfl,⟨rfl,rfl⟩,_,_,rfl,⟨rfl,rfl⟩,rfl⟩,rfl⟩
theorem AX {j0 i bl pos:Nat}{s:List UInt8}(hg:a8 ops env g=some (b,b))(hdn:Nat.ble (d+1) n=true)(hx:ai env x=some (.own j0 (.pointer (some ⟨bl,0,none⟩))))(hi:H[i]? =some (.iter bl s pos))(hlt:s.length<=pos)
  (h:aw P C n ops rest ((d,.tuple [.bool false])::env) H Q):
  aw P C n ops ({dst:=some d,op:=.next x true,type:=t,pos:=p,after:=af,guard:=g}::rest) env H Q:=by
 refine IL hg rfl hdn (λR ρ w hm hf=> ?_) h;have hb:w.heap[bl]? =some (.stringIter ⟨s.toArray⟩ pos):=hm.heap.holds _ (List.mem_of_getElem? hi);refine⟨.tuple #[.bool false],?_,⟨⟨_,rfl,_,_,rfl,⟨rfl,rfl⟩,rfl⟩,rfl⟩⟩;simp only[execOp,(a7.1 (hf _ _ hx)).1,Instr.next,Sem.run_bind,fm hb (by simp),Result.andThen_ok,bG];rw[if_neg (by omega)];rfl
theorem MG {j0 i bl pos:Nat}{s:List UInt8}(hg:a8 ops env g=some (b,b))(hdn:Nat.ble (d+1) n=true)(hx:ai env x=some (.own j0 (.pointer (some ⟨bl,0,none⟩))))(hi:H[i]? =some (.iter bl s pos))
  (hmore:pos<s.length->aw P C n ops rest ((d,.tuple [.bool true,.int .i64 (pos:Int),.int .i32 (eC (s.drop pos):Int)])::env) (H.set i (.iter bl s (pos+d8 (s.drop pos)))) Q)
  (hdone:s.length<=pos->aw P C n ops rest ((d,.tuple [.bool false])::env) H Q):
  aw P C n ops ({dst:=some d,op:=.next x true,type:=t,pos:=p,after:=af,guard:=g}::rest) env H Q:=by
 by_cases hlt:pos<s.length
 ·refine AW hg hdn hx hi hlt ?_;have e:=rm s pos hlt;have h:=hmore hlt;have e1:(Utf8.decode ⟨s.toArray⟩ pos).1=eC (s.drop pos):=by rw[e];unfold eC;split<;>rfl
  have e2:(Utf8.decode ⟨s.toArray⟩ pos).2=d8 (s.drop pos):=by rw[e];unfold d8;split<;>rfl
  rw[e1,e2];exact h
 ·exact AX hg hdn hx hi (by omega) (hdone (by omega))
theorem zi {j0 i m n0 sz:Nat}{v:Value}{xa:AVal}{cs new z:List AVal}{tx e:TypeId}{xe:TI}(hg:a8 ops env g=some (b,b))(hdn:Nat.ble (d+1) n=true)
  (hx:ai env x=some (.own j0 v)) (hi:H[i]? =some (.row v eT sz n0 cs)) (hy:ai env y=some xa)
  (h1:bC P T=some xT) (h2:xT.desc= .slice e) (h3:bC P e=some xe) (h4:xe.size=sz) (h5:Nat.ble 1 sz=true) (h6:Nat.ble xe.bytes 1024=true) (h7:bF xe.zero=some z) (h8:z.length=sz)
  (hs:∀R v,bE R xa v->EL P R sz tx v m new) (hlen:n0+m<=137438953472) (hty:∀t,eT=some t->e=t)
  (h:∀v':Value,aw P C n ops rest ((d,.own i v')::env) (H.set i (.row v' eT sz (n0+m) (cs++new))) Q):
  aw P C n ops ({dst:=some d,op:=.call {callee:=.builtin .append,args:=[x,y].toArray,argTypes:=[T,tx].toArray},type:=t,pos:=p,after:=af,guard:=g}::rest) env H Q:=by
 refine gt (av:=λv':Value=>.own i v') (H':=λv'=>H.set i (.row v' eT sz (n0+m) (cs++new))) hg rfl hdn (λR ρ w hm hf=> ?_) h;obtain⟨v',w',hr,hm'⟩:=xK (T:=T) (tx:=tx) t hm hi h1 h2 h3 h4 (yP h7 h8) (Nat.le_of_ble_eq_true h6) (hs R _ (hf _ _ hy)) (Nat.le_of_ble_eq_true h5) hlen hty;refine⟨v',v',w',R,?_,Seal.le_refl R,a7.2 ⟨rfl,CU hm' (oz hi)⟩,hm'⟩;simp only[execOp,resolve,Sem.run_bind,Sem.run_pure,Result.andThen_ok,invoke,builtin,List.map_toArray,List.map_cons,List.map_nil,(a7.1 (hf _ _ hx)).1,hr]
end
end
end Go.Proofs.YtpgdnpielhfpgaaGreatDoor
