/- Parts of the proof of canonItems_card. -/
import Derived.Carry
import Derived.Test.YtmdhmodenkjmdaaGreatDoorBab
set_option linter.unusedVariables false
set_option linter.unusedSimpArgs false
set_option linter.unusedSectionVars false
namespace Go.Proofs.YtmdhmodenkjmdaaGreatDoor
open Tryz
set_option maxRecDepth 20000
set_option maxHeartbeats 4000000
section
open Go
structure Sp (p k:Prop):Prop where
 p:p
 k:k
structure Sc (b:Bool) (t f:Prop):Prop where
 t:b=true->t
 f:b=false->f
theorem kp {p k:Prop}(hp:p)(hk:k):Sp p k:=⟨hp,hk⟩
theorem e8 {t f:Prop}(h:t):Sc true t f:=⟨λ_=>h,λe=>by cases e⟩
theorem dU {t f:Prop}(h:f):Sc false t f:=⟨λe=>(by cases e),λ_=>h⟩
theorem m5 {x y:Int}{t f:Prop}(ht:x<y->t)(hf:y<=x->f):Sc (lP x y) t f:=⟨λe=>ht (mf.1 e),λe=>hf (jU.1 e)⟩
theorem jz {x y:Int}{t f:Prop}(ht:y<=x->t)(hf:x<y->f):Sc (!lP x y) t f:=⟨λe=>ht (jU.1 (by simpa using e)),λe=>hf (mf.1 (by simpa using e))⟩
theorem m6 {x y:Int}{t f:Prop}(ht:x=y->t)(hf:x≠y->f):Sc (cY x y) t f:=⟨λe=>ht (fh.1 e),λe=>hf (rQ.1 e)⟩
theorem jB {x y:Int}{t f:Prop}(ht:x≠y->t)(hf:x=y->f):Sc (!cY x y) t f:=⟨λe=>ht (rQ.1 (by simpa using e)),λe=>hf (fh.1 (by simpa using e))⟩
theorem jA {x:List UInt8}{t f:Prop}(ht:x.length=0->t)(hf:x.length≠0->f):Sc (ca x []) t f:=⟨λe=>ht (by have:=dE.1 e;subst this;rfl),λe=>hf (λh=>(kq.1 e) (List.eq_nil_of_length_eq_zero h))⟩
theorem gm {x:List UInt8}{t f:Prop}(ht:x.length≠0->t)(hf:x.length=0->f):Sc (!ca x []) t f:=by
 refine⟨λe=>ht λh=> ?_,λe=>hf ?_⟩
 ·exact(kq.1 (by simpa using e)) (List.eq_nil_of_length_eq_zero h)
 ·have e:ca x []=true:=by simpa using e
  have:=dE.1 e;subst this;rfl
theorem jy {x y:List UInt8}{t f:Prop}(ht:x=y->t)(hf:x≠y->f):Sc (ca x y) t f:=⟨λe=>ht (dE.1 e),λe=>hf (kq.1 e)⟩
theorem gk {x y:List UInt8}{t f:Prop}(ht:x≠y->t)(hf:x=y->f):Sc (!ca x y) t f:=⟨λe=>ht (kq.1 (by simpa using e)),λe=>hf (dE.1 (by simpa using e))⟩
theorem au {b:Bool}{t f:Prop}(h:Sc b f t):Sc (!b) t f:=⟨λe=>h.2 (by simpa using e),λe=>h.1 (by simpa using e)⟩
theorem aM {a b:Bool}{t f:Prop}(h:Sc a t (Sc b t f)):Sc (a||b) t f:=by
 cases a
 ·exact⟨λe=>(h.2 rfl).1 (by simpa using e),λe=>(h.2 rfl).2 (by simpa using e)⟩
 ·exact⟨λ_=>h.1 rfl,λe=>by simp at e⟩
theorem a6 {b:Bool}{t f:Prop}(ht:b=true->t)(hf:b=false->f):Sc b t f:=⟨ht,hf⟩
structure Ix (i:Int) (m:Nat) (K:Nat->Prop):Prop where
 p:0<=i/\i<m
 k:K i.toNat
theorem Mm {i m:Nat}{K:Nat->Prop}(h:i<m)(k:K i):Ix (i:Int) m K:=⟨⟨by omega,by omega⟩,by simpa using k⟩
theorem Mn {i:Int}{m:Nat}{K:Nat->Prop}(h:0<=i/\i<m)(k:K i.toNat):Ix i m K:=⟨h,k⟩
structure Sl (i j:Int) (m:Nat) (K:Nat->Nat->Prop):Prop where
 p:0<=i/\i<=j/\j<=m
 k:K i.toNat j.toNat
theorem LE {i j m:Nat}{K:Nat->Nat->Prop}(h:i<=j/\j<=m)(k:K i j):Sl (i:Int) (j:Int) m K:=⟨⟨by omega,by omega,by omega⟩,by simpa using k⟩
theorem LF {i j:Int}{m:Nat}{K:Nat->Nat->Prop}(h:0<=i/\i<=j/\j<=m)(k:K i.toNat j.toNat):Sl i j m K:=⟨h,k⟩
structure Bx (s:List UInt8) (i:Nat) (k:Prop):Prop where
 h:aa s i<256->k
theorem ba {s:List UInt8}{i:Nat}{k:Prop}(h:aa s i<256->k):Bx s i k:=⟨h⟩
inductive Cx (P:Program) (G:Glo) (f:FuncId) (avs:List AVal) (H:Heap) (K:AVal->Heap->Prop) (Kp:AVal->Heap->Prop):Prop
 |mk (Qf:cK->Heap->Prop) (hs:ad P G f avs H Qf) (hr:∀v H',Qf (.ret v) H'->K v H') (hp:∀v H',Qf (.panic v) H'->Kp v H')
structure Ab (K:Nat->Prop):Prop where
 h:∀bl,K bl
structure Av (K:Value->Prop):Prop where
 h:∀v,K v
structure Ac (p:Nat->Prop) (K:Nat->Nat->Prop):Prop where
 h:∀bl cap,p cap->K bl cap
theorem bc {K:Nat->Prop}(h:∀bl,K bl):Ab K:=⟨h⟩
def mR (m:Nat)(a:Option Addr)(k:Nat):Prop:=0<m->∃b,a=some ⟨b,0,none⟩/\k=m
structure As (m:Nat) (K:Value->Prop):Prop where
 h:∀(a:Option Addr) (n c:Nat),mR m a n->K (.slice a n c)
theorem bh {m:Nat}{K:Value->Prop}(h:∀(a:Option Addr) (n c:Nat),mR m a n->K (.slice a n c)):As m K:=⟨h⟩
theorem bg {K:Value->Prop}(h:∀v,K v):Av K:=⟨h⟩
theorem bj {p:Nat->Prop}{K:Nat->Nat->Prop}(h:∀bl cap,p cap->K bl cap):Ac p K:=⟨h⟩
inductive Ch (a b:Prop):Prop
 |inl (h:a)
 |inr (h:b)
inductive Bo (a b:Prop):Prop
 |inl (h:a)
 |inr (h:b)
theorem bx {a b:Prop}(h:a):Bo a b:=.inl h
theorem BU {a b:Prop}(h:b):Bo a b:=.inr h
inductive Ia (P:Program) (ty:TypeId) (S T:TypeId) (a b:Prop):Prop
 |hit (h:∀v w,(Instr.typeAssert (.iface ty v) S T true).run P w= .ok (.tuple #[.iface ty v,.bool true]) w) (k:a)
 |miss (h:∀v w,(Instr.typeAssert (.iface ty v) S T true).run P w= .ok (.tuple #[.nilIface,.bool false]) w) (k:b)
inductive Gt (cs:List AVal) (o:Nat) (K:AVal->Prop):Prop
 |mk (a:AVal) (h:cs[o]? =some a) (ha:a.isAgg=false) (k:K a)
inductive Gs (cs:List AVal) (o sz:Nat) (K:List AVal->Prop):Prop
 |mk (c:List AVal) (h:(cs.drop o).take sz=c) (k:K c)
theorem nu {cs:List AVal}{o:Nat}{K:AVal->Prop}{a:AVal}(h:cs[o]? =some a)(ha:a.isAgg=false)(k:K a):Gt cs o K:=.mk a h ha k
theorem MZ {a b:Prop}(h:b):Ch a b:=.inr h
def gf {β:Type}:List AVal->(List AVal->β)->β
 |[],k=>k []
 |c::cs,k=>gf cs (λr=>k (c::r))
theorem cz {β:Type}:∀(l:List AVal) (k:List AVal->β),gf l k=k l
 |[],_=>rfl
 |_::cs,k=>cz cs _
def cn {β:Type}:Heap->(Heap->β)->β
 |[],k=>k []
 |c::cs,k=>cn cs (λr=>k (c::r))
theorem aP {β:Type}:∀(l:Heap) (k:Heap->β),cn l k=k l
 |[],_=>rfl
 |_::cs,k=>aP cs _
abbrev Xf:=(AVal->Prop)->Prop
def He:IntKind->Nat
 |.i8=>0|.i16=>1|.i32=>2|.i64=>3|.u8=>4|.u16=>5|.u32=>6|.u64=>7
theorem rv {k j:IntKind}(h:Nat.beq (He k) (He j)=true):j=k:=by
 have:=Nat.eq_of_beq_eq_true h;cases k<;>cases j<;>simp[He] at this<;>rfl
def G1:List (Nat×Nat×Int):=[(1,1,2),(3,2,4),(7,3,8),(15,4,16),(31,5,32),(63,6,64),(127,7,128),(255,8,256),(1023,10,1024),(4095,12,4096),(65535,16,65536)]
def tW (c:Nat):List (Nat×Nat×Int)->Option (Nat×Int)
 |[]=>none
 |(m,e,q)::r=>match Nat.beq m c with
  |true=>some (e,q)
  |false=>tW c r
theorem G2 {c e:Nat}{q:Int}(h:tW c G1=some (e,q)):c=2^e-1/\vS Fw e=some q:=by
 have key:∀l:List (Nat×Nat×Int),(∀x∈l,x.1=2^x.2.1-1/\vS Fw x.2.1=some x.2.2)->tW c l=some (e,q)->c=2^e-1/\vS Fw e=some q:=by
  intro l;induction l with
  |nil=>intro _ h;simp[tW] at h
  |cons x r ih=>
   obtain⟨m,e',q'⟩:=x;intro hl h;simp only[tW] at h;split at h
   ·rename_i hb;have:=Nat.eq_of_beq_eq_true hb;simp only[Option.some.injEq,Prod.mk.injEq] at h;obtain⟨rfl,rfl⟩:=h;have h1:=hl (m,e',q') (by simp);exact⟨by rw[<-this];exact h1.1,h1.2⟩
   ·exact ih (λx hx=>hl x (by simp[hx])) h
 exact key G1 (by decide) h
def aW (m q:Int):Prop:=(m%16=0/\q<16)\/(m%64=0/\q<64)\/(m%256=0/\q<256)\/(m%4096=0/\q<4096)\/(m%262144=0/\q<262144)
def Bm (op:BinOp)(k:IntKind)(m q:Int)(F:Prop):Xf:=λK=>
 match gK op k m q with
 |some av=>K av
 |none=>F
def BV (op:BinOp)(k:IntKind)(m q:Int)(y:Operand)(F:Prop):Xf:=λK=>
 match dq k with
 |(lo,hi)=>match op with
  |.add=>Ch (Sp (lo<=m+q/\m+q<=hi) (K (.int k (m+q)))) (K (.int k (k.wrap (m+q))))
  |.sub=>Ch (Sp (lo<=m-q/\m-q<=hi) (K (.int k (m-q)))) (K (.int k (k.wrap (m-q))))
  |.mul=>Ch (Sp (lo<=m*q/\m*q<=hi) (K (.int k (m*q)))) (K (.int k (k.wrap (m*q))))
  |.quo=>Sp (0<=m/\0<q/\m<=hi) (K (.int k (m/q)))
  |.rem=>Ch (Sp (0<=m/\0<q) (K (.int k (m%q)))) (Sp (0<q) (K (.int k (m.tmod q))))
  |.or=>Ch (Sp (0<=m/\0<=q/\m+q<=hi/\aW m q) (K (.int k (m+q)))) (Bm .or k m q F K)
  |.and=>match y with
   |.const (.int _ (.ofNat c))=>match tW c G1 with
    |some (e,c')=>match Nat.ble (e+1) k.bits with
     |true=>Ch (Sp (0<=m/\m<=hi) (K (.int k (m%c')))) (Bm .and k m q F K)
     |false=>F
    |none=>Bm .and k m q F K
   |_=>Ch (Sp (0<=m/\0<=q/\m<=hi/\q<=hi) (K (.int k ((m.toNat&&& q.toNat:Nat):Int)))) (Bm .and k m q F K)
  |op=>match Ib op m q with
   |some av=>K av
   |none=>Bm op k m q F K
def Ay (op:BinOp)(k:IntKind)(m:Int)(y:Operand)(F:Prop):Xf:=λK=>
 match y with
 |.const (.int _ (.ofNat s))=>match vS Fw s with
  |some c=>match Nat.ble s k.bits with
   |true=>match dq k with
    |(lo,hi)=>match op with
     |.shl=>Ch (Sp (lo<=m*c/\m*c<=hi) (K (.int k (m*c)))) (K (.int k (k.wrap (m*c))))
     |.shr=>K (.int k (m/c))
     |_=>F
   |false=>F
  |none=>F
 |_=>F
def JP:BinOp->Bool
 |.shl=>true
 |.shr=>true
 |_=>false
section
variable (P:Program) [Tab P]
def M3 (env:Env)(op:BinOp)(tx:TypeId)(x y:Operand)(F:Prop):Xf:=λK=>
 match ae env x with
 |some (.int k m)=>match JP op with
  |true=>Ay op k m y F K
  |false=>match ae env y with
   |some (.int j q)=>match Nat.beq (He k) (He j) with
    |true=>BV op k m q y F K
    |false=>F
   |_=>F
 |some (.str s)=>match ae env y with
  |some (.str t)=>match op with
   |.add=>Sp (s.length+t.length<=9223372036854775807) (K (.str (s++t)))
   |_=>match Al op s t with
    |some av=>K av
    |none=>F
  |_=>F
 |some (.bool a)=>match ae env y with
  |some (.bool c)=>match aS P tx with
   |some xT=>match xT.desc,op with
    |.bool,.eql=>K (.bool (a==c))
    |_,_=>F
   |none=>F
  |_=>F
 |some a=>match y with
  |.const z=>match aS P tx with
   |some xT=>match rE xT.desc a,me xT.desc with
    |some c,some z'=>match op with
     |.eql=>Sp (z'=z) (K (.bool c))
     |.neq=>Sp (z'=z) (K (.bool (!c)))
     |_=>F
    |_,_=>F
   |none=>F
  |_=>F
 |none=>F
def Mg (env:Env)(H:Heap)(T:TypeId)(x:Operand)(F:Prop):Xf:=λK=>
 match aS P T with
 |some xT=>match ae env x,xT.desc with
  |some (.str m),.string=>K (.int .i64 (m.length:Int))
  |some (.list _ m _),.slice _=>K (.int .i64 (m:Int))
  |some (.raw (.slice _ m _)),.slice _=>K (.int .i64 (m:Int))
  |some (.own i v),.slice _=>match H[i]? with
   |some (.row v' eT _ m _)=>Sp (v'=v) (K (.int .i64 (m:Int)))
   |_=>match v with
    |.slice _ m _=>K (.int .i64 (m:Int))
    |_=>F
  |_,_=>F
 |none=>F
def pW (env:Env)(mx:Bool)(x y:Operand)(F:Prop):Xf:=λK=>
 match ae env x,ae env y with
 |some (.int k m),some (.int j q)=>match Nat.beq (He k) (He j),mx with
  |true,false=>K (.int k (min m q))
  |true,true=>K (.int k (max m q))
  |_,_=>F
 |_,_=>F
def BQ (env:Env)(H:Heap)(b:Builtin)(args:List Operand)(ts:List TypeId)(F:Prop):Xf:=λK=>
 match b,args,ts with
 |.len,[x],[T]=>Mg P env H T x F K
 |.min,[x,y],_=>pW env false x y F K
 |.max,[x,y],_=>pW env true x y F K
 |_,_,_=>F
structure Sd (i:Int) (m:Nat) (K:Nat->Prop):Prop where
 p:0<=i/\i<=m
 k:K i.toNat
def oF (env:Env)(x:Operand)(F:Prop)(K:Int->Prop):Prop:=
 match ae env x with
 |some (.int _ i)=>K i
 |_=>F
def qa (env:Env)(m:Nat)(lo hi:Option Operand)(F:Prop)(K0:Prop)(Kf Kt:Nat->Prop)(K:Nat->Nat->Prop):Prop:=
 match lo,hi with
 |none,none=>K0
 |some a,none=>oF env a F λi=>Sd i m Kf
 |none,some b=>oF env b F λj=>Sd j m Kt
 |some a,some b=>oF env a F λi=>oF env b F λj=>Sl i j m K
def Aw (env:Env)(T:TypeId)(x:Operand)(lo hi mx:Option Operand)(F:Prop):Xf:=λK=>
 match mx with
 |some _=>F
 |none=>match aS P T with
  |some xT=>match ae env x,xT.desc with
   |some (.str m),.string=>qa env m.length lo hi F (K (.str m)) (λi=>K (.str (m.drop i))) (λj=>K (.str (m.take j))) (λi j=>K (.str ((m.take j).drop i)))
   |some (.list sz m f),.slice e=>match aS P e with
    |some xe=>match Nat.beq xe.size sz with
     |true=>qa env m lo hi F (K (.list sz m f)) (λi=>K (.list sz (m-i) (λk=>f (i+k)))) (λj=>K (.list sz j f)) (λi j=>K (.list sz (j-i) (λk=>f (i+k))))
     |false=>F
    |none=>F
   |_,_=>F
  |none=>F
def Bi (env:Env)(T:TypeId)(x y:Operand)(F:Prop):Xf:=λK=>
 match aS P T with
 |some xT=>match ae env x,xT.desc with
  |some (.str m),.string=>oF env y F λi=>Ix i m.length λj=>Bx m j (K (.int .u8 (aa m j:Int)))
  |_,_=>F
 |none=>F
def kN:List (Nat×List AVal)->Nat->Option (List AVal)
 |[],_=>none
 |(g,cs)::r,k=>match Nat.beq g k with
  |true=>some cs
  |false=>kN r k
def zw (ag:Bool)(sz:Nat)(cs:List AVal)(o:Nat)(F:Prop):Xf:=λK=>
 match ag with
 |true=>match Nat.ble (o+sz) cs.length with
  |true=>gf ((cs.drop o).take sz) λc=>K (.agg c)
  |false=>F
 |false=>match cs[o]? with
  |some av=>match av.isAgg with
   |false=>K av
   |true=>F
  |none=>F
def yP (GL:List (Nat×List AVal))(env:Env)(H:Heap)(T:TypeId)(x:Operand)(F:Prop):Xf:=λK=>
 match aS P T with
 |some xT=>match x with
  |.global g=>match kN GL g with
   |some cs=>zw (bL xT.desc) xT.size cs 0 F K
   |none=>F
  |_=>match ae env x with
   |some (.rop cs off)=>zw (bL xT.desc) xT.size cs off F K
   |some (.own i (.pointer (some ⟨b,o,none⟩)))=>match H[i]? with
    |some (.cells b' eT cs)=>Sp (b'=b) (zw (bL xT.desc) xT.size cs o F K)
    |some (.buf b' s _)=>match bL xT.desc with
     |false=>Sp (b'=b/\o<s.length) (Bx s o (K (.int .u8 (aa s o:Int))))
     |true=>F
    |some (.row v' _ sz n cs)=>match bL xT.desc with
     |false=>Sp (dL v' b n/\o<n*sz) (Gt cs o K)
     |true=>Sp (dL v' b n/\o+xT.size<=n*sz/\0<n) (Gs cs o xT.size λc=>K (.agg c))
    |_=>F
   |_=>F
 |none=>F
def gO (env:Env)(T:TypeId)(x:Operand)(k:Nat)(F:Prop):Xf:=λK=>
 match aS P T with
 |some xT=>match xT.desc with
  |.struct fs=>match fs[k]? with
   |some f=>match aS P f.type with
    |some xf=>match Nat.ble 1 xf.size with
     |true=>match ae env x with
      |some (.rop cs off)=>K (.rop cs (off+f.offset))
      |some (.own i (.pointer (some ⟨b,o,none⟩)))=>K (.own i (.pointer (some ⟨b,o+f.offset,none⟩)))
      |_=>F
     |false=>F
    |none=>F
   |none=>F
  |_=>F
 |none=>F
def HP (a:AVal)(F:Prop):Xf:=λK=>
 match a with
 |.agg cs=>gf cs λc=>K (.rop c 0)
 |.raw (.agg _)=>F
 |a=>K (.rop [a] 0)
def eD (GL:List (Nat×List AVal))(env:Env)(T:TypeId)(x y:Operand)(F:Prop):Xf:=λK=>
 match aS P T with
 |some xT=>match xT.desc with
  |.slice e=>match aS P e with
   |some xe=>match ae env x with
    |some (.list sz m f)=>match Nat.beq xe.size sz with
     |true=>oF env y F λi=>Ix i m λj=>HP (f j) F K
     |false=>F
    |some (.own i (.slice (some ⟨b,0,none⟩) m _))=>match Nat.beq xe.size 1 with
     |true=>oF env y F λk=>Ix k m λj=>K (.own i (.pointer (some ⟨b,j,none⟩)))
     |false=>oF env y F λk=>Ix k m λj=>K (.own i (.pointer (some ⟨b,j*xe.size,none⟩)))
    |_=>F
   |none=>F
  |.array len e=>match aS P e with
   |some xe=>match x with
    |.global g=>match kN GL g with
     |some cs=>oF env y F λi=>Ix i len λj=>K (.rop cs (j*xe.size))
     |none=>F
    |_=>match ae env x with
     |some (.own i (.pointer (some ⟨b,o,none⟩)))=>oF env y F λk=>Ix k len λj=>K (.own i (.pointer (some ⟨b,o+j*xe.size,none⟩)))
     |some (.rop cs off)=>oF env y F λk=>Ix k len λj=>K (.rop cs (off+j*xe.size))
     |_=>F
   |none=>F
  |_=>F
 |none=>F
def By (env:Env)(T:TypeId)(x:Operand)(k:Nat)(F:Prop):Xf:=λK=>
 match aS P T with
 |some xT=>match xT.desc with
  |.struct fs=>match fs[k]? with
   |some f=>match aS P f.type with
    |some xf=>match ae env x with
     |some (.agg cs)=>match bL xf.desc with
      |true=>gf ((cs.drop f.offset).take xf.size) λc=>K (.agg c)
      |false=>match cs[f.offset]? with
       |some av=>match av.isAgg with
        |false=>K av
        |true=>F
       |none=>F
     |_=>F
    |none=>F
   |none=>F
  |_=>F
 |none=>F
def lu (env:Env)(x:Operand)(F:Prop):Xf:=λK=>
 match ae env x with
 |some (.rop cs off)=>K (.rop cs off)
 |some (.own i (.pointer (some a)))=>K (.own i (.pointer (some a)))
 |_=>F
def H8 (env:Env)(H:Heap)(S T:TypeId)(x:Operand)(F:Prop):Xf:=λK=>
 match aS P S,aS P T with
 |some xS,some xT=>match ae env x with
  |some (.int k m)=>match xT.desc with
   |.int j=>match dq j with
    |(lo,hi)=>Ch (Sp (lo<=m/\m<=hi) (K (.int j m))) (K (.int j (j.wrap m)))
   |_=>F
  |some (.own i (.slice (some ⟨b,0,none⟩) m _))=>match xS.desc,xT.desc with
   |.slice e,.string=>match aS P e with
    |some xe=>match xe.desc with
     |.int .u8=>match H[i]? with
      |some (.buf b' s _)=>Sp (b'=b/\m=s.length) (K (.str s))
      |_=>F
     |_=>F
    |none=>F
   |_,_=>F
  |_=>F
 |_,_=>F
def oQ (env:Env)(T:TypeId)(l:List (Nat×Operand))(F:Prop):Xf:=λK=>
 match aS P T with
 |some xT=>match xT.desc with
  |.struct fs=>match fb env l,jF P fs.toList,bp xT.zero with
   |some ps,some pl,some z=>match mj pl z ps with
    |some cs=>gf cs λc=>K (.agg c)
    |none=>F
   |_,_,_=>F
  |.array m e=>match fb env l,aS P e,bp xT.zero with
   |some ps,some xe,some z=>match mj (pn m 0 xe.size) z ps with
    |some cs=>gf cs λc=>K (.agg c)
    |none=>F
   |_,_,_=>F
  |_=>F
 |none=>F
def oH (env:Env)(T:TypeId)(x:Operand)(F:Prop):Xf:=λK=>
 match aS P T,ae env x with
 |some xT,some v=>match ef xT.desc with
  |false=>K (.iface T v)
  |true=>F
 |_,_=>F
def wK (env:Env)(x:Operand)(S T:TypeId)(ok:Bool)(F:Prop):Xf:=λK=>
 match ok,aS P T with
 |true,some xT=>match ae env x with
  |some (.iface ty v)=>match ef xT.desc,Nat.beq ty T with
   |false,true=>K (.tuple [v,.bool true])
   |false,false=>match qj xT.zero with
    |some z=>K (.tuple [z,.bool false])
    |none=>F
   |true,_=>Ia P ty S T (K (.tuple [.iface ty v,.bool true])) (K (.tuple [.raw .nilIface,.bool false]))
  |some (.raw .nilIface)=>match qj xT.zero with
   |some z=>K (.tuple [z,.bool false])
   |none=>F
  |_=>F
 |_,_=>F
def xd (GL:List (Nat×List AVal))(env:Env)(H:Heap)(op:Op)(F:Prop):Xf:=λK=>
 match op with
 |.move x|.assign x=>match ae env x with
  |some av=>K av
  |none=>F
 |.pick c x y=>match ae env c,ae env x,ae env y with
  |some (.bool b),some a,some a'=>Sc b (K a) (K a')
  |_,_,_=>F
 |.binOp op tx x y _=>M3 P env op tx x y F K
 |.unOp .not _ x=>match ae env x with
  |some (.bool b)=>K (.bool (!b))
  |_=>F
 |.unOp .neg _ x=>match ae env x with
  |some (.int k m)=>match dq k with
   |(lo,hi)=>Sp (lo<=0-m/\0-m<=hi) (K (.int k (0-m)))
  |_=>F
 |.call ⟨.builtin b,args,ts⟩=>BQ P env H b args.toList ts.toList F K
 |.extract x i=>match ae env x with
  |some (.tuple cs)=>match cs[i]? with
   |some av=>K av
   |none=>F
  |_=>F
 |.index T x y=>Bi P env T x y F K
 |.slice T x lo hi mx=>Aw P env T x lo hi mx F K
 |.load T x=>yP P GL env H T x F K
 |.fieldAddr T x k=>gO P env T x k F K
 |.field T x k=>By P env T x k F K
 |.indexAddr T x y=>eD P GL env T x y F K
 |.nilCheck x=>lu env x F K
 |.convert S T x=>H8 P env H S T x F K
 |.build T l=>oQ P env T l.toList F K
 |.makeInterface T x=>oH P env T x F K
 |.makeFunc fn l1 l2=>match fV env l1.toList,fV env l2.toList with
  |some a1,some a2=>K (.func fn a1 a2)
  |_,_=>F
 |.typeAssert x S T ok=>wK P env x S T ok F K
 |_=>F
end
theorem LJ {i m:Nat}{K:Nat->Prop}(h:i<=m)(k:K i):Sd (i:Int) m K:=⟨⟨by omega,by omega⟩,by simpa using k⟩
theorem LK {i:Int}{m:Nat}{K:Nat->Prop}(h:0<=i/\i<=m)(k:K i.toNat):Sd i m K:=⟨h,k⟩
section
variable {P:Program} [Tab P] {C:Ctx} {n:Nat} {env:Env} {H:Heap} {F:Prop} {K:AVal->Prop}
variable {av:AVal} {x y:Operand} {T:TypeId} {xT:TI} {tx ty:TypeId}
def ab (G:Glo)(GL:List (Nat×List AVal)):Prop:=∀g cs,kN GL g=some cs->Dt G g cs
theorem aD {G:Glo}:ab G []:=λ_ _ h=>by simp[kN] at h
theorem dt {op:Op}{s i:Nat}{v:Value}(hs:Env.get env s=some (.own i v))(h:bn P C H ((s,.raw v)::env) op av):bn P C H env op av:=by
 intro R ρ w hm hf;refine h R ρ w hm λx a hx=> ?_;cases x with
 |tmp t=>
  simp only[ae,Env.get] at hx;split at hx
  ·rename_i hb;have:=Nat.eq_of_beq_eq_true hb;subst this;simp only[Option.some.injEq] at hx;subst hx;exact al.2 (aQ.1 (hf (.tmp s) _ hs)).1
  ·exact hf (.tmp t) a hx
 |const c=>rw[dB] at hx;exact hf (.const c) a (by rw[dB];exact hx)
 |global g=>exact hf (.global g) a hx
 |func f=>exact hf (.func f) a hx
theorem jG {i:Nat}{v:Value}(h:ae env x=some (.own i v)):∃s,x= .tmp s/\Env.get env s=some (.own i v):=by
 cases x with
 |tmp t=>exact⟨t,rfl,h⟩
 |const c=>cases c<;>simp[ae,CK,oK] at h
 |global g=>simp[ae] at h
 |func f=>simp[ae] at h
theorem fe {s:Nat}{a:AVal}:Env.get ((s,a)::env) s=some a:=by simp[Env.get]
theorem Jj (hx:ae env x=some av):bn P C H env (.move x) av:=λR ρ w hm hf _ _ _ _ _=>⟨ρ x,rfl,hf _ _ hx⟩
theorem DX (hx:ae env x=some av):bn P C H env (.assign x) av:=λR ρ w hm hf _ _ _ _ _=>⟨ρ x,rfl,hf _ _ hx⟩
theorem Ji {c:Operand}{b:Bool}{a a':AVal}(hc:ae env c=some (.bool b))(hx:ae env x=some a)(hy:ae env y=some a'):bn P C H env (.pick c x y) (if b then a else a'):=by
 intro R ρ w hm hf _ _ _ _ _;have:=aN.1 (hf _ _ hc);cases b
 ·exact⟨ρ y,by simp only[execOp,this,asBool];rfl,hf _ _ hy⟩
 ·exact⟨ρ x,by simp only[execOp,this,asBool];rfl,hf _ _ hx⟩
theorem fg {k:IntKind}{m lo hi:Int}(hk:dq k=(lo,hi))(h:lo<=m/\m<=hi):eh k m:=NU hk h.1 h.2
theorem Jk {k:IntKind}{j:IntKind}{m c:Int}{e:Nat}(hx:ae env x=some (.int k m))(hj:j=k)(hm:0<=m)(hm':eh k m)(he:Nat.ble (e+1) k.bits=true)(hc:vS Fw e=some c):
    bn P C H env (.binOp .and tx x (.const (.int j (Int.ofNat (2^e-1)))) ty) (.int k (m%c)):=by
  subst hj;have he:=Nat.le_of_ble_eq_true he;have hq:eh j (Int.ofNat (2^e-1)):=by
    have hp:0<2^e:=Nat.pow_pos (by omega)
    have key:∀b,e+1<=b->2^e<=2^(b-1):=λb hb=>Nat.pow_le_pow_right (by omega) (by omega)
    have:=key _ he
    cases j<;>simp only[IntKind.bits] at this he<;>simp only[eh,Int.ofNat_eq_natCast]<;>first|omega|(have:2^e<=2^8:=Nat.pow_le_pow_right (by omega) (by omega)
                                                                                                                      omega)
  have e1:((m.toNat&&& (Int.ofNat (2^e-1)).toNat:Nat):Int)=m%(2^e:Nat):=by
    obtain⟨a,rfl⟩:=Int.eq_ofNat_of_zero_le hm
    simp only[Int.toNat_natCast,Int.ofNat_eq_natCast,Nat.and_two_pow_sub_one_eq_mod]
    simp
  refine gD hx (show ae env (.const (.int j (Int.ofNat (2^e-1))))=_ from rfl) ?_
  rw[gK,wH (λ_ a c=>a&&& c) (· &&& ·) (λa c=>by simp) (λa c e h1 h2=>Nat.and_lt_two_pow a h2) hm (by simp) hm' hq,e1,yq hc]
theorem DU {k:IntKind}{a q c:Int}{e:Nat}(hc:vS Fw e=some c)(hx:ae env x=some (.int k (a*c)))(hy:ae env y=some (.int k q))(ha:0<=a)(hq:0<=q)(hq':q<c)(hw:eh k (a*c+q)):
  bn P C H env (.binOp .or tx x y ty) (.int k (a*c+q)):=by
 rw[<-yq hc] at hx hq' hw ⊢;obtain⟨a,rfl⟩:=Int.eq_ofNat_of_zero_le ha;obtain⟨q,rfl⟩:=Int.eq_ofNat_of_zero_le hq;have h0:(0:Int)<=(a:Int)*(2^e:Nat):=Int.mul_nonneg ha (Int.natCast_nonneg _);have h1:eh k (a*(2^e:Nat)):=by cases k<;>simp only[eh] at hw ⊢ <;>omega
 have h2:eh k (q:Int):=by cases k<;>simp only[eh] at hw ⊢ <;>omega
 have e1:((((a:Int)*(2^e:Nat)).toNat|||(q:Int).toNat:Nat):Int)=(a:Int)*(2^e:Nat)+q:=by
  rw[<-Int.natCast_mul,Int.toNat_natCast,Int.toNat_natCast,<-Nat.shiftLeft_eq,<-Nat.shiftLeft_add_eq_or_of_lt (by omega)];rw[Nat.shiftLeft_eq];simp
 refine gD hx hy ?_;rw[gK,wH (λ_ a c=>a|||c) (· ||| ·) (λa c=>by simp) (λa c e h1 h2=>Nat.or_lt_two_pow h1 h2) h0 hq h1 h2,e1]
theorem iX {k:IntKind}{m q c:Int}(e:Nat)(hc:vS Fw e=some c)(hx:ae env x=some (.int k m))(hy:ae env y=some (.int k q))(hm:0<=m)(hd:m%c=0)(hq:0<=q)(hq':q<c)(hw:eh k (m+q)):
  bn P C H env (.binOp .or tx x y ty) (.int k (m+q)):=by
 have e1:m=m/c*c:=by have:=Int.mul_ediv_add_emod m c;rw[hd] at this;rw[Int.mul_comm];omega
 rw[e1] at hx hw ⊢;exact DU hc hx hy (Int.ediv_nonneg hm (by omega)) hq hq' hw
theorem nx {op:BinOp}{k:IntKind}{m q:Int}(hx:ae env x=some (.int k m))(hy:ae env y=some (.int k q))(h:Bm op k m q F K):
  F\/∃av,bn P C H env (.binOp op tx x y ty) av/\K av:=by
 unfold Bm at h;split at h
 ·rename_i av ho;exact .inr ⟨av,gD hx hy ho,h⟩
 ·exact .inl h
theorem Jg {k:IntKind}{m q:Int}(hx:ae env x=some (.int k m))(hy:ae env y=some (.int k q))(hq:0<q):bn P C H env (.binOp .rem tx x y ty) (.int k (m.tmod q)):=by
 intro R ρ w _hm hf dst t p af g;refine⟨_,?_,am.2 rfl⟩;simp only[execOp,am.1 (hf _ _ hx),am.1 (hf _ _ hy),Go.binOp,eqGuard,Op.intDiv,ne_eq,not_true_eq_false,if_false];rw[if_neg (show ¬q=0 by omega)];rfl
theorem Fc {op:BinOp}{k:IntKind}{m q:Int}(hx:ae env x=some (.int k m))(hy:ae env y=some (.int k q))(h:BV op k m q y F K):
  F\/∃av,bn P C H env (.binOp op tx x y ty) av/\K av:=by
 unfold BV at h;generalize hb:dq k=bd at h;obtain⟨lo,hi⟩:=bd;dsimp only at h;split at h
 ·rcases h with h|h
  ·exact .inr ⟨_,gD hx hy (by rw[gK,eJ (fg hb h.1)]),h.2⟩
  ·exact .inr ⟨_,gD hx hy rfl,h⟩
 ·rcases h with h|h
  ·exact .inr ⟨_,gD hx hy (by rw[gK,eJ (fg hb h.1)]),h.2⟩
  ·exact .inr ⟨_,gD hx hy rfl,h⟩
 ·rcases h with h|h
  ·exact .inr ⟨_,gD hx hy (by rw[gK,eJ (fg hb h.1)]),h.2⟩
  ·exact .inr ⟨_,gD hx hy rfl,h⟩
 ·refine .inr ⟨_,LT hx hy h.1.1 h.1.2.1 (fg hb ⟨?_,h.1.2.2⟩),h.2⟩;have h0:=h.1.1;cases k<;>simp only[dq,Prod.mk.injEq] at hb<;>omega
 ·rcases h with h|h
  ·exact .inr ⟨_,LS hx hy h.1.1 h.1.2,h.2⟩
  ·exact .inr ⟨_,Jg hx hy h.1,h.2⟩
 ·rcases h with h|h
  rotate_left
  ·exact nx hx hy h
  obtain⟨⟨h0,h1,h2,h3⟩,hk⟩:=h;have hw:eh k (m+q):=fg hb ⟨by cases k<;>simp only[dq,Prod.mk.injEq] at hb<;>omega,h2⟩;rcases h3 with h3|h3|h3|h3|h3
  ·exact .inr ⟨_,iX 4 rfl hx hy h0 h3.1 h1 h3.2 hw,hk⟩
  ·exact .inr ⟨_,iX 6 rfl hx hy h0 h3.1 h1 h3.2 hw,hk⟩
  ·exact .inr ⟨_,iX 8 rfl hx hy h0 h3.1 h1 h3.2 hw,hk⟩
  ·exact .inr ⟨_,iX 12 rfl hx hy h0 h3.1 h1 h3.2 hw,hk⟩
  ·exact .inr ⟨_,iX 18 rfl hx hy h0 h3.1 h1 h3.2 hw,hk⟩
 ·split at h
  ·rename_i j c;split at h
   ·rename_i e c' he;split at h
    ·rename_i hbit;rcases h with h|h
     rotate_left
     ·exact nx hx hy h
     obtain⟨rfl,hp⟩:=G2 he;simp only[ae,CK,Option.some.injEq,AVal.int.injEq] at hy;refine .inr ⟨_,Jk hx hy.1 h.1.1 (fg hb ⟨?_,h.1.2⟩) hbit hp,h.2⟩;have h0:=h.1.1;cases k<;>simp only[dq,Prod.mk.injEq] at hb<;>omega
    ·exact .inl h
   ·exact nx hx hy h
  ·rcases h with h|h
   rotate_left
   ·exact nx hx hy h
   obtain⟨⟨h0,h1,h2,h3⟩,hk⟩:=h;have hm:eh k m:=fg hb ⟨by cases k<;>simp only[dq,Prod.mk.injEq] at hb<;>omega,h2⟩;have hq:eh k q:=fg hb ⟨by cases k<;>simp only[dq,Prod.mk.injEq] at hb<;>omega,h3⟩;refine .inr ⟨_,gD hx hy ?_,hk⟩;rw[gK,wH (λ_ a c=>a&&& c) (· &&& ·) (λa c=>by simp) (λa c e h1 h2=>Nat.and_lt_two_pow a h2) h0 h1 hm hq]
 ·split at h
  ·rename_i av hc;refine .inr ⟨av,gD hx hy ?_,h⟩;revert hc
   unfold Ib gK;split<;>simp
  ·exact nx hx hy h
theorem DO {op:BinOp}{k:IntKind}{m:Int}(hx:ae env x=some (.int k m))(h:Ay op k m y F K):
  F\/∃av,bn P C H env (.binOp op tx x y ty) av/\K av:=by
 unfold Ay at h;split at h
 ·split at h
  ·rename_i c hc;split at h
   ·rename_i hb;generalize hbd:dq k=bd at h;obtain⟨lo,hi⟩:=bd;dsimp only at h;split at h
    ·rcases h with h|h
     ·exact .inr ⟨_,LR hx hb hc (fg hbd h.1),h.2⟩
     ·exact .inr ⟨_,xL hx hb hc,h⟩
    ·exact .inr ⟨_,LQ hx hb hc,h⟩
    ·exact .inl h
   ·exact .inl h
  ·exact .inl h
 ·exact .inl h
theorem Kj {op:BinOp}(h:M3 P env op tx x y F K):F\/∃av,bn P C H env (.binOp op tx x y ty) av/\K av:=by
 unfold M3 at h;split at h
 ·rename_i k m hx;split at h
  ·exact DO hx h
  ·split at h
   ·rename_i j q hy;split at h
    ·rename_i hk;have:=rv hk;subst this;exact Fc hx hy h
    ·exact .inl h
   ·exact .inl h
 ·rename_i s hx;split at h
  ·rename_i t hy;split at h
   ·exact .inr ⟨_,LY hx hy h.1,h.2⟩
   ·split at h
    ·rename_i av hs;exact .inr ⟨av,LP hx hy hs,h⟩
    ·exact .inl h
  ·exact .inl h
 ·rename_i a hx;split at h
  ·rename_i c hy;split at h
   ·rename_i xT ht;split at h
    ·rename_i hd;exact .inr ⟨_,LZ hx hy (by rw[aU ht,hd]),h⟩
    ·exact .inl h
   ·exact .inl h
  ·exact .inl h
 ·rename_i a _ _ _ hx;split at h
  ·rename_i z;split at h
   ·rename_i xT ht;split at h
    ·rename_i c z' h1 h2;split at h
     ·obtain⟨rfl,h⟩:=h;exact .inr ⟨_,DW hx ht h1 h2,h⟩
     ·obtain⟨rfl,h⟩:=h;exact .inr ⟨_,DV hx ht h1 h2,h⟩
     ·exact .inl h
    ·exact .inl h
   ·exact .inl h
  ·exact .inl h
 ·exact .inl h
def zX (P:Program)(C:Ctx)(H:Heap)(env:Env)(op:Op)(F:Prop)(K:AVal->Prop):Prop:=F\/∃av,bn P C H env op av/\K av
theorem cA {α:Type}{a:Array α}{l:List α}(h:a.toList=l):a=l.toArray:=by rw[<-h]
theorem JJ (h:Mg P env H T x F K):zX P C H env (.call {callee:=.builtin .len,args:=[x].toArray,argTypes:=[T].toArray}) F K:=by
 unfold Mg at h;split at h
 ·rename_i xT ht;split at h
  ·rename_i m hx hd;exact .inr ⟨_,AD hx ht hd,h⟩
  ·rename_i m f e hx hd;exact .inr ⟨_,xU hx ht hd,h⟩
  ·rename_i m cap e hx hd;exact .inr ⟨_,qD hx ht hd,h⟩
  ·rename_i i v e hx hd;obtain⟨s,rfl,hs⟩:=jG hx;split at h
   ·rename_i v' sz m cs hi;obtain⟨rfl,h⟩:=h;exact .inr ⟨_,dt hs (AE (by simp only[ae];exact fe) hi ht hd),h⟩
   ·split at h
    ·exact .inr ⟨_,dt hs (qD (by simp only[ae];exact fe) ht hd),h⟩
    ·exact .inl h
  ·exact .inl h
 ·exact .inl h
theorem rj {mx:Bool}{ts:Array TypeId}(h:pW env mx x y F K):zX P C H env (.call {callee:=.builtin (if mx then .max else .min),args:=[x,y].toArray,argTypes:=ts}) F K:=by
 unfold pW at h;split at h
 ·rename_i k m j q hx hy;split at h
  ·rename_i hk;have:=rv hk;subst this;exact .inr ⟨_,LW hx hy,h⟩
  ·rename_i hk;have:=rv hk;subst this;exact .inr ⟨_,LX hx hy,h⟩
  ·exact .inl h
 ·exact .inl h
theorem E7 {b:Builtin}{args:Array Operand}{ts:Array TypeId}(h:BQ P env H b args.toList ts.toList F K):zX P C H env (.call {callee:=.builtin b,args:=args,argTypes:=ts}) F K:=by
 unfold BQ at h;split at h
 ·rename_i h1 h2;rw[cA h1,cA h2];exact JJ h
 ·rename_i h1;rw[cA h1];exact rj (mx:=false) h
 ·rename_i h1;rw[cA h1];exact rj (mx:=true) h
 ·exact .inl h
theorem eb {K:Int->Prop}(h:oF env x F K):F\/∃k i,ae env x=some (.int k i)/\K i:=by
 unfold oF at h;split at h
 ·rename_i k i hx;exact .inr ⟨k,i,hx,h⟩
 ·exact .inl h
theorem si {m:Nat}{lo hi:Option Operand}{K0:Prop}{Kf Kt:Nat->Prop}{K:Nat->Nat->Prop}(h:qa env m lo hi F K0 Kf Kt K):
  F\/∃i j,eI env 0 lo=some i/\eI env (m:Int) hi=some j/\0<=i/\i<=j/\j<=m/\
   ((lo=none/\hi=none/\i=0/\j=m/\K0)\/(hi=none/\j=m/\Kf i.toNat)\/(lo=none/\i=0/\Kt j.toNat)\/K i.toNat j.toNat):=by
 unfold qa at h;split at h
 ·exact .inr ⟨0,m,rfl,rfl,Int.le_refl _,by omega,Int.le_refl _,.inl ⟨rfl,rfl,rfl,rfl,h⟩⟩
 ·rcases eb h with h|⟨k,i,hx,h,h'⟩
  ·exact .inl h
  ·exact .inr ⟨i,m,by simp only[eI,hx],rfl,h.1,h.2,Int.le_refl _,.inr (.inl ⟨rfl,rfl,h'⟩)⟩
 ·rcases eb h with h|⟨k,j,hx,h,h'⟩
  ·exact .inl h
  ·exact .inr ⟨0,j,rfl,by simp only[eI,hx],Int.le_refl _,h.1,h.2,.inr (.inr (.inl ⟨rfl,rfl,h'⟩))⟩
 ·rcases eb h with h|⟨k,i,hx,h⟩
  ·exact .inl h
  ·rcases eb h with h|⟨k',j,hy,h,h'⟩
   ·exact .inl h
   ·exact .inr ⟨i,j,by simp only[eI,hx],by simp only[eI,hy],h.1,h.2.1,h.2.2,.inr (.inr (.inr h'))⟩
theorem DL {lo hi mx:Option Operand}(h:Aw P env T x lo hi mx F K):zX P C H env (.slice T x lo hi mx) F K:=by
 unfold Aw at h;split at h
 ·exact .inl h
 ·split at h
  ·rename_i xT ht;split at h
   ·rename_i m hx hd;rcases si h with h|⟨i,j,h1,h2,h3,h4,h5,h6⟩
    ·exact .inl h
    ·have hr:=vl (P:=P) (C:=C) (H:=H) hx ht hd h1 h2 h3 h4 h5;rcases h6 with⟨_,_,rfl,rfl,h6⟩|⟨_,rfl,h6⟩|⟨_,rfl,h6⟩|h6
     ·simp only[Int.toNat_natCast,List.take_length,Int.toNat_zero,List.drop_zero] at hr;exact .inr ⟨_,hr,h6⟩
     ·simp only[Int.toNat_natCast,List.take_length] at hr;exact .inr ⟨_,hr,h6⟩
     ·simp only[Int.toNat_zero,List.drop_zero] at hr;exact .inr ⟨_,hr,h6⟩
     ·exact .inr ⟨_,hr,h6⟩
   ·rename_i sz m f e hx hd;split at h
    ·rename_i xe he;split at h
     ·rename_i hs;rcases si h with h|⟨i,j,h1,h2,h3,h4,h5,h6⟩
      ·exact .inl h
      ·have hr:=sI (P:=P) (C:=C) (H:=H) hx ht hd he (Nat.eq_of_beq_eq_true hs) h1 h2 h3 h4 h5;rcases h6 with⟨_,_,rfl,rfl,h6⟩|⟨_,rfl,h6⟩|⟨_,rfl,h6⟩|h6
       ·simp only[Int.toNat_natCast,Int.toNat_zero,Nat.sub_zero,Nat.zero_add] at hr;exact .inr ⟨_,hr,h6⟩
       ·simp only[Int.toNat_natCast] at hr;exact .inr ⟨_,hr,h6⟩
       ·simp only[Int.toNat_zero,Nat.sub_zero,Nat.zero_add] at hr;exact .inr ⟨_,hr,h6⟩
       ·exact .inr ⟨_,hr,h6⟩
     ·exact .inl h
    ·exact .inl h
   ·exact .inl h
  ·exact .inl h
theorem EI (h:Bi P env T x y F K):zX P C H env (.index T x y) F K:=by
 unfold Bi at h;split at h
 ·rename_i xT ht;split at h
  ·rename_i m hx hd;rcases eb h with h|⟨k,i,hy,h,h'⟩
   ·exact .inl h
   ·exact .inr ⟨_,vq hx hy ht hd h.1 h.2,h'.h (bG _ _)⟩
  ·exact .inl h
 ·exact .inl h
theorem nK {ag:Bool}{sz:Nat}{cs:List AVal}{o:Nat}(h:zw ag sz cs o F K):
  F\/(ag=true/\o+sz<=cs.length/\K (.agg ((cs.drop o).take sz)))\/(ag=false/\∃av,cs[o]? =some av/\av.isAgg=false/\K av):=by
 unfold zw at h;split at h
 ·split at h
  ·rename_i hb;rw[cz] at h;exact .inr (.inl ⟨rfl,Nat.le_of_ble_eq_true hb,h⟩)
  ·exact .inl h
 ·split at h
  ·rename_i av hc;split at h
   ·rename_i ha;exact .inr (.inr ⟨rfl,av,hc,ha,h⟩)
   ·exact .inl h
  ·exact .inl h
theorem xR {i b o cap:Nat}{s:List UInt8}(hx:ae env x=some (.raw (.pointer (some ⟨b,o,none⟩))))(hi:H[i]? =some (.buf b s cap))(ht:aS P T=some xT)(ha:bL xT.desc=false)(ho:o<s.length):
  bn P C H env (.load T x) (.int .u8 (aa s o:Int)):=by
 intro R ρ w hm hf dst t p af g;obtain⟨_,Cs,el,fz,hb,hl,_⟩:=hm.heap.holds _ (List.mem_of_getElem? hi);obtain⟨v,hv,hr⟩:=dv hl (GH (cap:=cap) ho);refine⟨v,?_,cC hr rfl⟩;have hcell:w.cell? ⟨b,o,none⟩=some v:=by simp only[World.cell?,hb];simpa using hv
 simp only[execOp,al.1 (hf _ _ hx),Instr.loadAt,Instr.sureAddr,Sem.run_bind,Sem.run_pure,Result.andThen_ok,eP ht ha hcell]
theorem om {g:Nat}{cs:List AVal}(hG:Dt C.G g cs)(ht:aS P T=some xT)(ha:bL xT.desc=true)(hc:0+xT.size<=cs.length):
  bn P C H env (.load T (.global g)) (.agg ((cs.drop 0).take xT.size)):=by
 intro R ρ w hm hf dst t p af g';have hr:=al.1 (hf (.global g) _ rfl);obtain⟨Cs,el,fz,hR,hl⟩:=hG R hm.glo;have hlen:=ay hl;simp only[List.length_take,List.length_drop,Array.length_toList] at hlen;refine⟨.agg ((Cs.toList.drop 0).take xT.size).toArray,?_,?_,rfl⟩
 ·simp only[execOp,hr,Instr.loadAt,Instr.sureAddr,Sem.run_bind,Sem.run_pure,Result.andThen_ok];by_cases hz:xT.size=0
  ·simp only[loadVar,Sem.run_bind,cG ht,ha,if_true,aB ht,loadCells,hz,loadCellsFrom,Result.andThen_ok];simp
  ·rw[jd ht ha (hm.sealed _ _ hR) (by omega)];simp only[Result.andThen_ok]
 ·have:=bP xT.size (bV 0 hl);simp only[Value.cells,aV];rw[List.drop_zero] at this ⊢;simp only[List.drop_zero] at this ⊢;rw[List.take_take,Nat.min_eq_left (by omega)] at this;simpa using this
theorem G8 {GL:List (Nat×List AVal)}(hGL:ab C.G GL)(h:yP P GL env H T x F K):zX P C H env (.load T x) F K:=by
 unfold yP at h;split at h
 ·rename_i xT ht;split at h
  ·rename_i g;split at h
   ·rename_i cs hg;rcases nK h with h|⟨ha,hc,h⟩|⟨ha,av,hc,hav,h⟩
    ·exact .inl h
    ·exact .inr ⟨_,om (hGL _ _ hg) ht ha hc,h⟩
    ·exact .inr ⟨_,vo (hGL _ _ hg) ht ha hc hav,h⟩
   ·exact .inl h
  ·split at h
   ·rename_i cs off hx;rcases nK h with h|⟨ha,hc,h⟩|⟨ha,av,hc,hav,h⟩
    ·exact .inl h
    ·exact .inr ⟨_,pz hx ht ha hc,h⟩
    ·exact .inr ⟨_,xP hx ht ha hc hav,h⟩
   ·rename_i i b o hx;obtain⟨s,rfl,hs⟩:=jG hx;split at h
    ·rename_i b' cs hi;obtain⟨rfl,h⟩:=h;rcases nK h with h|⟨ha,hc,h⟩|⟨ha,av,hc,hav,h⟩
     ·exact .inl h
     ·exact .inr ⟨_,dt hs (pA (by simp only[ae];exact fe) hi ht ha hc),h⟩
     ·exact .inr ⟨_,dt hs (xQ (by simp only[ae];exact fe) hi ht ha hc hav),h⟩
    ·rename_i b' s' cap hi;split at h
     ·rename_i ha;obtain⟨⟨rfl,ho⟩,h⟩:=h;exact .inr ⟨_,dt hs (xR (by simp only[ae];exact fe) hi ht ha ho),h.h (bG _ _)⟩
     ·exact .inl h
    ·rename_i v' _ sz n0 cs hi;split at h
     ·rename_i ha;obtain⟨⟨hr,ho⟩,⟨a,hc,hav,k⟩⟩:=h;exact .inr ⟨_,dt hs (xO (by simp only[ae];exact fe) hi hr ho ht ha hc hav),k⟩
     ·rename_i ha;obtain⟨⟨hr,ho,h0⟩,⟨c,hc,k⟩⟩:=h;exact .inr ⟨_,dt hs (py (by simp only[ae];exact fe) hi hr ho h0 ht ha hc),k⟩
    ·exact .inl h
   ·exact .inl h
 ·exact .inl h
theorem sZ {k:Nat}(h:gO P env T x k F K):zX P C H env (.fieldAddr T x k) F K:=by
 unfold gO at h;split at h
 ·rename_i xT ht;split at h
  ·rename_i fs hd;split at h
   ·rename_i f hf;split at h
    ·rename_i xf hxf;split at h
     ·rename_i hb;split at h
      ·rename_i cs off hx;exact .inr ⟨_,oq hx ht hd hf hxf hb,h⟩
      ·rename_i i b o hx;obtain⟨s,rfl,hs⟩:=jG hx;refine .inr ⟨_,?_,h⟩;have:=ot (P:=P) (C:=C) (H:=H) (env:=(s,.raw (.pointer (some ⟨b,o,none⟩)))::env) (x:=.tmp s) (by simp only[ae];exact fe) ht hd hf hxf hb;intro R ρ w hm hr dst t p af g;obtain⟨v,h1,h2⟩:=dt hs this R ρ w hm hr dst t p af g;exact⟨v,h1,aQ.2 ⟨al.1 h2,rfl⟩⟩
      ·exact .inl h
     ·exact .inl h
    ·exact .inl h
   ·exact .inl h
  ·exact .inl h
 ·exact .inl h
theorem zo {a:AVal}(h:HP a F K):F\/(a.plain=true/\K (.rop a.cells 0)):=by
 unfold HP at h;split at h
 ·rw[cz] at h;exact .inr ⟨rfl,h⟩
 ·exact .inl h
 ·rename_i h1 h2;refine .inr ⟨?_,?_⟩
  ·cases a<;>first|rfl|skip
   rename_i v;cases v<;>first|rfl|(exact absurd rfl (h2 _))
  ·cases a<;>first|exact h|(exact absurd rfl (h1 _))
theorem fD {op:Op}{i:Nat}{v:Value}(hv:cm v=false)(h:bn P C H env op (.raw v)):bn P C H env op (.own i v):=by
 intro R ρ w hm hr dst t p af g;obtain⟨u,h1,h2⟩:=h R ρ w hm hr dst t p af g;have:=al.1 h2;subst this;exact⟨_,h1,aQ.2 ⟨rfl,hv⟩⟩
theorem on {len off:Nat}{e:TypeId}{xe:TI}{cs:List AVal}{k:IntKind}{i:Int}(hx:ae env x=some (.rop cs off))(hy:ae env y=some (.int k i))(h1:aS P T=some xT)(h2:xT.desc= .array len e)(h3:aS P e=some xe)
  (hi0:0<=i) (hi:i<len):bn P C H env (.indexAddr T x y) (.rop cs (off+i.toNat*xe.size)):=by
 intro R ρ w hm hf dst t p af g;obtain⟨bl,o,e1,ho,hs⟩:=eA (hf _ _ hx);refine⟨.pointer (some ⟨bl,o+i.toNat*xe.size,none⟩),?_,eo (by omega) (by rw[Nat.add_sub_add_right];exact hs)⟩;simp only[execOp,e1,am.1 (hf _ _ hy),Instr.indexAt,asIntOf,Sem.run_bind,Sem.run_pure,Result.andThen_ok,ak h1,h2,Instr.sureAddr];rw[if_pos (show 0<=i/\i<(len:Int) from⟨hi0,hi⟩)];simp only[Sem.run_bind,aB h3,Result.andThen_ok,Sem.run_pure,Addr.add];by_cases h0:i.toNat*xe.size=0
 ·simp[h0]
 ·simp[h0]
theorem sX {GL:List (Nat×List AVal)}(hGL:ab C.G GL)(h:eD P GL env T x y F K):zX P C H env (.indexAddr T x y) F K:=by
 unfold eD at h;split at h
 ·rename_i xT ht;split at h
  ·rename_i e hd;split at h
   ·rename_i xe he;split at h
    ·rename_i sz m f hx;split at h
     ·rename_i hs;rcases eb h with h|⟨k,i,hy,h,h'⟩
      ·exact .inl h
      ·rcases zo h' with h'|⟨hp,h'⟩
       ·exact .inl h'
       ·exact .inr ⟨_,sJ hx hy ht hd he (Nat.eq_of_beq_eq_true hs) h.1 h.2 hp,h'⟩
     ·exact .inl h
    ·rename_i i b m cap hx;obtain⟨s,rfl,hs⟩:=jG hx;split at h
     ·rename_i h1;rcases eb h with h|⟨k,j,hy,h,h'⟩
      ·exact .inl h
      ·obtain⟨j,rfl⟩:=Int.eq_ofNat_of_zero_le h.1;simp only[Int.toNat_natCast] at h';refine .inr ⟨_,fD rfl ?_,h'⟩;intro R ρ w hm hf dst t p af g;have hv:=(aQ.1 (hf (.tmp s) _ hx)).1;refine⟨_,?_,al.2 rfl⟩;have hj:j<m:=by have:=h.2;omega
       have h4:=Nat.eq_of_beq_eq_true h1;simp only[execOp,hv,am.1 (hf _ _ hy),Instr.indexAt,asIntOf,Sem.run_bind,Sem.run_pure,Result.andThen_ok,ak ht,hd];rw[if_pos (show 0<=(j:Int)/\(j:Int)<(m:Int) from⟨by omega,by omega⟩)];simp only[Sem.run_bind,aB he,h4,Result.andThen_ok,Sem.run_pure,Addr.add,Int.toNat_natCast,Nat.mul_one];by_cases h0:j=0
       ·subst h0;simp
       ·simp[h0]
     ·rcases eb h with h|⟨k,j,hy,h,h'⟩
      ·exact .inl h
      ·obtain⟨j,rfl⟩:=Int.eq_ofNat_of_zero_le h.1;simp only[Int.toNat_natCast] at h';refine .inr ⟨_,fD rfl ?_,h'⟩;intro R ρ w hm hf dst t p af g;have hv:=(aQ.1 (hf (.tmp s) _ hx)).1;refine⟨_,?_,al.2 rfl⟩;have hj:j<m:=by have:=h.2;omega
       simp only[execOp,hv,am.1 (hf _ _ hy),Instr.indexAt,asIntOf,Sem.run_bind,Sem.run_pure,Result.andThen_ok,ak ht,hd];rw[if_pos (show 0<=(j:Int)/\(j:Int)<(m:Int) from⟨by omega,by omega⟩)];simp only[Sem.run_bind,aB he,Result.andThen_ok,Sem.run_pure,Addr.add,Int.toNat_natCast];by_cases h0:j*xe.size=0
       ·rw[h0];simp
       ·simp[h0]
    ·exact .inl h
   ·exact .inl h
  ·rename_i len e hd;split at h
   ·rename_i xe he;split at h
    ·rename_i g;split at h
     ·rename_i cs hg;rcases eb h with h|⟨k,i,hy,h,h'⟩
      ·exact .inl h
      ·exact .inr ⟨_,m7 (hGL _ _ hg) hy ht hd he h.1 h.2,h'⟩
     ·exact .inl h
    ·split at h
     ·rename_i i b o hx;obtain⟨s,rfl,hs⟩:=jG hx;rcases eb h with h|⟨k,j,hy,h,h'⟩
      ·exact .inl h
      ·refine .inr ⟨_,fD rfl (dt hs (oo (k:=k) (by simp only[ae];exact fe) ?_ ht hd he h.1 h.2)),h'⟩;cases y with
       |tmp u=>
        simp only[ae,Env.get] at hy ⊢;split
        ·rename_i hb;have:=Nat.eq_of_beq_eq_true hb;subst this;rw[hs] at hy;cases hy
        ·exact hy
       |const c=>rw[dB] at hy ⊢;exact hy
       |global g=>exact hy
       |func f=>exact hy
     ·rename_i cs off hx;rcases eb h with h|⟨k,i,hy,h,h'⟩
      ·exact .inl h
      ·exact .inr ⟨_,on hx hy ht hd he h.1 h.2,h'⟩
     ·exact .inl h
   ·exact .inl h
  ·exact .inl h
 ·exact .inl h
theorem ER {k:Nat}(h:By P env T x k F K):zX P C H env (.field T x k) F K:=by
 unfold By at h;split at h
 ·rename_i xT ht;split at h
  ·rename_i fs hd;split at h
   ·rename_i f hf;split at h
    ·rename_i xf hxf;split at h
     ·rename_i cs hx;split at h
      ·rename_i ha;rw[cz] at h;exact .inr ⟨_,vr hx ht hd hf hxf ha,h⟩
      ·rename_i ha;split at h
       ·rename_i av hc;split at h
        ·rename_i hav;exact .inr ⟨_,Ge hx ht hd hf hxf ha hc hav,h⟩
        ·exact .inl h
       ·exact .inl h
     ·exact .inl h
    ·exact .inl h
   ·exact .inl h
  ·exact .inl h
 ·exact .inl h
theorem vU (h:lu env x F K):zX P C H env (.nilCheck x) F K:=by
 unfold lu at h;split at h
 ·rename_i cs off hx;exact .inr ⟨_,pw hx,h⟩
 ·rename_i i a hx;obtain⟨s,rfl,hs⟩:=jG hx;exact .inr ⟨_,fD rfl (dt hs (px (by simp only[ae];exact fe))),h⟩
 ·exact .inl h
theorem AC {i b cap:Nat}{s:List UInt8}{S e:TypeId}{xS xe:TI}(hx:ae env x=some (.raw (.slice (some ⟨b,0,none⟩) s.length cap))){c':Nat}(hi:H[i]? =some (.buf b s c'))(h1:aS P S=some xS)(h2:xS.desc= .slice e)
  (h5:aS P e=some xe) (h6:xe.desc= .int .u8) (h3:aS P T=some xT) (h4:xT.desc= .string):bn P C H env (.convert S T x) (.str s):=by
 intro R ρ w hm hf dst t p af g;obtain⟨_,Cs,el,fz,hb,hl,_⟩:=hm.heap.holds _ (List.mem_of_getElem? hi);refine⟨_,?_,aF.2 rfl⟩;have hl':=bP s.length hl;rw[Eo] at hl';simp only[execOp,al.1 (hf _ _ hx),Sem.run_bind,sd h1 h2 h5 h6 h3 h4 (sc (o:=0) hb (by simpa using hl')),Result.andThen_ok,Sem.run_pure]
theorem H7 {S:TypeId}(h:H8 P env H S T x F K):zX P C H env (.convert S T x) F K:=by
 unfold H8 at h;split at h
 ·rename_i xS xT hS hT;split at h
  ·rename_i k m hx;split at h
   ·rename_i j hd;generalize hb:dq j=bd at h;obtain⟨lo,hi⟩:=bd;rcases h with h|h
    ·exact .inr ⟨_,xW hx hS hT hd (fg hb h.1),h.2⟩
    ·exact .inr ⟨_,vu hx hS hT hd,h⟩
   ·exact .inl h
  ·rename_i i b m cap hx;obtain⟨s,rfl,hs⟩:=jG hx;split at h
   ·rename_i e hd1 hd2;split at h
    ·rename_i xe he;split at h
     ·rename_i hu;split at h
      ·rename_i b' s' cap' hi;obtain⟨⟨rfl,rfl⟩,h⟩:=h;exact .inr ⟨_,dt hs (AC (by simp only[ae];exact fe) hi hS hd1 he hu hT hd2),h⟩
      ·exact .inl h
     ·exact .inl h
    ·exact .inl h
   ·exact .inl h
  ·exact .inl h
 ·exact .inl h
theorem Fa {l:Array (Nat×Operand)}(h:oQ P env T l.toList F K):zX P C H env (.build T l) F K:=by
 unfold oQ at h;split at h
 ·rename_i xT ht;split at h
  ·rename_i fs hd;split at h
   ·rename_i ps pl z h1 h2 h3;split at h
    ·rename_i cs h4;rw[cz] at h;have:=Gg (P:=P) (C:=C) (H:=H) (l:=l.toList) h1 ht (by simpa using hd) h2 h3 h4;exact .inr ⟨_,by simpa using this,h⟩
    ·exact .inl h
   ·exact .inl h
  ·rename_i m e hd;split at h
   ·rename_i ps xe z h1 h2 h3;split at h
    ·rename_i cs h4;rw[cz] at h;have:=vw (P:=P) (C:=C) (H:=H) (l:=l.toList) h1 ht hd h2 h3 h4;exact .inr ⟨_,by simpa using this,h⟩
    ·exact .inl h
   ·exact .inl h
  ·exact .inl h
 ·exact .inl h
theorem EJ (h:oH P env T x F K):zX P C H env (.makeInterface T x) F K:=by
 unfold oH at h;split at h
 ·rename_i xT v ht hx;split at h
  ·rename_i hd;exact .inr ⟨_,vm hx ht hd,h⟩
  ·exact .inl h
 ·exact .inl h
theorem B1 {S:TypeId}{ok:Bool}(h:wK P env x S T ok F K):zX P C H env (.typeAssert x S T ok) F K:=by
 unfold wK at h;split at h
 ·rename_i xT ht;split at h
  ·rename_i ty v hx;split at h
   ·rename_i hd hb;exact .inr ⟨_,sL hx ht hd (Nat.eq_of_beq_eq_true hb),h⟩
   ·rename_i hd hb;split at h
    ·rename_i z hz;exact .inr ⟨_,qE hx ht hd hb hz,h⟩
    ·exact .inl h
   ·rcases h with⟨h,k⟩|⟨h,k⟩
    ·refine .inr ⟨_,?_,k⟩;intro R ρ w hm hf dst t p af g;obtain⟨⟨u,e,h3,h4⟩,_⟩:=hf _ _ hx;have hr:=hf _ _ hx;have e':ρ x= .iface ty u:=by
      obtain⟨u',e',h3',h4'⟩:=aR hr rfl;simp only[List.cons.injEq,and_true] at e';rw[e'] at e;simp[Value.cells] at e;rw[e',e]
     rw[e'] at hr;refine⟨.tuple #[.iface ty u,.bool true],?_,⟨⟨_,rfl,_,_,rfl,⟨hr.1,hr.2⟩,_,_,rfl,⟨rfl,rfl⟩,rfl⟩,rfl⟩⟩;simp only[execOp,e',Sem.run_bind,h u w,Result.andThen_ok,Sem.run_pure]
    ·refine .inr ⟨_,?_,k⟩;intro R ρ w hm hf dst t p af g;obtain⟨u',e',h3',h4'⟩:=aR (hf _ _ hx) rfl;simp only[List.cons.injEq,and_true] at e';refine⟨.tuple #[.nilIface,.bool false],?_,⟨⟨_,rfl,_,_,rfl,⟨rfl,rfl⟩,_,_,rfl,⟨rfl,rfl⟩,rfl⟩,rfl⟩⟩;simp only[execOp,e',Sem.run_bind,h u' w,Result.andThen_ok,Sem.run_pure]
  ·rename_i hx;split at h
   ·rename_i z hz;exact .inr ⟨_,sK hx ht hz,h⟩
   ·exact .inl h
  ·exact .inl h
 ·exact .inl h
theorem pR {GL:List (Nat×List AVal)}(hGL:ab C.G GL){op:Op}(h:xd P GL env H op F K):zX P C H env op F K:=by
 unfold xd at h;split at h
 ·split at h
  ·rename_i av hx;exact .inr ⟨_,Jj hx,h⟩
  ·exact .inl h
 ·split at h
  ·rename_i av hx;exact .inr ⟨_,DX hx,h⟩
  ·exact .inl h
 ·split at h
  ·rename_i b a a' hc hx hy;refine .inr ⟨_,Ji hc hx hy,?_⟩;cases b
   ·exact h.2 rfl
   ·exact h.1 rfl
  ·exact .inl h
 ·exact Kj h
 ·split at h
  ·rename_i b hx;exact .inr ⟨_,LU hx,h⟩
  ·exact .inl h
 ·split at h
  ·rename_i k m hx;generalize hb:dq k=bd at h;obtain⟨lo,hi⟩:=bd;exact .inr ⟨_,LV hx (fg hb h.1),h.2⟩
  ·exact .inl h
 ·exact E7 h
 ·split at h
  ·rename_i cs hx;split at h
   ·rename_i av hi;exact .inr ⟨_,AF hx hi,h⟩
   ·exact .inl h
  ·exact .inl h
 ·exact EI h
 ·exact DL h
 ·exact G8 hGL h
 ·exact sZ h
 ·exact ER h
 ·exact sX hGL h
 ·exact vU h
 ·exact H7 h
 ·exact Fa h
 ·exact EJ h
 ·split at h
  ·rename_i a1 a2 h1 h2;have:=xM (P:=P) (C:=C) (H:=H) (fn:= ‹Fn›) h1 h2;exact .inr ⟨_,by simpa using this,h⟩
  ·exact .inl h
 ·exact B1 h
 ·exact .inl h
end
end
section
open Go
def ue:AVal->AVal->Option Bool
 |.str s,.str t=>some (ca s t)
 |.int k m,.int j q=>match Nat.beq (He k) (He j) with
  |true=>some (cY m q)
  |false=>none
 |.bool true,.bool t=>some t
 |.bool false,.bool t=>some (!t)
 |_,_=>none
def gJ:TypeDesc->AVal->Bool
 |.string,.str _=>true
 |.int _,.int _ _=>true
 |.bool,.bool _=>true
 |_,_=>false
noncomputable def zg (k:AVal)(F:Prop)(hit:Nat->AVal->Prop)(miss:Prop)(l:List (AVal×AVal)):Nat->Prop:=
 List.rec (motive:=λ_=>Nat->Prop) (λ_=>miss) (λa _ ih i=>match ue k a.1 with
  |some b=>Sc b (hit i a.2) (ih (i+1))
  |none=>F) l
noncomputable def CT (k:AVal)(F:Prop)(hit:Nat->AVal->Prop)(miss:Prop)(l:List (AVal×AVal)):Prop:=
 match k with
 |.bool b=>Sc b (zg (.bool true) F hit miss l 0) (zg (.bool false) F hit miss l 0)
 |k=>zg k F hit miss l 0
def gj (k:AVal):List (AVal×AVal)->Nat->Option (Option (Nat×AVal))
 |[],_=>some none
 |a::l,i=>match ue k a.1 with
  |some true=>some (some (i,a.2))
  |some false=>gj k l (i+1)
  |none=>none
def zeroV (z:Option Value):Option AVal:=
 match z with
 |some (.agg cs)=>match bp (some (.agg cs)) with
  |some l=>some (.agg l)
  |none=>none
 |some v=>some (CK v)
 |none=>none
theorem Du {R:Seal}{z:Option Value}{a:AVal}(h:zeroV z=some a):∃v,z=some v/\bD R a v:=by
 unfold zeroV at h;split at h
 ·rename_i cs;split at h
  ·rename_i l hl;cases h;obtain⟨v,hv,hr⟩:=ck (R:=R) hl;cases hv;exact⟨_,rfl,hr,rfl⟩
  ·cases h
 ·cases h;exact⟨_,rfl,pU R _⟩
 ·cases h
theorem nB {k:AVal}{F:Prop}{hit:Nat->AVal->Prop}{miss:Prop}:∀(l:List (AVal×AVal)) (i:Nat),zg k F hit miss l i->F\/(∃j a,gj k l i=some (some (j,a))/\hit j a)\/(gj k l i=some none/\miss)
 |[],i,h=>.inr (.inr ⟨rfl,h⟩)
 |a::l,i,h=>by
  have h:(match ue k a.1 with
   |some b=>Sc b (hit i a.2) (zg k F hit miss l (i+1))
   |none=>F):=h
  have ih:=nB (k:=k) (F:=F) (hit:=hit) (miss:=miss) l (i+1);split at h
  ·rename_i b hb;cases b with
   |true=>exact .inr (.inl ⟨i,a.2,by simp only[gj,hb],h.1 rfl⟩)
   |false=>
    rcases ih (h.2 rfl) with q|⟨j,v,q,w⟩|⟨q,w⟩
    ·exact .inl q
    ·exact .inr (.inl ⟨j,v,by simp only[gj,hb];exact q,w⟩)
    ·exact .inr (.inr ⟨by simp only[gj,hb];exact q,w⟩)
  ·exact .inl h
theorem yO {k:AVal}{F:Prop}{hit:Nat->AVal->Prop}{miss:Prop}{l:List (AVal×AVal)}(h:CT k F hit miss l):F\/(∃j a,gj k l 0=some (some (j,a))/\hit j a)\/(gj k l 0=some none/\miss):=by
 unfold CT at h;split at h
 ·rename_i b;cases b with
  |true=>exact nB l 0 (h.1 rfl)
  |false=>exact nB l 0 (h.2 rfl)
 ·exact nB l 0 h
theorem qC (s t:List UInt8):((⟨s.toArray⟩:ByteArray)==⟨t.toArray⟩)=ca s t:=by
 show((s.toArray:Array UInt8)==t.toArray)=ca s t;unfold ca;rw[Bool.eq_iff_iff,beq_iff_eq,beq_iff_eq];exact⟨λh=>by simpa using congrArg Array.toList h,λh=>by rw[h]⟩
theorem yT {kd:TypeDesc}{s:List UInt8}(h:gJ kd (.str s)=true):kd= .string:=by
 cases kd<;>first|rfl|cases h
theorem yU {kd:TypeDesc}{k:IntKind}{m:Int}(h:gJ kd (.int k m)=true):∃j,kd= .int j:=by
 cases kd<;>first|exact⟨_,rfl⟩|cases h
theorem oE {kd:TypeDesc}{b:Bool}(h:gJ kd (.bool b)=true):kd= .bool:=by
 cases kd<;>first|rfl|cases h
theorem pb {kd:TypeDesc}{k:AVal}(h:gJ kd k=true):(∃s,k= .str s/\kd= .string)\/(∃i m j,k= .int i m/\kd= .int j)\/(∃b,k= .bool b/\kd= .bool):=by
 cases k with
 |str s=>exact .inl ⟨s,rfl,yT h⟩
 |int i m=>obtain⟨j,e⟩:=yU h;exact .inr (.inl ⟨i,m,j,rfl,e⟩)
 |bool b=>exact .inr (.inr ⟨b,rfl,oE h⟩)
 |_=>exfalso;revert h;cases kd<;>exact λh=>by cases h
theorem AB {R:Seal}{kd:TypeDesc}{k a:AVal}{kv ev:Value}{b:Bool}(hk:gJ kd k=true)(h1:bD R k kv)(h2:bD R a ev)(h:ue k a=some b):Instr.sameNow kd kv ev=some b/\(b=true->ev=kv):=by
 unfold ue at h;split at h
 ·cases h;obtain rfl:=aF.1 h1;obtain rfl:=aF.1 h2;obtain rfl:=yT hk;refine⟨by simp only[Instr.sameNow,qC],λe=> ?_⟩;rw[dE.1 e]
 ·rename_i k m j q;split at h
  ·rename_i hkk;cases h;obtain rfl:=rv hkk;obtain rfl:=am.1 h1;obtain rfl:=am.1 h2;obtain⟨j,rfl⟩:=yU hk;refine⟨by unfold cY;simp only[Instr.sameNow,if_true];rfl,λe=> ?_⟩;rw[fh.1 e]
  ·cases h
 ·cases h;obtain rfl:=aN.1 h1;obtain rfl:=aN.1 h2;obtain rfl:=oE hk;refine⟨by cases b<;>rfl,λe=>by rw[e]⟩
 ·rename_i t;cases h;obtain rfl:=aN.1 h1;obtain rfl:=aN.1 h2;obtain rfl:=oE hk;refine⟨by cases t<;>rfl,λe=>by cases t<;>first|rfl|cases e⟩
 ·cases h
theorem gN {R:Seal}{kd:TypeDesc}{k:AVal}{kv:Value}(hk:gJ kd k=true)(h1:bD R k kv):∀{l:List (AVal×AVal)} {E:List MapEntry} (i:Nat),iK R l E->
  (gj k l i=some none->Instr.findNow kd kv E i=some none)/\
  ∀j a,gj k l i=some (some (j,a))->∃p e,i<=j/\l[j-i]? =some p/\p.2=a/\E[j-i]? =some e/\e.key=kv/\bD R a e.val/\Instr.findNow kd kv E i=some (some (j,e.val))
 |[],E,i,hm=>by
  have hm:E=[]:=hm;subst hm;refine⟨λ_=>rfl,λj a h=> ?_⟩;simp[gj] at h
 |q::l,E,i,hm=>by
  obtain⟨e,t,rfl,⟨r1,r2⟩,hm⟩:=hm;have ih:=gN hk h1 (i+1) hm;simp only[gj];cases hb:ue k q.1 with
  |none=>refine⟨λh=> ?_,λj a h=> ?_⟩<;>simp at h
  |some b=>
   obtain⟨hs,hv⟩:=AB hk h1 r1 hb;cases b with
   |true=>
    refine⟨λh=> ?_,λj a h=> ?_⟩
    ·simp at h
    ·simp only[Option.some.injEq,Prod.mk.injEq] at h;obtain⟨rfl,rfl⟩:=h;exact⟨q,e,Nat.le_refl _,by simp,rfl,by simp,hv rfl,r2,by simp only[Instr.findNow,hs]⟩
   |false=>
    refine⟨λh=>by simp only[Instr.findNow,hs];exact ih.1 h,λj a h=> ?_⟩;obtain⟨p,e',hle,h2,h3,h4,h5,h6,h7⟩:=ih.2 j a h;have ej:j-i=(j-(i+1))+1:=by omega
    exact⟨p,e',by omega,by rw[ej,List.getElem?_cons_succ];exact h2,h3,by rw[ej,List.getElem?_cons_succ];exact h4,h5,h6,by simp only[Instr.findNow,hs];exact h7⟩
theorem xz (s:List UInt8):((⟨s.toArray⟩:ByteArray)==⟨s.toArray⟩)=true:=(qC s s).trans (dE.2 rfl)
theorem sH {R:Seal}{kd:TypeDesc}{k:AVal}{kv:Value}(hk:gJ kd k=true)(h1:bD R k kv):Instr.sameBits 10000 kv kv=true:=by
 rcases pb hk with⟨s,rfl,_⟩|⟨i,m,j,rfl,_⟩|⟨b,rfl,_⟩
 ·obtain rfl:=aF.1 h1;simp only[Instr.sameBits,xz]
 ·obtain rfl:=am.1 h1;simp[Instr.sameBits]
 ·obtain rfl:=aN.1 h1;simp[Instr.sameBits]
section
variable {P:Program} [Tab P] {C:Ctx} {n:Nat} {env:Env} {H:Heap} {Q:aK->Env->Heap->Prop} {ops:Array Oper} {rest:List Oper}
variable {d:Nat} {t:TypeId} {p:String} {af:Array Edge} {g:Option (Nat×Bool)} {b:Bool}
variable {x y z:Operand} {T kt et:TypeId} {xT xk xe:TI}
theorem BI {R:Seal}{k:AVal}{kv:Value}(em:Bool)(h:aS P kt=some xk)(hk:gJ xk.desc k=true)(h1:bD R k kv)(w:World)(n:Nat):(Instr.checkKey em (n+1) kt kv).run P w= .ok () w:=by
 rcases pb hk with⟨s,rfl,hd⟩|⟨i,m,j,rfl,hd⟩|⟨b,rfl,hd⟩
 ·obtain rfl:=aF.1 h1;simp only[Instr.checkKey,Sem.run_bind,ak h,hd,Result.andThen_ok,Sem.run_pure]
 ·obtain rfl:=am.1 h1;simp only[Instr.checkKey,Sem.run_bind,ak h,hd,Result.andThen_ok,Sem.run_pure]
 ·obtain rfl:=aN.1 h1;simp only[Instr.checkKey,Sem.run_bind,ak h,hd,Result.andThen_ok,Sem.run_pure]
theorem fi {R:Seal}{k:AVal}{kv:Value}(em:Bool)(h:aS P kt=some xk)(hk:gJ xk.desc k=true)(h1:bD R k kv)(w:World):(Instr.checkKey em 10000 kt kv).run P w= .ok () w:=BI em h hk h1 w 9999
theorem pV {R:Seal}{w:World}{i bl:Nat}{es:List (AVal×AVal)}(hm:MS C R H w)(hi:H[i]? =some (.mp bl es)):∃E cl,w.heap[bl]? =some (.map E cl)/\iK R es E.toList:=hm.heap.holds _ (List.mem_of_getElem? hi)
theorem xN {i0 i bl j:Nat}{es:List (AVal×AVal)}{k a:AVal}(ok:Bool)(hx:ae env x=some (.own i0 (.map (some bl))))(hy:ae env y=some k)(hi:H[i]? =some (.mp bl es))(h1:aS P T=some xT)(h2:xT.desc= .map kt et)(h3:aS P kt=some xk)(h4:gJ xk.desc k=true)(h5:gj k es 0=some (some (j,a))):
  bn P C H env (.lookup T x y ok) (match ok with|true=>.tuple [a,.bool true]|false=>a):=by
 intro R ρ w hm hf dst t p af g;obtain⟨E,cl,hb,hl⟩:=pV hm hi;have hky:=hf _ _ hy;obtain⟨q,e,_,_,_,_,_,hr,hn⟩:=(gN h4 hky 0 hl).2 j a h5;refine⟨if ok then .tuple #[e.val,.bool true] else e.val,?_,?_⟩
 ·simp only[execOp,(aQ.1 (hf _ _ hx)).1,Instr.lookup,Sem.run_bind,ak h1,h2,Result.andThen_ok,bC hb (by simp),Sem.run_pure,fi _ h3 h4 hky,Instr.findKey,ak h3,hn]
 ·cases ok
  ·exact hr
  ·exact⟨⟨_,rfl,_,_,rfl,hr,_,_,rfl,⟨rfl,rfl⟩,rfl⟩,rfl⟩
theorem vn {i0 i bl:Nat}{es:List (AVal×AVal)}{k a:AVal}(ok:Bool)(hx:ae env x=some (.own i0 (.map (some bl))))(hy:ae env y=some k)(hi:H[i]? =some (.mp bl es))(h1:aS P T=some xT)(h2:xT.desc= .map kt et)(h3:aS P kt=some xk)(h4:gJ xk.desc k=true)(h5:gj k es 0=some none)(h6:aS P et=some xe)(h7:zeroV xe.zero=some a):
  bn P C H env (.lookup T x y ok) (match ok with|true=>.tuple [a,.bool false]|false=>a):=by
 intro R ρ w hm hf dst t p af g;obtain⟨E,cl,hb,hl⟩:=pV hm hi;have hky:=hf _ _ hy;have hn:=(gN h4 hky 0 hl).1 h5;obtain⟨v,hv,hr⟩:=Du (R:=R) h7;refine⟨if ok then .tuple #[v,.bool false] else v,?_,?_⟩
 ·simp only[execOp,(aQ.1 (hf _ _ hx)).1,Instr.lookup,Sem.run_bind,ak h1,h2,Result.andThen_ok,bC hb (by simp),Sem.run_pure,fi _ h3 h4 hky,Instr.findKey,ak h3,hn,ci h6 hv]
 ·cases ok
  ·exact hr
  ·exact⟨⟨_,rfl,_,_,rfl,hr,_,_,rfl,⟨rfl,rfl⟩,rfl⟩,rfl⟩
theorem o8 {R:Seal}{a:AVal×AVal}{e:MapEntry}(h1:bD R a.1 e.key)(h2:bD R a.2 e.val):∀{l:List (AVal×AVal)} {E:List MapEntry},iK R l E->iK R (l++[a]) (E++[e])
 |[],E,h=>by
  have h:E=[]:=h;subst h;exact⟨e,[],rfl,⟨h1,h2⟩,rfl⟩
 |q::l,E,h=>by
  obtain⟨e',t,rfl,r,h⟩:=h;exact⟨e',_,rfl,r,o8 h1 h2 h⟩
theorem rm {R:Seal}{a:AVal×AVal}{e:MapEntry}(h1:bD R a.1 e.key)(h2:bD R a.2 e.val):∀{l:List (AVal×AVal)} {E:List MapEntry} (i:Nat),iK R l E->iK R (l.set i a) (E.set i e)
 |[],E,i,h=>by
  have h:E=[]:=h;subst h;exact rfl
 |q::l,E,0,h=>by
  obtain⟨e',t,rfl,r,h⟩:=h;exact⟨e,_,rfl,⟨h1,h2⟩,h⟩
 |q::l,E,i+1,h=>by
  obtain⟨e',t,rfl,r,h⟩:=h;exact⟨e',_,rfl,r,rm h1 h2 i h⟩
theorem jx {w:World}{bl:Nat}{o o':Obj}(h:w.heap[bl]? =some o):iJ w bl o' {w with heap:=w.heap.setIfInBounds bl o'}:=by
 have hlt:=jK h;exact⟨rfl,rfl,rfl,by simp,by simp[hlt],λk hk=>by simp only[];rw[Array.getElem?_setIfInBounds_ne (Ne.symm hk)]⟩
theorem fE {w:World}{bl cl:Nat}{E:Array MapEntry}{o':Obj}(h:w.heap[bl]? =some (.map E cl)):(setObj bl o').run P w= .ok () {w with heap:=w.heap.setIfInBounds bl o'}:=by
 simp only[setObj,Sem.run,h]
theorem Fk {T:TypeId}(hg:aC ops env g=some (b,b))(hdn:Nat.ble (d+1) n=true)
  (h:∀bl:Nat,ap P C n ops rest ((d,.raw (.map (some bl)))::env) (.mp bl []::H) Q):
  ap P C n ops ({dst:=some d,op:=.makeMap T none,type:=t,pos:=p,after:=af,guard:=g}::rest) env H Q:=by
 refine dg (av:=λbl:Nat=>.raw (.map (some bl))) (H':=λbl=>.mp bl []::H) hg rfl hdn (λR ρ w hm hf=> ?_) h
 refine⟨w.heap.size,_,grow w (.map #[] 0),R,?_,Seal.le_refl R,al.2 rfl,hm.alloc _ _ rfl ⟨_,_,dF w _,rfl⟩⟩
 rfl
theorem uS {op:Op}(hop:op= .mapUpdate T x y z\/op= .insert T x y z){i0 i bl:Nat}{es:List (AVal×AVal)}{k a:AVal}(hg:aC ops env g=some (b,b))(hx:ae env x=some (.own i0 (.map (some bl))))(hy:ae env y=some k)(hz:ae env z=some a)(hi:H[i]? =some (.mp bl es))(h1:aS P T=some xT)(h2:xT.desc= .map kt et)(h3:aS P kt=some xk)(h4:gJ xk.desc k=true)
  (h:(∃j v,gj k es 0=some (some (j,v))/\ap P C n ops rest env (H.set i (.mp bl (es.set j (k,a)))) Q)\/(gj k es 0=some none/\ap P C n ops rest env (H.set i (.mp bl (es++[(k,a)]))) Q)):
  ap P C n ops ({dst:=none,op:=op,type:=t,pos:=p,after:=af,guard:=g}::rest) env H Q:=by
 have he:∀ρ:Operand->Value,execOp ρ {dst:=none,op:=op,type:=t,pos:=p,after:=af,guard:=g}=execOp ρ {dst:=none,op:=.mapUpdate T x y z,type:=t,pos:=p,after:=af,guard:=g}:=by
  intro ρ;rcases hop with rfl|rfl<;>rfl
 rcases h with⟨j,v,hj,h⟩|⟨hj,h⟩
 ·refine gT hg rfl (λR ρ w hm hf=> ?_) h;obtain⟨E,cl,hb,hl⟩:=pV hm hi;have hky:=hf _ _ hy;obtain⟨q,e,_,_,_,h5,h6,hr,hn⟩:=(gN h4 hky 0 hl).2 j v hj;have h5:E[j]? =some e:=by simpa using h5
  have hlt:j<E.size:=by
   rcases Nat.lt_or_ge j E.size with h|h
   ·exact h
   ·rw[Array.getElem?_eq_none h] at h5;cases h5
  have ho:=jx (o':=.map (E.modify j λe=>{e with key:=ρ y,val:=ρ z}) cl) hb;refine⟨_,R,?_,Seal.le_refl R,hm.write hi rfl ho rfl ⟨_,_,ho.at_,?_⟩⟩
  ·rw[he];simp only[execOp,(aQ.1 (hf _ _ hx)).1,Instr.mapUpdate,Sem.run_bind,ak h1,h2,Result.andThen_ok,bC hb (by simp),Sem.run_pure,fi _ h3 h4 hky,Instr.findKey,ak h3,hn,h5,Option.map_some,Option.getD_some,h6,Instr.keyThatStays,sH h4 hky,if_true,fE hb]
  ·have e1:(E.modify j λe=>{e with key:=ρ y,val:=ρ z}).toList=E.toList.set j {key:=ρ y,val:=ρ z,born:=e.born}:=by
    rw[Array.toList_modify,List.modify_eq_set];have:E.toList[j]? =some e:=by simpa using h5
    rw[this];rfl
   rw[e1];exact rm (a:=(k,a)) hky (hf _ _ hz) j hl
 ·refine gT hg rfl (λR ρ w hm hf=> ?_) h;obtain⟨E,cl,hb,hl⟩:=pV hm hi;have hky:=hf _ _ hy;have hn:=(gN h4 hky 0 hl).1 hj;have ho:=jx (o':=.map (E.push {key:=ρ y,val:=ρ z,born:=cl}) (cl+1)) hb;refine⟨_,R,?_,Seal.le_refl R,hm.write hi rfl ho rfl ⟨_,_,ho.at_,?_⟩⟩
  ·rw[he];simp only[execOp,(aQ.1 (hf _ _ hx)).1,Instr.mapUpdate,Sem.run_bind,ak h1,h2,Result.andThen_ok,bC hb (by simp),Sem.run_pure,fi _ h3 h4 hky,Instr.findKey,ak h3,hn,fE hb]
  ·rw[Array.toList_push];exact o8 (a:=(k,a)) hky (hf _ _ hz) hl
end
end
section
open Go
structure Nx (pos:Nat) (s:List UInt8) (a b:Prop):Prop where
 more:pos<s.length->a
 done:s.length<=pos->b
theorem bf {pos:Nat}{s:List UInt8}{a b:Prop}(h:pos<s.length->a)(k:s.length<=pos->b):Nx pos s a b:=⟨h,k⟩
mutual
def iO:AVal->AVal
 |.own _ v=>.raw v
 |.tuple cs=>.tuple (fw cs)
 |.iface t v=>.iface t (iO v)
 |.func f a b=>.func f (fw a) (fw b)
 |a=>a
def fw:List AVal->List AVal
 |[]=>[]
 |c::cs=>iO c::fw cs
end
mutual
theorem nX {R:Seal}:∀(a:AVal) (v:Value),bD R a v->bD R (iO a) v
 |.own i x,v,h=>by simp only[iO];exact al.2 (aQ.1 h).1
 |.tuple cs,v,⟨⟨ws,e,h⟩,h2⟩=>by simp only[iO];exact⟨⟨ws,e,fu cs _ h⟩,h2⟩
 |.iface t a,v,⟨⟨w,e,h,k⟩,h2⟩=>by
  simp only[iO];have:=nX a w ⟨h,k⟩;exact⟨⟨w,e,this.1,this.2⟩,h2⟩
 |.func f a b,v,⟨⟨x,y,e,h,k⟩,h2⟩=>by simp only[iO];exact⟨⟨x,y,e,fu a _ h,fu b _ k⟩,h2⟩
 |.bool _,_,h=>h
 |.int _ _,_,h=>h
 |.str _,_,h=>h
 |.raw _,_,h=>h
 |.list _ _ _,_,h=>h
 |.rop _ _,_,h=>h
 |.agg _,_,h=>h
theorem fu {R:Seal}:∀(a:List AVal) (vs:List Value),cJ R a vs->cJ R (fw a) vs
 |[],_,h=>h
 |c::cs,_,⟨v,t,e,⟨h1,h2⟩,k⟩=>by
  have:=nX c v ⟨h1,h2⟩;exact⟨v,t,e,⟨this.1,this.2⟩,fu cs t k⟩
end
inductive Iv (P:Program) (G:Glo) (ty:TypeId) (a:AVal) (name:String) (avs:List AVal) (H:Heap) (K:AVal->Heap->Prop) (Kp:AVal->Heap->Prop):Prop
 |mk (f:FuncId) (r:AVal) (hm:∀R v,bD R a v->∀w,∃u,(Go.method (P.types.size+Made.depth) ty v name).run P w= .ok (f,u) w/\bD R r u) (k:Cx P G f (r::avs) H K Kp)
def qu (sz:Nat)(f:Nat->AVal):Nat->Bool
 |0=>true
 |m+1=>((f m).plain&&Nat.beq (f m).cells.length sz&&dh (f m).cells)&&qu sz f m
theorem iU {sz:Nat}{f:Nat->AVal}:∀{m:Nat},qu sz f m=true->∀i,i<m->(f i).plain=true/\(f i).cells.length=sz/\dh (f i).cells=true
 |0,_,i,h=>absurd h (Nat.not_lt_zero _)
 |m+1,h,i,hi=>by
  simp only[qu,Bool.and_eq_true] at h;by_cases e:i=m
  ·subst e;exact⟨h.1.1.1,Nat.eq_of_beq_eq_true h.1.1.2,h.1.2⟩
  ·exact iU h.2 i (by omega)
def az (sz m:Nat)(f:Nat->AVal):Prop:=∀i,i<m->(f i).plain=true/\(f i).cells.length=sz/\dh (f i).cells=true
def cP (m:Nat)(f:Nat->AVal):List AVal:=(List.range m).flatMap λi=>(f i).cells
section
variable (P:Program) [Tab P] (C:Ctx) (n:Nat) (G:Glo) (GL:List (Nat×List AVal))
def cellsOf (a:AVal)(F:Prop)(K:List AVal->Prop):Prop:=
 match a with
 |.agg cs=>gf cs K
 |.raw (.agg _)=>F
 |a=>K [a]
def vd (env:Env)(H:Heap)(T:TypeId)(x y:Operand)(F:Prop)(K:Heap->Prop):Prop:=
 match aS P T with
 |some xT=>match ae env x,ae env y with
  |some (.own i (.pointer (some ⟨b,o,none⟩))),some a=>match H[i]? with
   |some (.cells b' eT cs)=>cellsOf a F λac=>match Nat.beq ac.length xT.size,Nat.ble (o+xT.size) cs.length,dh ac with
    |true,true,true=>Sp (b'=b) (gf (cs.take o++ac++cs.drop (o+xT.size)) λc=>cn (H.set i (.cells b eT c)) K)
    |_,_,_=>F
   |some (.buf b' s cap)=>match a,Nat.beq xT.size 1 with
    |.int .u8 m,true=>Sp (b'=b/\o<s.length/\0<=m/\m<=255) (cn (H.set i (.buf b (s.set o (UInt8.ofNat m.toNat)) cap)) K)
    |_,_=>F
   |some (.row v' eT sz n cs)=>cellsOf a F λac=>match Nat.beq ac.length xT.size,dh ac with
    |true,true=>match Nat.beq xT.size 1 with
     |true=>Sp (dL v' b n/\o+1<=n*sz/\0<n) (cn (H.set i (.row v' eT sz n (cs.take o++ac++cs.drop (o+1)))) K)
     |false=>Sp (dL v' b n/\o+xT.size<=n*sz/\0<n) (cn (H.set i (.row v' eT sz n (cs.take o++ac++cs.drop (o+xT.size)))) K)
    |_,_=>F
   |_=>F
  |_,_=>F
 |none=>F
def Lt:Option TypeId->TypeId->Bool
 |none,_=>true
 |some t,e=>Nat.beq e t
theorem Cg {eT:Option TypeId}{e:TypeId}(h:Lt eT e=true):∀t,eT=some t->e=t:=by
 rintro t rfl
 exact Nat.eq_of_beq_eq_true h
def wL (env:Env)(H:Heap)(T tx:TypeId)(x y:Operand)(F:Prop)(K:AVal->Heap->Prop):Prop:=
 match aS P T,aS P tx with
 |some xT,some xx=>match xT.desc,xx.desc with
  |.slice e,.slice _=>match aS P e with
   |some xe=>match bp xe.zero,Nat.ble xe.bytes 1024,Nat.ble 1 xe.size with
    |some z,true,true=>match Nat.beq z.length xe.size,ae env y with
     |true,some (.list sz m f)=>match Nat.beq xe.size sz with
      |true=>match ae env x with
       |some (.own i v)=>match H[i]? with
        |some (.row v' eT sz' n0 cs)=>match Lt eT e with
         |true=>Sp (v'=v/\sz'=sz/\n0+m<=137438953472)
          (Ch (Sp (qu sz f m=true) (As (n0+m) λu=>cn (H.set i (.row u eT sz (n0+m) (cs++cP m f))) λH'=>K (.own i u) H'))
           (Sp (az sz m f) (As (n0+m) λu=>cn (H.set i (.row u eT sz (n0+m) (cs++cP m f))) λH'=>K (.own i u) H')))
         |false=>F
        |_=>F
       |some (.raw (.slice none 0 0))=>Sp (m<=137438953472)
          (Ch (Sp (qu sz f m=true) (As m λu=>cn (H++[.row u none sz m (cP m f)]) λH'=>K (.own H.length u) H'))
           (Sp (az sz m f) (As m λu=>cn (H++[.row u none sz m (cP m f)]) λH'=>K (.own H.length u) H')))
       |_=>F
      |false=>F
     |_,_=>F
    |_,_,_=>F
   |none=>F
  |_,_=>F
 |_,_=>F
def Ij (env:Env)(H:Heap)(S T:TypeId)(s:List UInt8)(F:Prop)(K:AVal->Heap->Prop):Prop:=
 match aS P S,aS P T with
 |some xS,some xT=>match xS.desc,xT.desc with
  |.string,.slice e=>match aS P e with
   |some xe=>match xe.desc with
    |.int .u8=>Ac (λcap=>s.length<=cap) λbl cap=>cn (H++[.buf bl s cap]) λH'=>K (.own H.length (.slice (some ⟨bl,0,none⟩) s.length cap)) H'
    |_=>F
   |none=>F
  |.string,.string=>K (.str s) H
  |_,_=>F
 |_,_=>F
def Dp (env:Env)(H:Heap)(T:TypeId)(m:Nat)(l:List (Nat×Operand))(F:Prop)(K:AVal->Heap->Prop):Prop:=
 match aS P T,fb env l with
 |some xT,some ps=>match xT.desc with
  |.slice e=>match aS P e with
   |some xe=>match bp xe.zero with
    |some z=>match Nat.beq z.length xe.size,gq 0 ps,dw xe.size ps,Nat.beq ps.length m,Nat.ble (m*xe.size) 16777216 with
     |true,true,true,true,true=>Bo (K (.list xe.size m (df ps)) H) (As m λv=>gf (dc ps) λcs=>cn (H++[.row v none xe.size m cs]) λH'=>K (.own H.length v) H')
     |_,_,_,_,_=>F
    |none=>F
   |none=>F
  |_=>F
 |_,_=>F
def K4 (env:Env)(H:Heap)(fv:Operand)(args:List Operand)(F:Prop)(Kp:AVal->Heap->Prop)(K:AVal->Heap->Prop):Prop:=
 match ae env fv,fV env args with
 |some (.func (.func f) l1 l2),some avs=>gf (fw (l1++(avs++l2))) λavs=>Cx P G f avs H K Kp
 |_,_=>F
noncomputable def lv (env:Env)(H:Heap)(T:TypeId)(x y z:Operand)(F:Prop)(K:Heap->Prop):Prop:=
 match aS P T,ae env x,ae env y,ae env z with
 |some xT,some (.own i (.map (some b))),some k,some a=>match xT.desc,H[i]? with
  |.map kt et,some (.mp b' es)=>match aS P kt with
   |some xk=>match gJ xk.desc k with
    |true=>Sp (b'=b) (CT k F (λj _=>cn (H.set i (.mp b (es.set j (k,a)))) K) (cn (H.set i (.mp b (es++[(k,a)]))) K) es)
    |_=>F
   |_=>F
  |_,_=>F
 |_,_,_,_=>F
noncomputable def JF (env:Env)(H:Heap)(op:Op)(F:Prop)(Kp:AVal->Heap->Prop)(K:AVal->Heap->Prop):Prop:=
 match op with
 |.alloc T=>match aS P T with
  |some xT=>match bp xT.zero with
   |some cs=>Ab λbl=>gf cs λcs=>cn (H++[.cells bl (some T) cs]) λH'=>K (.own H.length (.pointer (some ⟨bl,0,none⟩))) H'
   |none=>F
  |none=>F
 |.box T x=>match ae env x with
  |some a=>cellsOf a F λcs=>Bo (K (.rop cs 0) H) (Ab λbl=>cn (H++[.cells bl (some T) cs]) λH'=>K (.own H.length (.pointer (some ⟨bl,0,none⟩))) H')
  |none=>F
 |.call ⟨.builtin .append,args,ts⟩=>match args.toList,ts.toList with
  |[x,y],[T,tx]=>wL P env H T tx x y F K
  |_,_=>F
 |.call ⟨.invoke recv name,args,_⟩=>match ae env recv,fV env args.toList with
  |some (.iface ty a),some avs=>Iv P G ty (iO a) name (fw avs) H K Kp
  |_,_=>F
 |.call ⟨.value fv,args,_⟩=>K4 P G env H fv args.toList F Kp K
 |.convert S T x=>match ae env x with
  |some (.str s)=>Ij P env H S T s F K
  |_=>xd P GL env H (.convert S T x) F λav=>K av H
 |.buildSlice T m l=>Dp P env H T m l.toList F K
 |.range T x=>match aS P T,ae env x with
  |some xT,some (.str s)=>match xT.desc with
   |.string=>Ab λbl=>cn (H++[.iter bl s 0]) λH'=>K (.own H.length (.pointer (some ⟨bl,0,none⟩))) H'
   |_=>F
  |_,_=>F
 |.next x true=>match ae env x with
  |some (.own i (.pointer (some ⟨b,0,none⟩)))=>match H[i]? with
   |some (.iter b' s pos)=>Sp (b'=b) (Nx pos s (cn (H.set i (.iter b s (pos+dO (s.drop pos)))) λH'=>K (.tuple [.bool true,.int .i64 (pos:Int),.int .i32 (ga (s.drop pos):Int)]) H') (K (.tuple [.bool false]) H))
   |_=>F
  |_=>F
 |.makeMap T none=>Ab λbl=>cn (H++[.mp bl []]) λH'=>K (.own H.length (.map (some bl))) H'
 |.lookup T x y ok=>match aS P T,ae env x,ae env y with
  |some xT,some (.own i (.map (some b))),some k=>match xT.desc,H[i]? with
   |.map kt et,some (.mp b' es)=>match aS P kt,aS P et with
    |some xk,some xe=>match gJ xk.desc k,zeroV xe.zero with
     |true,some z=>Sp (b'=b) (CT k F (λ_ a=>match ok with|true=>K (.tuple [a,.bool true]) H|false=>K a H) (match ok with|true=>K (.tuple [z,.bool false]) H|false=>K z H) es)
     |_,_=>F
    |_,_=>F
   |_,_=>F
  |_,_,_=>F
 |op=>xd P GL env H op F λav=>K av H
def oI (ops:Array Oper)(env:Env)(g:Option (Nat×Bool))(F:Prop)(run skip:Env->Prop):Prop:=
 match g with
 |none=>run env
 |some (j,want)=>match ops[j]? with
  |some o=>match o.dst with
   |some e=>match Env.get env e with
    |some (.bool b)=>match want with
     |true=>Sc b (run ((e,.bool true)::env)) (skip ((e,.bool false)::env))
     |false=>Sc b (skip ((e,.bool true)::env)) (run ((e,.bool false)::env))
    |some (.raw v)=>Sp (v=undef) (skip env)
    |_=>F
   |none=>F
  |none=>F
structure mm (ops:Array Oper) (l:List Oper) (env:Env) (H:Heap) (Q:aK->Env->Heap->Prop):Prop where
 h:ap P C n ops l env H Q
structure Cd (c:Code) (env:Env) (H:Heap) (Q:aK->Env->Heap->Prop):Prop where
 h:bI P C n c env H Q
noncomputable def FZ (ops:Array Oper)(o:Oper)(rest:List Oper)(Q:aK->Env->Heap->Prop)(K:Env->Heap->Prop)(env:Env)(H:Heap):Prop:=
 oI ops env o.guard (mm P C n ops (o::rest) env H Q)
  (λenv'=>match o.op with
   |.panic x=>match ae env' x with
    |some (.iface ty v)=>Q (.panic (.iface ty v)) env' H
    |_=>mm P C n ops (o::rest) env' H Q
   |op=>match o.dst with
    |some d=>match Nat.ble (d+1) n with
     |true=>JF P G GL env' H op (mm P C n ops (o::rest) env' H Q) (λv H'=>Q (.panic v) env' H') (λav H'=>K ((d,av)::env') H')
     |false=>mm P C n ops (o::rest) env' H Q
    |none=>match op with
     |.store T x y=>vd P env' H T x y (mm P C n ops (o::rest) env' H Q) (λH'=>K env' H')
     |.mapUpdate T x y z=>lv P env' H T x y z (mm P C n ops (o::rest) env' H Q) (λH'=>K env' H')
     |.insert T x y z=>lv P env' H T x y z (mm P C n ops (o::rest) env' H Q) (λH'=>K env' H')
     |_=>mm P C n ops (o::rest) env' H Q)
  (λenv'=>match o.dst with
   |some d=>match Nat.ble (d+1) n with
    |true=>K ((d,.raw undef)::env') H
    |false=>mm P C n ops (o::rest) env' H Q
   |none=>K env' H)
noncomputable def fO (ops:Array Oper)(Q:aK->Env->Heap->Prop)(l:List Oper):Env->Heap->Prop:=
 List.rec (motive:=λ_=>Env->Heap->Prop) (λenv H=>Q .normal env H) (λo rest ih=>FZ P C n G GL ops o rest Q ih) l
def wE (id:Nat)(Q:aK->Env->Heap->Prop):aK->Env->Heap->Prop
 |.exit i,e,h=>match Nat.beq i id with
  |true=>Q .normal e h
  |false=>Q (.exit i) e h
 |x,e,h=>Q x e h
structure Lp (c:Code) (env:Env) (H:Heap) (Q:aK->Env->Heap->Prop):Prop where
 h:bI P C n (.loop c) env H Q
structure Dw (id:Nat) (ops:Array Oper) (env:Env) (H:Heap) (Q:aK->Env->Heap->Prop):Prop where
 h:bI P C n (.region id ops true) env H Q
noncomputable def eQ (c:Code):Env->Heap->(aK->Env->Heap->Prop)->Prop:=
 Code.rec (motive:=λ_=>Env->Heap->(aK->Env->Heap->Prop)->Prop)
  (λenv H Q=>Q .normal env H)
  (λid ops d env H Q=>match d with
   |false=>fO P C n G GL ops Q ops.toList env H
   |true=>Dw P C n id ops env H Q)
  (λ_ _ iha ihb env H Q=>iha env H (eM (λe h=>ihb e h Q) Q))
  (λc x y ihx ihy env H Q=>match ae env c with
   |some (.bool b)=>Sc b (ihx env H Q) (ihy env H Q)
   |_=>Cd P C n (.cond c x y) env H Q)
  (λid _ ih env H Q=>ih env H (wE id Q))
  (λc _ env H Q=>Lp P C n c env H Q)
  (λf ps a b _ _ env H Q=>Cd P C n (.rangeFunc f ps a b) env H Q)
  (λid env H Q=>Q (.exit id) env H)
  (λc _ env H Q=>Cd P C n (.scope c) env H Q)
  (λl env H Q=>Cd P C n (.label l) env H Q)
  (λl env H Q=>Cd P C n (.goto l) env H Q)
  (λenv H Q=>Q .ret env H)
  (λw env H Q=>Cd P C n (.refuse w) env H Q) c
end
section
variable {P:Program} [Tab P] {C:Ctx} {n:Nat} {env:Env} {H:Heap} {Q:aK->Env->Heap->Prop} {ops:Array Oper} {rest:List Oper} {GL:List (Nat×List AVal)}
variable {eT:Option TypeId}
variable {d:Nat} {t:TypeId} {p:String} {af:Array Edge} {g:Option (Nat×Bool)} {b:Bool}
theorem Nc {l:List Oper}{env':Env}(hs:∀{D:List Deferred} R a,FS D n R env a->FS D n R env' a)(h:ap P C n ops l env' H Q):ap P C n ops l env H Q:=
 λR a w hm hf=>h R a w hm (hs R a hf)
theorem BZ {c:Code}{env':Env}(hs:∀{D:List Deferred} R a,FS D n R env a->FS D n R env' a)(h:bI P C n c env' H Q):bI P C n c env H Q:=
 λR a w hm hf=>h R a w hm (hs R a hf)
theorem KC {l:List Oper}{H':Heap}(hs:H.Perm H')(h:ap P C n ops l env H' Q):ap P C n ops l env H Q:=
 λR a w hm hf=>h R a w (hm.perm hs) hf
theorem gU {l:List Oper}{x:HEnt}(h:ap P C n ops l env (H++[x]) Q):ap P C n ops l env (x::H) Q:=
 KC (List.perm_append_singleton x H).symm h
theorem wj {D:List Deferred}{R:Seal}{a:Act}{s i:Nat}{v:Value}(hv:cm v=false)(hs:Env.get env s=some (.raw v))(hf:FS D n R env a):FS D n R ((s,.own i v)::env) a:=by
 refine⟨λk x hk=> ?_,hf.size,hf.defers⟩
 simp only[Env.get] at hk;split at hk
 ·rename_i hb;have:=Nat.eq_of_beq_eq_true hb;subst this
  simp only[Option.some.injEq] at hk
  subst hk
  obtain⟨y,hy,hr⟩:=hf.fr _ _ hs
  exact⟨y,hy,aQ.2 ⟨al.1 hr,hv⟩⟩
 ·exact hf.fr k x hk
theorem d9 {i:Nat}{v:Value}(hv:cm v=false)(h:ap P C n ops rest ((d,.own i v)::env) H Q):ap P C n ops rest ((d,.raw v)::env) H Q:=
 Nc (λR a hf=>by
  refine⟨λk y hk=> ?_,hf.size,hf.defers⟩;simp only[Env.get] at hk;split at hk
  ·rename_i hb;have:=Nat.eq_of_beq_eq_true hb;subst this;simp only[Option.some.injEq] at hk;subst hk;obtain⟨z,hz,hr⟩:=hf.fr d (.raw v) (by simp[Env.get]);exact⟨z,hz,aQ.2 ⟨al.1 hr,hv⟩⟩
  ·rename_i hb;exact hf.fr k y (by simp only[Env.get,hb];exact hk)) h
theorem jn {op:Op}{av:AVal}(hg:aC ops env g=some (b,b))(hdn:Nat.ble (d+1) n=true)(hr:bn P C H env op av)(h:ap P C n ops rest ((d,av)::env) H Q):
  ap P C n ops ({dst:=some d,op:=op,type:=t,pos:=p,after:=af,guard:=g}::rest) env H Q:=
 qd hg rfl hdn (λR ρ w hm hf=>hr R ρ w hm hf _ _ _ _ _) h
theorem Dq {op:Op}{F:Prop}{K:AVal->Prop}(hg:aC ops env g=some (b,b))(hdn:Nat.ble (d+1) n=true)(h:zX P C H env op F K)
  (hF:F->ap P C n ops ({dst:=some d,op:=op,type:=t,pos:=p,after:=af,guard:=g}::rest) env H Q) (hK:∀av,K av->ap P C n ops rest ((d,av)::env) H Q):
  ap P C n ops ({dst:=some d,op:=op,type:=t,pos:=p,after:=af,guard:=g}::rest) env H Q:=by
 rcases h with h|⟨av,h1,h2⟩
 ·exact hF h
 ·exact jn hg hdn h1 (hK av h2)
theorem mO {a:AVal}{F:Prop}{K:List AVal->Prop}(h:cellsOf a F K):F\/(a.plain=true/\K a.cells):=by
 unfold cellsOf at h;split at h
 ·rw[cz] at h;exact .inr ⟨rfl,h⟩
 ·exact .inl h
 ·rename_i h1 h2;refine .inr ⟨?_,?_⟩
  ·cases a<;>first|rfl|skip
   rename_i v;cases v<;>first|rfl|(exact absurd rfl (h2 _))
  ·cases a<;>first|exact h|(exact absurd rfl (h1 _))
theorem Fb {R:Seal}{w:World}{i bl cap:Nat}{s:List UInt8}(hi:H[i]? =some (.buf bl s cap))(hm:MS C R H w):MS C R (H.set i (.cells bl none (dQ s cap))) w:=by
 obtain⟨_,C',e,fz,h1,h2,h3⟩:=hm.heap.holds _ (List.mem_of_getElem? hi);exact hm.swap hi rfl ⟨C',e,fz,h1,h2,h3,λ_ h=>nomatch h⟩
theorem uE {R:Seal}{w:World}{i bl cap:Nat}{s:List UInt8}(hc:s.length<=cap)(hi:H[i]? =some (.cells bl eT (dQ s cap)))(hm:MS C R H w):MS C R (H.set i (.buf bl s cap)) w:=by
 obtain⟨C',e,fz,h1,h2,h3,_⟩:=hm.heap.holds _ (List.mem_of_getElem? hi);exact hm.swap hi rfl ⟨hc,C',e,fz,h1,h2,h3⟩
theorem wN {l:List Oper}{H':Heap}(hs:∀R w,MS C R H w->MS C R H' w)(h:ap P C n ops l env H' Q):ap P C n ops l env H Q:=
 λR a w hm hf=>h R a w (hs R w hm) hf
theorem lA {i:Nat}{x y:HEnt}(hi:H[i]? =some x):(H.set i y)[i]? =some y:=by
 have:=(List.getElem?_eq_some_iff.1 hi).1;simp[this]
theorem Cu (i:Nat)(y z:HEnt):(H.set i y).set i z=H.set i z:=by simp
theorem kM {x:Oper}{e:Nat}{v:Bool}{j:Nat}{want:Bool}(ho:ops[j]? =some x)(he:x.dst=some e):aC ops ((e,.bool v)::env) (some (j,want))=some (v,want):=by
 simp only[aC,ho,he,Env.get,Nat.beq_refl]
variable {x y:Operand} {T:TypeId} {xT:TI} {tx ty:TypeId} {av:AVal}
theorem ye {R:Seal}{w:World}{i sz m:Nat}{v:Value}{cs:List AVal}(hm:MS C R H w)(hi:H[i]? =some (.row v eT sz m cs)):cm v=false:=by
 obtain⟨_,h⟩:=hm.heap.holds _ (List.mem_of_getElem? hi);rcases h with⟨rfl,_⟩|⟨_,_,_,_,_,rfl,_⟩<;>rfl
theorem iq {l:List Oper}{i sz m:Nat}{v:Value}{cs:List AVal}(hi:H[i]? =some (.row v eT sz m cs))(h:(∃a k c,v= .slice a k c/\mR m a k)->ap P C n ops l env H Q):ap P C n ops l env H Q:=λR a w hm hf=>by
 obtain⟨_,hh⟩:=hm.heap.holds _ (List.mem_of_getElem? hi);refine h ?_ R a w hm hf;rcases hh with⟨rfl,rfl⟩|⟨_,_,_,_,_,rfl,_⟩
 ·exact⟨_,_,_,rfl,λh=>absurd h (Nat.lt_irrefl _)⟩
 ·exact⟨_,_,_,rfl,λ_=>⟨_,rfl,rfl⟩⟩
theorem yD {j0 i bl o:Nat}{cs:List AVal}(hg:aC ops env g=some (b,b))
  (hx:ae env x=some (.own j0 (.pointer (some ⟨bl,o,none⟩)))) (hy:ae env y=some av) (hi:H[i]? =some (.cells bl eT cs)) (h1:aS P T=some xT) (h2:av.cells.length=xT.size)
  (hc:Nat.ble (o+xT.size) cs.length=true) (hp:av.plain=true) (hok:dh av.cells=true)
  (h:ap P C n ops rest env (H.set i (.cells bl eT (cs.take o++av.cells++cs.drop (o+xT.size)))) Q):
  ap P C n ops ({dst:=none,op:=.store T x y,type:=t,pos:=p,after:=af,guard:=g}::rest) env H Q:=by
 refine gT hg rfl (λR ρ w hm hf=> ?_) h;have hc:=Nat.le_of_ble_eq_true hc;obtain⟨Cs,el,fz,hb,hl,hfz⟩:=gy hm hi;have hlen:=ay hl;simp only[Array.length_toList] at hlen;have hv:=gw (hf _ _ hy) hp;have hvl:=ay hv;simp only[Array.length_toList] at hvl;obtain⟨w',hr,ho⟩:=cN (P:=P) (ρ y).cells.toList o 0 Cs w hb (by simp only[Array.length_toList];omega) hfz.1 (gV hv hok);refine⟨w',R,?_,Seal.le_refl R,hm.write hi rfl ho rfl ?_⟩
 ·simp only[execOp,(aQ.1 (hf _ _ hx)).1,Instr.storeAt,Instr.sureAddr,storeVar,Sem.run_bind,Sem.run_pure,Result.andThen_ok,aB h1];rw[if_neg (by omega)];simp only[Sem.run_bind,Sem.run_pure,Result.andThen_ok,hr]
 ·refine⟨_,_,_,ho.at_,?_,?_⟩
  ·simp only[Nat.add_zero,Array.length_toList,hvl,h2];exact bE (bE (bP o hl) hv) (bV _ hl)
  ·simp only[Nat.add_zero,Array.length_toList,hvl,h2,List.size_toArray,List.length_append,List.length_take,List.length_drop];have:min o Cs.size+xT.size+(Cs.size-(o+xT.size))=Cs.size:=by omega
   rw[this];exact hfz
theorem ni {j0 i bl o n0 sz:Nat}{v:Value}{cs:List AVal}(hg:aC ops env g=some (b,b))
  (hx:ae env x=some (.own j0 (.pointer (some ⟨bl,o,none⟩)))) (hy:ae env y=some av) (hi:H[i]? =some (.row v eT sz n0 cs)) (hr:dL v bl n0) (h0:0<n0) (h1:aS P T=some xT) (h2:av.cells.length=xT.size)
  (hc:o+xT.size<=n0*sz) (hp:av.plain=true) (hok:dh av.cells=true)
  (h:ap P C n ops rest env (H.set i (.row v eT sz n0 (cs.take o++av.cells++cs.drop (o+xT.size)))) Q):
  ap P C n ops ({dst:=none,op:=.store T x y,type:=t,pos:=p,after:=af,guard:=g}::rest) env H Q:=by
 refine gT hg rfl (λR ρ w hm hf=> ?_) h;obtain⟨hlen,cap,Cs,el,fz,rfl,hb,hsz,hnc,hl,hfz⟩:=li hm hi hr h0;have hmul:n0*sz<=cap*sz:=Nat.mul_le_mul_right _ hnc;have hv:=gw (hf _ _ hy) hp;have hvl:=ay hv;simp only[Array.length_toList] at hvl;obtain⟨w',hr',ho⟩:=cN (P:=P) (ρ y).cells.toList o 0 Cs w hb (by simp only[Array.length_toList];omega) hfz.1 (gV hv hok);refine⟨w',R,?_,Seal.le_refl R,hm.write hi rfl ho rfl ?_⟩
 ·simp only[execOp,(aQ.1 (hf _ _ hx)).1,Instr.storeAt,Instr.sureAddr,storeVar,Sem.run_bind,Sem.run_pure,Result.andThen_ok,aB h1];rw[if_neg (by omega)];simp only[Sem.run_bind,Sem.run_pure,Result.andThen_ok,hr']
 ·refine⟨by simp only[List.length_append,List.length_take,List.length_drop];omega,.inr ⟨bl,cap,_,_,_,rfl,ho.at_,?_,hnc,?_,?_⟩⟩
  ·simp only[Nat.add_zero,Array.length_toList,hvl,h2,List.size_toArray,List.length_append,List.length_take,List.length_drop];omega
  ·have e1:(Cs.toList.take (o+0)++(ρ y).cells.toList++Cs.toList.drop (o+0+(ρ y).cells.toList.length)).take (n0*sz)=(Cs.toList.take (n0*sz)).take o++(ρ y).cells.toList++(Cs.toList.take (n0*sz)).drop (o+xT.size):=by
    have hl1:(Cs.toList.take o).length=o:=by rw[List.length_take,Array.length_toList];omega
    have hl2:(ρ y).cells.toList.length=xT.size:=by rw[Array.length_toList];omega
    rw[Nat.add_zero,hl2,List.take_append,List.length_append,hl1,hl2,List.take_of_length_le (by rw[List.length_append,hl1,hl2];omega),List.take_take,Nat.min_eq_left (by omega),List.drop_take]
   simp only[];rw[e1];exact bE (bE (bP o hl) hv) (bV _ hl)
  ·simp only[Nat.add_zero,Array.length_toList,hvl,h2,List.size_toArray,List.length_append,List.length_take,List.length_drop];have:min o Cs.size+xT.size+(Cs.size-(o+xT.size))=Cs.size:=by omega
   rw[this];exact hfz
theorem vO {j0 i bl pos:Nat}{s:List UInt8}(hg:aC ops env g=some (b,b))(hdn:Nat.ble (d+1) n=true)(hx:ae env x=some (.own j0 (.pointer (some ⟨bl,0,none⟩))))(hi:H[i]? =some (.iter bl s pos))(hlt:pos<s.length)
  (h:ap P C n ops rest ((d,.tuple [.bool true,.int .i64 (pos:Int),.int .i32 ((Utf8.decode ⟨s.toArray⟩ pos).1:Int)])::env) (H.set i (.iter bl s (pos+(Utf8.decode ⟨s.toArray⟩ pos).2))) Q):
  ap P C n ops ({dst:=some d,op:=.next x true,type:=t,pos:=p,after:=af,guard:=g}::rest) env H Q:=by
 refine gR hg rfl hdn (λR ρ w hm hf=> ?_) h;have hb:w.heap[bl]? =some (.stringIter ⟨s.toArray⟩ pos):=hm.heap.holds _ (List.mem_of_getElem? hi);have hlt':=jK hb;have ho:iJ w bl (.stringIter ⟨s.toArray⟩ (pos+(Utf8.decode ⟨s.toArray⟩ pos).2)) {w with heap:=w.heap.setIfInBounds bl (.stringIter ⟨s.toArray⟩ (pos+(Utf8.decode ⟨s.toArray⟩ pos).2))}:=
  ⟨rfl,rfl,rfl,by simp,by simp[hlt'],λk hk=>by simp only[];rw[Array.getElem?_setIfInBounds_ne (Ne.symm hk)]⟩
 refine⟨.tuple #[.bool true,.int .i64 (pos:Int),.int .i32 ((Utf8.decode ⟨s.toArray⟩ pos).1:Int)],{w with heap:=w.heap.setIfInBounds bl (.stringIter ⟨s.toArray⟩ (pos+(Utf8.decode ⟨s.toArray⟩ pos).2))},R,?_,Seal.le_refl R,?_,
  hm.write hi rfl ho rfl ho.at_⟩
 ·simp only[execOp,(aQ.1 (hf _ _ hx)).1,Instr.next,Sem.run_bind,bC hb (by simp),Result.andThen_ok,bT,if_pos hlt];simp only[setObj,Sem.run,hb];rfl
 ·exact⟨⟨_,rfl,_,_,rfl,⟨rfl,rfl⟩,_,_,rfl,⟨rfl,rfl⟩,_,_,rfl,⟨rfl,rfl⟩,rfl⟩,rfl⟩
theorem vP {j0 i bl pos:Nat}{s:List UInt8}(hg:aC ops env g=some (b,b))(hdn:Nat.ble (d+1) n=true)(hx:ae env x=some (.own j0 (.pointer (some ⟨bl,0,none⟩))))(hi:H[i]? =some (.iter bl s pos))(hlt:s.length<=pos)
  (h:ap P C n ops rest ((d,.tuple [.bool false])::env) H Q):
  ap P C n ops ({dst:=some d,op:=.next x true,type:=t,pos:=p,after:=af,guard:=g}::rest) env H Q:=by
 refine qd hg rfl hdn (λR ρ w hm hf=> ?_) h;have hb:w.heap[bl]? =some (.stringIter ⟨s.toArray⟩ pos):=hm.heap.holds _ (List.mem_of_getElem? hi);refine⟨.tuple #[.bool false],?_,⟨⟨_,rfl,_,_,rfl,⟨rfl,rfl⟩,rfl⟩,rfl⟩⟩;simp only[execOp,(aQ.1 (hf _ _ hx)).1,Instr.next,Sem.run_bind,bC hb (by simp),Result.andThen_ok,bT];rw[if_neg (by omega)];rfl
theorem GI {j0 i bl pos:Nat}{s:List UInt8}(hg:aC ops env g=some (b,b))(hdn:Nat.ble (d+1) n=true)(hx:ae env x=some (.own j0 (.pointer (some ⟨bl,0,none⟩))))(hi:H[i]? =some (.iter bl s pos))
  (hmore:pos<s.length->ap P C n ops rest ((d,.tuple [.bool true,.int .i64 (pos:Int),.int .i32 (ga (s.drop pos):Int)])::env) (H.set i (.iter bl s (pos+dO (s.drop pos)))) Q)
  (hdone:s.length<=pos->ap P C n ops rest ((d,.tuple [.bool false])::env) H Q):
  ap P C n ops ({dst:=some d,op:=.next x true,type:=t,pos:=p,after:=af,guard:=g}::rest) env H Q:=by
 by_cases hlt:pos<s.length
 ·refine vO hg hdn hx hi hlt ?_;have e:=wx s pos hlt;have h:=hmore hlt;have e1:(Utf8.decode ⟨s.toArray⟩ pos).1=ga (s.drop pos):=by rw[e];unfold ga;split<;>rfl
  have e2:(Utf8.decode ⟨s.toArray⟩ pos).2=dO (s.drop pos):=by rw[e];unfold dO;split<;>rfl
  rw[e1,e2];exact h
 ·exact vP hg hdn hx hi (by omega) (hdone (by omega))
theorem tN {j0 i m n0 sz:Nat}{v:Value}{xa:AVal}{cs new z:List AVal}{tx e:TypeId}{xe:TI}(hg:aC ops env g=some (b,b))(hdn:Nat.ble (d+1) n=true)
  (hx:ae env x=some (.own j0 v)) (hi:H[i]? =some (.row v eT sz n0 cs)) (hy:ae env y=some xa)
  (h1:aS P T=some xT) (h2:xT.desc= .slice e) (h3:aS P e=some xe) (h4:xe.size=sz) (h5:Nat.ble 1 sz=true) (h6:Nat.ble xe.bytes 1024=true) (h7:bp xe.zero=some z) (h8:z.length=sz)
  (hs:∀R v,bD R xa v->zU P R sz tx v m new) (hlen:n0+m<=137438953472) (hty:∀t,eT=some t->e=t)
  (h:∀v':Value,ap P C n ops rest ((d,.own i v')::env) (H.set i (.row v' eT sz (n0+m) (cs++new))) Q):
  ap P C n ops ({dst:=some d,op:=.call {callee:=.builtin .append,args:=[x,y].toArray,argTypes:=[T,tx].toArray},type:=t,pos:=p,after:=af,guard:=g}::rest) env H Q:=by
 refine dg (av:=λv':Value=>.own i v') (H':=λv'=>H.set i (.row v' eT sz (n0+m) (cs++new))) hg rfl hdn (λR ρ w hm hf=> ?_) h;obtain⟨v',w',hr,hm'⟩:=so (T:=T) (tx:=tx) t hm hi h1 h2 h3 h4 (tg h7 h8) (Nat.le_of_ble_eq_true h6) (hs R _ (hf _ _ hy)) (Nat.le_of_ble_eq_true h5) hlen hty;refine⟨v',v',w',R,?_,Seal.le_refl R,aQ.2 ⟨rfl,ye hm' (lA hi)⟩,hm'⟩;simp only[execOp,resolve,Sem.run_bind,Sem.run_pure,Result.andThen_ok,invoke,builtin,List.map_toArray,List.map_cons,List.map_nil,(aQ.1 (hf _ _ hx)).1,hr]
end
end
end Go.Proofs.YtmdhmodenkjmdaaGreatDoor
