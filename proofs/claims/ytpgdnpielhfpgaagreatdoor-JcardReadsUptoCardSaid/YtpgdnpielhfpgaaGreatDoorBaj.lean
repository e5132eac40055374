/- Parts of the proof of jcardReads_card. -/
import GoSem.PinnedTables
import Derived.Test.YtpgdnpielhfpgaaGreatDoorBai
set_option linter.unusedVariables false
set_option linter.unusedSimpArgs false
set_option linter.unusedSectionVars false
namespace Go.Proofs.YtpgdnpielhfpgaaGreatDoor
open Go Go.RowKit
open Tryz
set_option maxRecDepth 20000
set_option maxHeartbeats 4000000
section
theorem qX {P:Program}[Tab P]{G:Glo}{GL:List (Nat×List AVal)}{n:Nat}{H:Heap}{v:Value}(i:Nat){f:FuncId}{fn:Func}{c:Code}{avs:List AVal}{Qf:cz->Heap->Prop}{rs:List ResultVar}(hf:P.funcs[f]? =some fn)
  (hc:∀args w,(callFunc f args).run P w= .ok (.enter f args) w) (hb:fn.body=some c) (hn:fn.ntmps=n) (hrs:fn.results=rs.toArray) (hlen:Nat.ble (AVal.raw v::avs).length n=true) (hGL:ab G GL) (hv:cU v=false)
  (h:∀C:Ctx,C.G=G->gh P C n G GL c ((0,.own i v)::ft 0 (.raw v::avs)) H (ui P rs Qf)):ae P G f (.raw v::avs) H Qf:=
 qZ hf hb hc hn hrs hlen λw0 R0 hG=>(Dg (C:=⟨w0,R0,eh H,G,hG,[]⟩) (k:=0) i rfl hGL hv rfl (h ⟨w0,R0,eh H,G,hG,[]⟩ rfl)).mono λ_ _ _ q=>jV q
section
variable {P:Program} [Tab P] {C:Ctx} {n:Nat} {env:Env} {H:Heap} {G:Glo} {x:Operand} {S T u:TypeId} {xS xT xu:TI}
theorem Mb {i j b off:Nat}{eT:Option TypeId}{cs:List AVal}{a:AVal}(hx:ai env x=some (.own i (pv b off)))(hj:H[j]? =some (.cells b eT cs))(hc:cs[off]? =some a)(h1:bC P S=some xS)(h2:xS.desc= .pointer u)(h3:bC P T=some xT)(h4:xT.desc= .unsafePointer)(h5:bC P u=some xu)(h6:Nat.ble 1 xu.size=true):
  bD P C H env (.convert S T x) (.raw (pv b off)):=by
 intro R ρ w hm hf dst t p af g;obtain⟨Cs,el,fz,hb,hl,_⟩:=jZ hm hj;obtain⟨v,hv,_⟩:=eD hl hc;have hcell:w.cell? ⟨b,off,none⟩=some v:=by simp only[World.cell?,hb];simpa using hv
 obtain⟨iu,hiu,his,_⟩:=gR h5;have h6:=Nat.le_of_ble_eq_true h6;have hr:=run_convert_to_unsafe (P:=P) (src:=S) (dst:=T) (by rw[ck h1,h2]) (by rw[ck h3,h4]) (by rw[hiu];simp[his];omega) hcell;exact⟨_,by simp only[execOp,(a7.1 (hf _ _ hx)).1,Sem.run_bind,hr,Result.andThen_ok,Sem.run_pure],ar.2 rfl⟩
end
section
variable {G:Glo}
theorem zt {f:FuncId}(h:∀w,(callFunc f #[]).run prog w= .ok (.value (.tuple #[])) w):aj prog G f [] (.tuple []):=by
 intro R w args hG hm ha;have e:args=#[]:=by
  have:args.toList=[]:=ha;exact Array.ext' this
 subst e;exact .inr ⟨_,w,h w,_,[],R,⟨rfl,rfl⟩,⟨_,rfl,⟨#[],rfl,rfl⟩,rfl⟩,hm⟩
theorem s9 {f:FuncId}{a:Addr}(h:∀w,(callFunc f #[.pointer (some a)]).run prog w= .ok (.value (.tuple #[])) w):aj prog G f [.raw (.pointer (some a))] (.tuple []):=by
 intro R w args hG hm ha;obtain rfl:=WB ha;exact .inr ⟨_,w,h w,_,[],R,⟨rfl,rfl⟩,⟨_,rfl,⟨#[],rfl,rfl⟩,rfl⟩,hm⟩
theorem lM:aj prog G 270 [] (.tuple []):=zt λw=>run_call_mark0 func270 (by kernel_rfl) (by kernel_rfl) (by kernel_rfl) .disable (by kernel_rfl) w
theorem oh:aj prog G 272 [] (.tuple []):=zt λw=>run_call_mark0 func272 (by kernel_rfl) (by kernel_rfl) (by kernel_rfl) .enable (by kernel_rfl) w
theorem vU (a:Addr):aj prog G 273 [.raw (.pointer (some a))] (.tuple []):=s9 λw=>run_call_marked func273 (by kernel_rfl) (by kernel_rfl) (by kernel_rfl) .acquire (by kernel_rfl) a w
theorem vT (a:Addr):aj prog G 275 [.raw (.pointer (some a))] (.tuple []):=s9 λw=>run_call_marked func275 (by kernel_rfl) (by kernel_rfl) (by kernel_rfl) .releaseMerge (by kernel_rfl) a w
attribute [local irreducible] bN aw aa aC bg ab ae
theorem NF {b off:Nat}{eT:Option TypeId}{cs:List AVal}(hc:cs[off]? =some (.int .i32 0)):ae prog G 262 [.raw (pv b off)] [.cells b eT cs] (λr H=>r= .ret (.tuple [])/\H=[.cells b eT (cs.set off (.int .i32 1))]):=by
 have hGL:ab G []:=aG;have e1:=UU (G:=G) (b:=b) (eT:=eT) (y:=1) hc;have hlt:=(List.getElem?_eq_some_iff.1 hc).1;refine qX 0 func262 call262 rfl rfl rfl rfl hGL rfl ?_;intro C hC;repeat' (first|(conv=>whnf);first|refine .w ?_|refine .v ?_|refine cj ?_ ?_<;>(intro hb;try exact dd hb)|apply aF|apply bf|(apply bQ<;>intro hb)|(apply bR;intro hbd)|(apply aZ;first|exact lM|exact oh|exact e1)|(apply aL (i:=0) rfl;first|exact lM|exact oh|exact e1)|(apply bS;intro bl)|(apply cb;intro va vk vc hva)|(apply ca;intro v)|(apply cd;intro bl cap hcap)|apply cg|(apply bZ<;>intro hnx)|apply cK mixed hC hGL (by kernel_rfl)|(apply cq;assumption;(first|exact lM|exact oh|exact e1);exact rfl)|(show Rt _ _ _;exact bK)|fail)
 all_goals try conv=>whnf
 refine aP hC hGL (Mb (j:=0) rfl rfl (List.getElem?_set_self hlt) rfl rfl rfl rfl rfl rfl) rfl rfl ?_;repeat' (first|(conv=>whnf);first|refine .w ?_|refine .v ?_|refine cj ?_ ?_<;>(intro hb;try exact dd hb)|apply aF|apply bf|(apply bQ<;>intro hb)|(apply bR;intro hbd)|(apply aZ;exact vU _)|(apply aL (i:=0) rfl;exact vU _)|(apply bS;intro bl)|(apply cb;intro va vk vc hva)|(apply ca;intro v)|(apply cd;intro bl cap hcap)|apply cg|(apply bZ<;>intro hnx)|apply cK mixed hC hGL (by kernel_rfl)|(apply cq;assumption;exact vU _;exact rfl)|(show Rt _ _ _;exact bK)|fail)
 all_goals try conv=>whnf
theorem Gj {b off:Nat}{eT:Option TypeId}{cs:List AVal}(hc:cs[off]? =some (.int .i32 1)):ae prog G 263 [.raw (pv b off)] [.cells b eT cs] (λr H=>r= .ret (.tuple [])/\H=[.cells b eT (cs.set off (.int .i32 0))]):=by
 have hGL:ab G []:=aG;have e1:=UT (G:=G) (b:=b) (eT:=eT) hc;refine qX 0 func263 call263 rfl rfl rfl rfl hGL rfl ?_;intro C hC;refine a6 ?_;intros;erw[hc];refine a6 ?_;intros;refine aP hC hGL (Mb (j:=0) rfl rfl hc rfl rfl rfl rfl rfl rfl) rfl rfl ?_;repeat' (first|(conv=>whnf);first|refine .w ?_|refine .v ?_|refine cj ?_ ?_<;>(intro hb;try exact dd hb)|apply aF|apply bf|(apply bQ<;>intro hb)|(apply bR;intro hbd)|(apply aZ;first|exact vT _|exact lM|exact oh|exact e1)|(apply aL (i:=0) rfl;first|exact vT _|exact lM|exact oh|exact e1)|(apply bS;intro bl)|(apply cb;intro va vk vc hva)|(apply ca;intro v)|(apply cd;intro bl cap hcap)|apply cg|(apply bZ<;>intro hnx)|apply cK mixed hC hGL (by kernel_rfl)|(apply cq;assumption;(first|exact vT _|exact lM|exact oh|exact e1);exact rfl)|(show Rt _ _ _;exact bK)|fail)
 all_goals try conv=>whnf
theorem W0 {b off:Nat}{eT:Option TypeId}{cs:List AVal}(hc:cs[off]? =some (.int .i32 0)):ae prog G 252 [.raw (pv b off)] [.cells b eT cs] (λr H=>r= .ret (.tuple [])/\H=[.cells b eT (cs.set off (.int .i32 1))]):=by
 have hGL:ab G []:=aG;have e1:=NF (G:=G) (b:=b) (eT:=eT) hc;refine qX 0 func252 call252 rfl rfl rfl rfl hGL rfl ?_;intro C hC;exact ba
theorem SX {b off:Nat}{eT:Option TypeId}{cs:List AVal}(hc:cs[off]? =some (.int .i32 1))(m:fy):fx prog G 253 [.own 0 (pv b off)] m [.cells b eT cs] (λr m' H=>m'=m/\r= .ret (.tuple [])/\H=[.cells b eT (cs.set off (.int .i32 0))]):=by
 have hGL:ab G []:=aG;have e1:=Gj (G:=G) (b:=b) (eT:=eT) hc;refine Bs (rs:=[]) (GL:=[]) func253 rfl rfl rfl rfl hGL ?_;intro C hC;exact ba
theorem z8 {b off:Nat}{eT:Option TypeId}{cs:List AVal}{n:Int}(hc:cs[off]? =some (.int .u32 n)):ae prog G 244 [.raw (pv b off)] [.cells b eT cs] (λr H=>r= .ret (.bool (!cm n 0))/\H=[.cells b eT cs]):=by
 have hGL:ab G []:=aG;have e1:=RV (G:=G) (b:=b) (eT:=eT) hc;refine qX 0 func244 call244 rfl rfl rfl rfl hGL rfl ?_;intro C hC;exact ba
theorem EC:aj prog G 265 [.bool true] (.int .u32 1):=by
 refine ao func265 call265 λC hC hGL=> ?_;exact ba
theorem G2 {b off:Nat}{eT:Option TypeId}{cs:List AVal}{n:Int}(hc:cs[off]? =some (.int .u32 n))(m:fy):fx prog G 254 [.own 0 (pv b off),.bool true] m [.cells b eT cs] (λr m' H=>m'=m/\r= .ret (.tuple [])/\H=[.cells b eT (cs.set off (.int .u32 1))]):=by
 have hGL:ab G []:=aG;have e1:=O5 (G:=G) (b:=b) (eT:=eT) (y:=1) hc;refine Bs (rs:=[]) (GL:=[]) func254 rfl rfl rfl rfl hGL ?_;intro C hC;refine az ?_;intros;refine cR mixed hC hGL false (λ(_:Unit)=>[]) (λ_=>[.cells b eT (cs.set off (.int .u32 1))]) (.t 0 (.t 1 (.t 2 (.t 3 (.b 4 (.b 5 .done)))))) (by kernel_rfl) ?_ ?_
 ·repeat' (first|(conv=>whnf);first|refine .w ?_|refine .v ?_|refine cj ?_ ?_<;>(intro hb;try exact dd hb)|apply aF|apply bf|(apply bQ<;>intro hb)|(apply bR;intro hbd)|(apply aZ;first|exact e1|exact EC)|(apply aL (i:=0) rfl;first|exact e1|exact EC)|(apply bS;intro bl)|(apply cb;intro va vk vc hva)|(apply ca;intro v)|(apply cd;intro bl cap hcap)|apply cg|(apply bZ<;>intro hnx)|exact True.intro|(apply iy;intro C hC)|apply iw|apply io|(apply ip;exact rfl)|(show Rt _ _ _;exact bK)|fail)
  all_goals try conv=>whnf
  all_goals exact⟨(),trivial,rfl⟩
 ·intro _;exact cx
end
end
section
theorem RR {P:Program}{C:Ctx}{n:Nat}{c:Code}{env:Env}{H:Heap}{Q:List Deferred->aQ->Env->Heap->Prop}{k:Nat}(i:Nat){v:Value}(hv:cU v=false)(hk:Env.get env k=some (.raw v))(h:gk P C n c ((k,.own i v)::env) H Q):gk P C n c env H Q:=
 λR a w hm hf=>h R a w hm (wU hv hk hf)
theorem Ox {P:Program}[Tab P]{G:Glo}{f:FuncId}{avs:List AVal}{H H':Heap}{v:AVal}{K Kp:AVal->Heap->Prop}(hs:ae P G f avs H (λr H2=>r= .ret v/\H2=H'))(k:K v H'):Cx P G f avs H K Kp:=by
 refine⟨_,hs,?_,?_⟩
 ·rintro v' H2 ⟨e,rfl⟩;cases e;exact k
 ·rintro v' H2 ⟨e,rfl⟩;cases e
attribute [local irreducible] bN aw aa aC bg ab ae
attribute [local irreducible] fx Lv gk To
theorem JR {G:Glo}{b off fid:Nat}{eT:Option TypeId}{cs:List AVal}{T:Heap}{Y:Type}{cs2:Y->List AVal}{T2:Y->Heap}{l1 l2:List AVal}(h0:cs[off]? =some (.int .u32 0))(h1:cs[off+1]? =some (.int .i32 0))(k0:∀y,(cs2 y)[off]? =some (.int .u32 0))(k1:∀y,(cs2 y)[off+1]? =some (.int .i32 1))
  (hf:ae prog G fid (iE (l1++([]++l2))) (.cells b eT (cs.set (off+1) (.int .i32 1))::T) (λr H=>∃y,r= .ret (.tuple [])/\H= .cells b eT (cs2 y)::T2 y)):
  ae prog G 245 [.raw (pv b off),.func (.func fid) l1 l2] (.cells b eT cs::T) (λr H=>∃y,r= .ret (.tuple [])/\H= .cells b eT (((cs2 y).set off (.int .u32 1)).set (off+1) (.int .i32 0))::T2 y):=by
 have hGL:ab G []:=aG;have e1:=W0 (G:=G) (b:=b) (eT:=eT) h1;have h0':(cs.set (off+1) (.int .i32 1))[off]? =some (.int .u32 0):=by rw[List.getElem?_set_ne (by omega)];exact h0
 have e2:=z8 (G:=G) (b:=b) (eT:=eT) h0';refine Wb (rs:=[]) func245 call245 rfl rfl rfl rfl ?_;intro C hC hD;refine RR (k:=0) (v:=pv b off) 0 rfl rfl ?_;refine cA (bW hC hGL ?_);refine a6 ?_;intros;rw[bB];refine a6 ?_;intros;refine cA (oK hC hGL rfl ?_);refine a6 ?_;intros;refine⟨_,rfl,?_⟩;refine(λ(h:∀C2:Ctx,C2.G=G->C2.D=[{target:=.fn (.func 253) #[],args:=#[pv b (off+1)]}]->gk prog C2 _ _ _ _ _)=>h (withD C ({target:=.fn (.func 253) #[],args:=#[pv b (off+1)]}::C.D)) hC (by show _::C.D=_;rw[hD])) ?_;clear hC hD C;intro C hC hD;refine cA (bW hC hGL ?_);refine a6 ?_;intros;rw[bB];refine a6 ?_;intros;refine jl rfl (λ_=> ?_) (λhb=>absurd hb (by simp[cm]));refine cA (oK hC hGL rfl ?_);refine a6 ?_;intros;refine⟨_,rfl,?_⟩;refine bW (P:=prog) (C:=withD C ({target:=.fn (.func 254) #[],args:=#[pv b off,.bool true]}::C.D)) (G:=G) hC hGL ?_;refine a6 ?_;intros;rw[dq];refine⟨_,hf,?_,λv' H2 ⟨y,e,_⟩=>by cases e⟩;rintro v' H2 ⟨y,e,rfl⟩;cases e;show Lv prog _ _ _ _ ({target:=.fn (.func 254) #[],args:=#[pv b off,.bool true]}::C.D) _ _ _;rw[hD];refine qL (GJ (T2 y) (G2 (k0 y) .ret)) (λR=>⟨_,_,rfl,a7.2 ⟨rfl,rfl⟩,_,_,rfl,aW.2 rfl,rfl⟩) call254 ?_;have k1':((cs2 y).set off (.int .u32 1))[off+1]? =some (.int .i32 1):=by rw[List.getElem?_set_ne (by omega)];exact k1 y
 refine qL (GJ (T2 y) (SX k1' .ret)) (λR=>⟨_,_,rfl,a7.2 ⟨rfl,rfl⟩,rfl⟩) call253 ?_;refine TX (P:=prog) ?_;exact⟨_,List.Sublist.refl _,y,rfl,rfl⟩
theorem Qz {G:Glo}{b off fid:Nat}{eT:Option TypeId}{cs:List AVal}{T:Heap}{Y:Type}{cs2:Y->List AVal}{T2:Y->Heap}{l1 l2:List AVal}(h0:cs[off]? =some (.int .u32 0))(h1:cs[off+1]? =some (.int .i32 0))(k0:∀y,(cs2 y)[off]? =some (.int .u32 0))(k1:∀y,(cs2 y)[off+1]? =some (.int .i32 1))
  (hl1:iE l1=l1) (hl2:iE l2=l2)
  (hf:ae prog G fid (iE (l1++([]++l2))) (.cells b eT (cs.set (off+1) (.int .i32 1))::T) (λr H=>∃y,r= .ret (.tuple [])/\H= .cells b eT (cs2 y)::T2 y)):
  ae prog G 231 [.raw (pv b off),.func (.func fid) l1 l2] (.cells b eT cs::T) (λr H=>∃y,r= .ret (.tuple [])/\H= .cells b eT (((cs2 y).set off (.int .u32 1)).set (off+1) (.int .i32 0))::T2 y):=by
 have hGL:ab G []:=aG;have e1:=z8 (G:=G) (b:=b) (eT:=eT) h0;have e2:=JR h0 h1 k0 k1 hf;refine qX 0 func231 call231 rfl rfl rfl rfl hGL rfl ?_;intro C hC;refine a6 ?_;intros;rw[bB];refine a6 ?_;intros;rw[show lB (.func (.func fid) l1 l2)= .func (.func fid) l1 l2 by simp[lB,hl1,hl2]];refine⟨_,e2,?_,λv' H2 ⟨y,e,_⟩=>by cases e⟩;rintro v' H2 ⟨y,e,rfl⟩;cases e;exact⟨_,List.Sublist.refl _,y,rfl,rfl⟩
end
section
def Q3 (b:Nat):Bool:=decide (48<=b)&&decide (b<=57)
theorem NE {b:Nat}:Q3 b=true↔48<=b/\b<=57:=by unfold Q3;simp
def me (s:List UInt8)(i:Nat):Nat:=if h:i<s.length/\Q3 (aa s i)=true then me s (i+1) else i
termination_by s.length-i
decreasing_by omega
theorem nR {s:List UInt8}{i:Nat}(h:i<s.length)(h1:48<=aa s i)(h2:aa s i<=57):me s i=me s (i+1):=by rw[me,dif_pos ⟨h,NE.2 ⟨h1,h2⟩⟩]
theorem nQ {s:List UInt8}{i:Nat}(h:¬(i<s.length/\48<=aa s i/\aa s i<=57)):me s i=i:=by
 rw[me,dif_neg];rintro⟨h1,h2⟩;exact h ⟨h1,NE.1 h2⟩
theorem mJ (s:List UInt8)(i:Nat):i<=me s i/\(i<=s.length->me s i<=s.length):=by
 by_cases h:i<s.length/\Q3 (aa s i)=true
 ·rw[me,dif_pos h];have:=mJ s (i+1);omega
 ·rw[me,dif_neg h];omega
termination_by s.length-i
decreasing_by omega
def Fp (s:List UInt8)(d:Nat):Nat:=if d<s.length/\(aa s d=43\/aa s d=45) then d+1 else d
def SA (s:List UInt8)(c:Nat):Nat:=if c<s.length/\(aa s c=101\/aa s c=69) then if me s (Fp s (c+1))=Fp s (c+1) then c else me s (Fp s (c+1)) else c
def KZ (s:List UInt8)(b:Nat):Nat:=if b<s.length/\aa s b=46 then if me s (b+1)=b+1 then b else SA s (me s (b+1)) else SA s b
def xQ (s:List UInt8):Nat:=if 0<s.length/\aa s 0=45 then 1 else 0
def pL (s:List UInt8):Nat:=if xQ s<s.length/\aa s (xQ s)=48 then KZ s (xQ s+1) else if me s (xQ s)=xQ s then 0 else KZ s (me s (xQ s))
theorem Te (s:List UInt8)(d:Nat):d<=Fp s d/\Fp s d<=d+1/\(d<=s.length->Fp s d<=s.length):=by unfold Fp;split<;>omega
theorem TR (s:List UInt8):xQ s<=1/\xQ s<=s.length:=by unfold xQ;split<;>omega
def uw (t c:Nat):Nat:=
 if t=0/\c=45 then 1
 else if(t=0\/t=1)/\c=48 then 2
 else if(t=0\/t=1\/t=3)/\48<=c/\c<=57 then 3
 else if(t=2\/t=3)/\c=46 then 4
 else if(t=4\/t=5)/\48<=c/\c<=57 then 5
 else if(t=2\/t=3\/t=5)/\(c=101\/c=69) then 6
 else if t=6/\(c=43\/c=45) then 7
 else if(t=6\/t=7\/t=8)/\48<=c/\c<=57 then 8
 else 9
def V5 (t i best:Nat):Nat:=if t=2\/t=3\/t=5\/t=8 then i+1 else best
def zm (s:List UInt8)(i t best:Nat):Nat:=if h:i<s.length then if uw t (aa s i)=9 then best else zm s (i+1) (uw t (aa s i)) (V5 (uw t (aa s i)) i best) else best
termination_by s.length-i
decreasing_by omega
theorem my {s:List UInt8}{i t best:Nat}(h:¬i<s.length):zm s i t best=best:=by rw[zm,dif_neg h]
theorem kj {s:List UInt8}{i t best:Nat}(h:i<s.length)(h1:uw t (aa s i)=9):zm s i t best=best:=by rw[zm,dif_pos h,if_pos h1]
theorem iL {s:List UInt8}{i t best t':Nat}(h:i<s.length)(h1:uw t (aa s i)=t')(h2:t'≠9):zm s i t best=zm s (i+1) t' (V5 t' i best):=by rw[zm,dif_pos h,h1,if_neg h2]
theorem TQ (s:List UInt8):∀(n i:Nat),s.length-i<=n->zm s i 8 i=me s i
 |n,i,hn=>by
  by_cases h:i<s.length/\48<=aa s i/\aa s i<=57
  ·rw[nR h.1 h.2.1 h.2.2,iL (t':=8) h.1 (by unfold uw;(repeat' split)<;>omega) (by decide)];cases n with
   |zero=>omega
   |succ n=>exact TQ s n (i+1) (by omega)
  ·rw[nQ h]
   by_cases hi:i<s.length
   ·exact kj hi (by unfold uw;(repeat' split)<;>omega)
   ·exact my hi
theorem WV (s:List UInt8)(i best:Nat):zm s i 7 best=if me s i=i then best else me s i:=by
 by_cases h:i<s.length/\48<=aa s i/\aa s i<=57
 ·have h1:=nR h.1 h.2.1 h.2.2;have h2:=(mJ s (i+1)).1;rw[if_neg (by omega),h1,iL (t':=8) h.1 (by unfold uw;(repeat' split)<;>omega) (by decide)];exact TQ s _ (i+1) (Nat.le_refl _)
 ·rw[if_pos (nQ h)];by_cases hi:i<s.length
  ·exact kj hi (by unfold uw;(repeat' split)<;>omega)
  ·exact my hi
theorem WW (s:List UInt8)(i best:Nat):zm s i 6 best=if me s (Fp s i)=Fp s i then best else me s (Fp s i):=by
 by_cases hs:i<s.length/\(aa s i=43\/aa s i=45)
 ·rw[show Fp s i=i+1 from if_pos hs,iL (t':=7) hs.1 (by unfold uw;(repeat' split)<;>omega) (by decide)];exact WV s (i+1) best
 ·rw[show Fp s i=i from if_neg hs];by_cases h:i<s.length/\48<=aa s i/\aa s i<=57
  ·have h1:=nR h.1 h.2.1 h.2.2;have h2:=(mJ s (i+1)).1;rw[if_neg (by omega),h1,iL (t':=8) h.1 (by unfold uw;(repeat' split)<;>omega) (by decide)];exact TQ s _ (i+1) (Nat.le_refl _)
  ·rw[if_pos (nQ h)];by_cases hi:i<s.length
   ·exact kj hi (by unfold uw;(repeat' split)<;>omega)
   ·exact my hi
theorem So (s:List UInt8)(i t:Nat)(ht:t=2\/t=3\/t=5)(hd:t≠2->¬(i<s.length/\48<=aa s i/\aa s i<=57))(hp:t≠5->¬(i<s.length/\aa s i=46)):zm s i t i=SA s i:=by
 unfold SA;by_cases h:i<s.length/\(aa s i=101\/aa s i=69)
 ·rw[if_pos h,iL (t':=6) h.1 (by obtain⟨_,h1|h1⟩:=h<;>rw[h1]<;>rcases ht with rfl|rfl|rfl<;>rfl) (by decide)];exact WW s (i+1) i
 ·rw[if_neg h];by_cases hi:i<s.length
  ·refine kj hi ?_;have hp':t=5\/aa s i≠46:=by rcases ht with h|h|h<;>first|exact .inl h|exact .inr λk=>hp (by omega) ⟨hi,k⟩
   have hd':t=2\/¬(48<=aa s i/\aa s i<=57):=by rcases ht with h|h|h<;>first|exact .inl h|exact .inr λk=>hd (by omega) ⟨hi,k⟩
   have h1:aa s i≠101/\aa s i≠69:=by omega
   clear h hp hd;generalize aa s i=c at*
   unfold uw;rcases ht with rfl|rfl|rfl<;>(repeat' split)<;>omega
  ·exact my hi
theorem VQ (s:List UInt8):∀(n i:Nat),s.length-i<=n->zm s i 5 i=SA s (me s i)
 |n,i,hn=>by
  by_cases h:i<s.length/\48<=aa s i/\aa s i<=57
  ·rw[nR h.1 h.2.1 h.2.2,iL (t':=5) h.1 (by unfold uw;(repeat' split)<;>omega) (by decide)];cases n with
   |zero=>omega
   |succ n=>exact VQ s n (i+1) (by omega)
  ·rw[nQ h];exact So s i 5 (by omega) (λ_=>h) (λh=>absurd rfl h)
theorem WX (s:List UInt8)(i best:Nat):zm s i 4 best=if me s i=i then best else SA s (me s i):=by
 by_cases h:i<s.length/\48<=aa s i/\aa s i<=57
 ·have h1:=nR h.1 h.2.1 h.2.2;have h2:=(mJ s (i+1)).1;rw[if_neg (by omega),h1,iL (t':=5) h.1 (by unfold uw;(repeat' split)<;>omega) (by decide)];exact VQ s _ (i+1) (Nat.le_refl _)
 ·rw[if_pos (nQ h)];by_cases hi:i<s.length
  ·exact kj hi (by unfold uw;(repeat' split)<;>omega)
  ·exact my hi
theorem Sn (s:List UInt8)(i t:Nat)(ht:t=2\/t=3)(hd:t≠2->¬(i<s.length/\48<=aa s i/\aa s i<=57)):zm s i t i=KZ s i:=by
 unfold KZ;by_cases h:i<s.length/\aa s i=46
 ·rw[if_pos h,iL (t':=4) h.1 (by unfold uw;(repeat' split)<;>omega) (by decide)];exact WX s (i+1) i
 ·rw[if_neg h];exact So s i t (by omega) hd (λ_=>h)
theorem VR (s:List UInt8):∀(n i:Nat),s.length-i<=n->zm s i 3 i=KZ s (me s i)
 |n,i,hn=>by
  by_cases h:i<s.length/\48<=aa s i/\aa s i<=57
  ·rw[nR h.1 h.2.1 h.2.2,iL (t':=3) h.1 (by unfold uw;(repeat' split)<;>omega) (by decide)];cases n with
   |zero=>omega
   |succ n=>exact VR s n (i+1) (by omega)
  ·rw[nQ h];exact Sn s i 3 (by omega) (λ_=>h)
theorem VS (s:List UInt8)(i t:Nat)(ht:t=0\/t=1)(hm:t=0->¬(i<s.length/\aa s i=45)):zm s i t 0=if i<s.length/\aa s i=48 then KZ s (i+1) else if me s i=i then 0 else KZ s (me s i):=by
 by_cases h:i<s.length/\aa s i=48
 ·rw[if_pos h,iL (t':=2) h.1 (by unfold uw;(repeat' split)<;>omega) (by decide)];exact Sn s (i+1) 2 (by omega) (λk=>absurd rfl k)
 ·rw[if_neg h];by_cases hd:i<s.length/\48<=aa s i/\aa s i<=57
  ·have h1:=nR hd.1 hd.2.1 hd.2.2;have h2:=(mJ s (i+1)).1;rw[if_neg (by omega),h1,iL (t':=3) hd.1 (by unfold uw;(repeat' split)<;>omega) (by decide)];exact VR s _ (i+1) (Nat.le_refl _)
  ·rw[if_pos (nQ hd)];by_cases hi:i<s.length
   ·refine kj hi ?_;have hm':t=1\/aa s i≠45:=by rcases ht with k|k<;>first|exact .inl k|exact .inr λg=>hm k ⟨hi,g⟩
    unfold uw
    (repeat' split)<;>omega
   ·exact my hi
theorem WY (s:List UInt8):zm s 0 0 0=pL s:=by
 unfold pL;by_cases h:0<s.length/\aa s 0=45
 ·rw[show xQ s=1 from if_pos h,iL (t':=1) h.1 (by unfold uw;(repeat' split)<;>omega) (by decide)];exact VS s 1 1 (by omega) (λk=>by cases k)
 ·rw[show xQ s=0 from if_neg h];exact VS s 0 0 (by omega) (λ_=>h)
end
section
inductive Js where
 |mk (k:Int) (t:List UInt8) (ks:List (List UInt8)) (l:List Js)
def Js.k:Js->Int|.mk k _ _ _=>k
def Js.t:Js->List UInt8|.mk _ t _ _=>t
def Js.ks:Js->List (List UInt8)|.mk _ _ ks _=>ks
def Js.l:Js->List Js|.mk _ _ _ l=>l
def Js.z:Js:=.mk 0 [] [] []
abbrev aA (l:List Js)(i:Nat):Js:=l.getD i Js.z
def kR:Nat->List Js->Nat->AVal
 |0,_,_=>.bool false
 |d+1,l,i=>.agg [.int .i64 (aA l i).k,.str (aA l i).t,.list 1 (aA l i).ks.length (ay (aA l i).ks),.list 4 (aA l i).l.length (kR d (aA l i).l)]
abbrev Js.C (d:Nat)(x:Js):List AVal:=[.int .i64 x.k,.str x.t,.list 1 x.ks.length (ay x.ks),.list 4 x.l.length (kR d x.l)]
def Js.R (d:Nat)(x:Js):AVal:=.agg (Js.C d x)
theorem Gb (d:Nat)(l:List Js)(i:Nat):kR (d+1) l i=Js.R d (aA l i):=rfl
def Js.le:Nat->Js->Prop
 |0,x=>x.l=[]
 |d+1,x=>∀i,i<x.l.length->Js.le d (aA x.l i)
theorem e8 {d:Nat}{x:Js}(h:Js.le d x){i:Nat}(hi:i<x.l.length):∃e,d=e+1/\Js.le e (aA x.l i):=by
 cases d with
 |zero=>rw[show x.l=[] from h] at hi;cases hi
 |succ d=>exact⟨d,rfl,h i hi⟩
def Js.sz:Nat->Js->Nat
 |0,x=>x.t.length+x.ks.length+Lib.lens x.ks+1
 |d+1,x=>x.t.length+x.ks.length+Lib.lens x.ks+1+((List.range x.l.length).map λi=>Js.sz d (aA x.l i)).sum
def u9 (l:List (List UInt8)):Bool:=(List.range l.length).any λi=>(l.take i).contains (l.getD i [])
theorem LE {l:List (List UInt8)}{k:Nat}(hk:k<l.length)(h:l.getD k []∈l.take k):u9 l=true:=by
 unfold u9;rw[List.any_eq_true];exact⟨k,List.mem_range.2 hk,by simpa using h⟩
theorem LD {l:List (List UInt8)}(h:∀k,k<l.length->l.getD k []∉l.take k):u9 l=false:=by
 unfold u9;rw[List.any_eq_false];intro k hk;have:=h k (List.mem_range.1 hk);simpa using this
def oT (x:Js):Prop:=¬(1<=x.k/\x.k<=7)\/(x.t≠[]/\x.k≠4/\x.k≠5)\/(x.ks≠[]/\x.k≠7)\/(x.l≠[]/\x.k≠6/\x.k≠7)\/(x.k=7/\x.ks.length≠x.l.length)
def nJ (x:Js):Prop:=(x.k=4/\(x.t=[]\/pL x.t≠x.t.length))\/0<=dy x.t\/∃k∈x.ks,0<=dy k
noncomputable def pg (x:Js):Int:=open Classical in if oT x then 1 else if nJ x then 3 else if u9 x.ks then 9 else 0
def KY (f:Nat->Int):Nat->Int
 |0=>0
 |n+1=>if KY f n≠0 then KY f n else f n
theorem qW {f:Nat->Int}:∀{n:Nat},(∀j,j<n->f j=0)->KY f n=0
 |0,_=>rfl
 |n+1,h=>by rw[KY,if_neg (by rw[qW λj hj=>h j (by omega)];simp)];exact h n (by omega)
theorem Gw {f:Nat->Int}{k:Nat}:∀{n:Nat},k<n->(∀j,j<k->f j=0)->f k≠0->KY f n=f k
 |0,h,_,_=>absurd h (Nat.not_lt_zero _)
 |n+1,h,h1,h2=>by
  rw[KY];rcases Nat.lt_or_ge k n with g|g
  ·rw[Gw g h1 h2,if_pos h2]
  ·obtain rfl:k=n:=by omega
   rw[qW h1,if_neg (by simp)]
theorem D3 {f:Nat->Int}:∀{n:Nat},KY f n=0->∀j,j<n->f j=0
 |0,_,j,h=>absurd h (Nat.not_lt_zero _)
 |n+1,h,j,hj=>by
  rw[KY] at h;split at h
  ·rename_i g;exact absurd h g
  ·rename_i g;rcases Nat.lt_or_ge j n with k|k
   ·exact D3 (Decidable.not_not.1 g) j k
   ·obtain rfl:j=n:=by omega
    exact h
noncomputable def kM:Nat->Js->Int
 |0,_=>4
 |n+1,x=>if pg x≠0 then pg x else KY (λi=>kM n (aA x.l i)) x.l.length
theorem sv {n:Nat}{x:Js}(h:oT x):kM (n+1) x=1:=by
 have e:pg x=1:=by unfold pg;rw[if_pos h]
 rw[kM,e,if_pos (by decide)]
theorem uC {n:Nat}{x:Js}(h:¬oT x)(h1:nJ x):kM (n+1) x=3:=by
 have e:pg x=3:=by unfold pg;rw[if_neg h,if_pos h1]
 rw[kM,e,if_pos (by decide)]
theorem Gc {n:Nat}{x:Js}(h:¬oT x)(h1:¬nJ x)(h2:u9 x.ks=true):kM (n+1) x=9:=by
 have e:pg x=9:=by unfold pg;rw[if_neg h,if_neg h1,if_pos h2]
 rw[kM,e,if_pos (by decide)]
theorem TO {x:Js}(h:¬oT x)(h1:¬nJ x)(h2:u9 x.ks=false):pg x=0:=by
 unfold pg;rw[if_neg h,if_neg h1,if_neg (by rw[h2];decide)]
theorem Ge {n:Nat}{x:Js}(h:¬oT x)(h1:¬nJ x)(h2:u9 x.ks=false):kM (n+1) x=KY (λi=>kM n (aA x.l i)) x.l.length:=by
 rw[kM,TO h h1 h2,if_neg (by simp)]
theorem pi {n:Nat}{x:Js}(h:kM (n+1) x=0):(1<=x.k/\x.k<=7)/\(x.k=7->x.ks.length=x.l.length)/\∀i,i<x.l.length->kM n (aA x.l i)=0:=by
 by_cases h1:oT x
 ·rw[sv h1] at h;cases h
 ·by_cases h2:nJ x
  ·rw[uC h1 h2] at h;cases h
  ·cases h3:u9 x.ks with
   |true=>rw[Gc h1 h2 h3] at h;cases h
   |false=>
    rw[Ge h1 h2 h3] at h;unfold oT at h1;exact⟨by omega,λh7=>by omega,λi hi=>D3 h i hi⟩
end
section
abbrev jN:AVal:=.raw (.slice none 0 0)
abbrev bX (b:Nat):Value:=.pointer (some ⟨b,0,none⟩)
def Hb (res:cz)(H:Heap)(Qf:cz->Heap->Prop):Prop:=∀(C:Ctx) (R:Seal) (w:World) (e:Ending),MS C R H w->gD R res e->∃r2 H2 R',Qf r2 H2/\MS C R' H2 w/\gD R' r2 e
theorem wW {P:Program}{G:Glo}{f:FuncId}{avs:List AVal}{H:Heap}{Qf Qf':cz->Heap->Prop}(h:ae P G f avs H Qf)(hq:∀r H',Qf r H'->Hb r H' Qf'):ae P G f avs H Qf':=by
 intro R w args hG hm ha;rcases h R w args hG hm ha with⟨h1,h2⟩|⟨x,w',h1,res,H',R',q,er,hm'⟩
 ·exact .inl ⟨h1,h2.mono λe w' ⟨res,H',R',q,er,hm'⟩=>let ⟨r2,H2,R2,q2,m2,e2⟩:=hq _ _ q _ _ _ _ hm' er;⟨r2,H2,R2,q2,e2,m2⟩⟩
 ·obtain⟨r2,H2,R2,q2,m2,e2⟩:=hq _ _ q _ _ _ _ hm' er;exact .inr ⟨x,w',h1,r2,H2,R2,q2,e2,m2⟩
theorem QW {R:Seal}{n:Nat}{x:Js}{v:Value}(h1:x.ks=[])(h2:x.l=[])(h:bE R (.agg [.int .i64 x.k,.str x.t,jN,jN]) v):bE R (.agg (Js.C n x)) v:=by
 have g1:=jn (p:=2) (a':=.list 1 0 (ay [])) (Seal.le_refl R) h rfl (λv=>g7);have g2:=jn (p:=3) (a':=.list 4 0 (kR n [])) (Seal.le_refl R) g1 rfl (λv=>g7);unfold Js.C;rw[h1,h2];exact g2
end
section
theorem vf {t:TypeId}{a a':AVal}{H H':Heap}(hto:∀C:Ctx,To C 1 [(0,a)] H [(0,a')] H'):Hb (.ret (.iface t a)) H (λr H2=>r= .ret (.iface t a')/\H2=H'):=by
 rintro C R w e hm ⟨x,rfl,hx⟩;obtain⟨u,hu,h1,h2⟩:=bA hx rfl;have hu:x= .iface t u:=(List.cons.inj hu).1;subst hu;have hf:FS C.D 1 R [(0,a)] ⟨#[u],C.D⟩:=by
  refine⟨λk v hk=> ?_,rfl,rfl⟩;cases k with
  |zero=>cases hk;exact⟨u,rfl,h1,h2⟩
  |succ k=>cases hk
 obtain⟨R',hle,hm',hf'⟩:=hto C R _ w hm hf;obtain⟨y,hy,hr⟩:=hf'.fr 0 a' rfl;cases hy;exact⟨_,_,R',⟨rfl,rfl⟩,hm',_,rfl,pG ⟨u,rfl,hr.1,hr.2⟩ rfl rfl⟩
attribute [local irreducible] bN aw aa aC bg ab ae
attribute [local irreducible] fx Lv gk To
def jT (u:Value):List AVal:=[.int .u32 0,.int .i32 0,.int .u32 0,.raw .nilIface,.own 0 u]
theorem m5 {G:Glo}(m:Nat)(f:Nat->AVal)(hm:m<=1000)(h2:m%2=0)(hs:aC 1 m f):ae prog G 204 [.list 1 m f] [] (λr H=>∃bl va vk vc,EM m va vk/\r= .ret (.own 1 (pv bl 0))/\H=[.row (.slice va vk vc) none 1 m (gX m f),.cells bl (some 330) (jT (.slice va vk vc))]):=by
 refine ao func204 call204 λC hC hGL=> ?_;repeat' (first|(conv=>whnf);first|refine .w ?_|refine .v ?_|refine cj ?_ ?_<;>(intro hb;try exact dd hb)|apply aF|apply bf|(apply bQ<;>intro hb)|(apply bR;intro hbd)|(apply bS;intro bl)|(apply cb;intro va vk vc hva)|(apply ca;intro v)|(apply cd;intro bl cap hcap)|apply RM|(apply bZ<;>intro hnx)|exact True.intro|(apply iy;intro C hC)|apply iw|apply io|(apply ip;exact rfl)|(show Rt _ _ _;exact bK)|fail)
 all_goals try conv=>whnf
 exact⟨_,List.Sublist.refl _,bl,va,vk,vc,hva,rfl,rfl⟩
abbrev OU (br m vc:Nat)(cs:List AVal):HEnt:=.row (.slice (some ⟨br,0,none⟩) m vc) none 1 m cs
abbrev Wu (br m vc:Nat):List AVal:=jT (.slice (some ⟨br,0,none⟩) m vc)
abbrev Vb (br m vc:Nat):List AVal:=(Wu br m vc).set 1 (.int .i32 1)
abbrev W8 (bC:List AVal):AVal:=.iface 367 (.rop bC 0)
def EP (G:Glo)(m:Nat)(cs:List AVal)(Fn:UInt8->List UInt8)(ks:List UInt8):Prop:=∀br bl vc,ae prog G 246 [.raw (pv bl 0)] [OU br m vc cs,.cells bl (some 330) (Vb br m vc)]
 (λr H=>∃bC,R7 Fn ks bC/\r= .ret (W8 bC)/\H=[OU br m vc cs,.cells bl (some 330) (Vb br m vc)])
theorem VU (a:AVal):∀R v,bE R a v→∀w,∃u,(Go.method (prog.types.size+Made.depth) 367 v "Replace").run prog w= .ok (333,u) w∧bE R a u:=by
 intro R v hv w
 exact⟨v,by kernel_rfl,hv⟩
section
variable {G:Glo} {m:Nat} {cs:List AVal} {Fn:UInt8->List UInt8} {ks:List UInt8}
abbrev brR (bC:List AVal):List AVal:=[.int .u32 0,.int .i32 1,.int .u32 0,W8 bC,.raw (.slice none 0 0)]
abbrev brQ (bC:List AVal):List AVal:=[.int .u32 1,.int .i32 0,.int .u32 0,W8 bC,.raw (.slice none 0 0)]
theorem MM (hB:EP G m cs Fn ks)(br bl vc:Nat):ae prog G 232 [.raw (pv bl 0)] [OU br m vc cs,.cells bl (some 330) (Vb br m vc)]
  (λr H=>∃y:{bC//R7 Fn ks bC},r= .ret (.tuple [])/\H=[OU br m vc cs,.cells bl (some 330) (brR y.1)]):=by
 have hGL:ab G []:=aG;have e1:=hB br bl vc;unfold Vb Wu jT at*
 refine qX 1 func232 call232 rfl rfl rfl rfl hGL rfl ?_;intro C hC;refine az ?_;intros;refine⟨_,e1,?_,?_⟩
 ·rintro v' H2 ⟨bC,ht,e,rfl⟩;cases e;refine az ?_;intros
  exact⟨_,List.Sublist.refl _,⟨bC,ht⟩,rfl,rfl⟩
 ·rintro v' H2 ⟨bC,ht,e,rfl⟩
  cases e
theorem Ux (hB:EP G m cs Fn ks)(br bl vc:Nat):ae prog G 231 [.raw (pv bl 0),.func (.func 232) [.raw (pv bl 0)] []] [OU br m vc cs,.cells bl (some 330) (Wu br m vc)]
  (λr H=>∃y:{bC//R7 Fn ks bC},r= .ret (.tuple [])/\H=[OU br m vc cs,.cells bl (some 330) (brQ y.1)]):=by
 have e1:=MM hB br bl vc;have e2:=Qz (G:=G) (b:=bl) (off:=0) (fid:=232) (eT:=some 330) (cs:=Wu br m vc) (T:=[OU br m vc cs]) (Y:={bC//R7 Fn ks bC}) (cs2:=λy=>brR y.1) (T2:=λ_=>[OU br m vc cs]) (l1:=[.raw (pv bl 0)]) (l2:=[]) rfl rfl (λ_=>rfl) (λ_=>rfl) rfl rfl
  (by
   refine jR (jQ (List.Perm.swap _ _ _) e1) ?_;rintro r H ⟨y,rfl,rfl⟩;exact⟨_,List.Perm.swap _ _ _,y,rfl,rfl⟩)
 refine jR (jQ (List.Perm.swap _ _ _) e2) ?_;rintro r H ⟨y,rfl,rfl⟩;exact⟨_,List.Perm.swap _ _ _,y,rfl,rfl⟩
theorem s4 (hB:EP G m cs Fn ks)(hk:ks.length<=100)(br bl vc:Nat)(s:List UInt8)(hl:s.length<=2000000)(hct:∀c,aj prog G 209 [.str s,.str [c]] (.int .i64 (s.countP (· ==c):Nat))):
  ae prog G 205 [.raw (pv bl 0),.str s] [OU br m vc cs,.cells bl (some 330) (Wu br m vc)] (λr H=>r= .ret (.str (s.flatMap Fn))/\H=[]):=by
 have hGL:ab G []:=aG;have e1:=Ux hB br bl vc;refine qX 1 func205 call205 rfl rfl rfl rfl hGL rfl ?_;intro C hC;refine az ?_;intros;refine⟨_,e1,?_,λv' H' ⟨y,e,_⟩=>by cases e⟩;rintro v' H' ⟨⟨bC,ht⟩,e,rfl⟩;cases e;have e3:=RK (G:=G) ht hk s hl hct;refine az ?_;intros;refine iv 333 (.rop bC 0) (VU _) (aZ e3 ?_);exact cx
end
end
section
attribute [local irreducible] bN aw aC bg ab ae
attribute [local irreducible] fx Lv gk To
def qh (i j k:Nat)(a b c t:AVal):List AVal:=(((List.replicate 256 (.raw (.slice none 0 0))).set i a).set j b).set k c++[t]
theorem KF {G:Glo}(br bl vc:Nat):ae prog G 246 [.raw (pv bl 0)] [.row (.slice (some ⟨br,0,none⟩) 6 vc) none 1 6 [.str [94],.str [94,94],.str [10],.str [94,110],.str [34],.str [94,39]],.cells bl (some 330) ((jT (.slice (some ⟨br,0,none⟩) 6 vc)).set 1 (.int .i32 1))]
  (λr H=>∃va vk vt bz b1 c1 b2 c2 b3 c3,EM 3 va vk/\r= .ret (.iface 367 (.own 3 (pv bz 0)))/\H=[.row (.slice (some ⟨br,0,none⟩) 6 vc) none 1 6 [.str [94],.str [94,94],.str [10],.str [94,110],.str [34],.str [94,39]],.cells bl (some 330) ((jT (.slice (some ⟨br,0,none⟩) 6 vc)).set 1 (.int .i32 1)),
   .row (.slice va vk vt) (some 9) 1 3 [.str [34],.str [10],.str [94]],.cells bz (some 366) (qh 34 10 94 (.own 4 (.slice (some ⟨b1,0,none⟩) 2 c1)) (.own 5 (.slice (some ⟨b2,0,none⟩) 2 c2)) (.own 6 (.slice (some ⟨b3,0,none⟩) 2 c3)) (.own 2 (.slice va vk vt))),.buf b1 [94,39] c1,.buf b2 [94,110] c2,.buf b3 [94,94] c3]):=by
 have hGL:ab G []:=aG;unfold jT;refine qX 1 func246 call246 rfl rfl rfl rfl hGL rfl ?_;intro C hC;refine az ?_;intros;have c0:([.str [94],.str [94,94],.str [10],.str [94,110],.str [34],.str [94,39]]:List AVal)[0]? =some (.str [94]):=rfl;have r0:eW (.slice (some ⟨br,0,none⟩) 6 vc) br 6/\0<6*1:=⟨⟨_,rfl⟩,by decide⟩;have c1:([.str [94],.str [94,94],.str [10],.str [94,110],.str [34],.str [94,39]]:List AVal)[1]? =some (.str [94,94]):=rfl;have r1:eW (.slice (some ⟨br,0,none⟩) 6 vc) br 6/\1<6*1:=⟨⟨_,rfl⟩,by decide⟩;have c2:([.str [94],.str [94,94],.str [10],.str [94,110],.str [34],.str [94,39]]:List AVal)[2]? =some (.str [10]):=rfl;have r2:eW (.slice (some ⟨br,0,none⟩) 6 vc) br 6/\2<6*1:=⟨⟨_,rfl⟩,by decide⟩;have c3:([.str [94],.str [94,94],.str [10],.str [94,110],.str [34],.str [94,39]]:List AVal)[3]? =some (.str [94,110]):=rfl
 have r3:eW (.slice (some ⟨br,0,none⟩) 6 vc) br 6/\3<6*1:=⟨⟨_,rfl⟩,by decide⟩
 have c4:([.str [94],.str [94,94],.str [10],.str [94,110],.str [34],.str [94,39]]:List AVal)[4]? =some (.str [34]):=rfl
 have r4:eW (.slice (some ⟨br,0,none⟩) 6 vc) br 6/\4<6*1:=⟨⟨_,rfl⟩,by decide⟩
 have c5:([.str [94],.str [94,94],.str [10],.str [94,110],.str [34],.str [94,39]]:List AVal)[5]? =some (.str [94,39]):=rfl
 have r5:eW (.slice (some ⟨br,0,none⟩) 6 vc) br 6/\5<6*1:=⟨⟨_,rfl⟩,by decide⟩
 refine og hC hGL 4 ?_
 refine az ?_
 intros
 refine zj (m:=3) hC hGL rfl rfl (by omega) rfl rfl rfl rfl rfl rfl rfl (λbt=> ?_)
 refine az ?_
 intros
 refine og hC hGL 4 ?_
 refine az ?_
 intros
 refine aP hC hGL (cW [34] rfl (by intro v hv;simp only[List.mem_cons,List.not_mem_nil,or_false] at hv;omega) rfl rfl rfl rfl rfl rfl) rfl rfl ?_
 refine az ?_
 intros
 refine aP hC hGL (cW [10] rfl (by intro v hv;simp only[List.mem_cons,List.not_mem_nil,or_false] at hv;omega) rfl rfl rfl rfl rfl rfl) rfl rfl ?_
 refine az ?_
 intros
 refine aP hC hGL (cW [94] rfl (by intro v hv;simp only[List.mem_cons,List.not_mem_nil,or_false] at hv;omega) rfl rfl rfl rfl rfl rfl) rfl rfl ?_
 refine az ?_
 intros
 exact⟨_,List.Sublist.refl _,_,_,_,_,_,_,_,_,_,_,by assumption,rfl,rfl⟩
end
section
theorem BB {s:List UInt8}{j:Nat}(h:j<s.length):aa s j=s[j].toNat:=by
 simp[aa,List.getD,h]
def encF (c:UInt8):List UInt8:=if c=94 then[94,94] else if c=10 then[94,110] else if c=34 then[94,39] else[c]
def fi (s:List UInt8):List UInt8:=s.flatMap encF
theorem Ut:encF 94=[94,94]:=rfl
theorem Uv:encF 10=[94,110]:=rfl
theorem Uu:encF 34=[94,39]:=rfl
theorem Ee {c:UInt8}(h1:c.toNat≠94)(h2:c.toNat≠10)(h3:c.toNat≠34):encF c=[c]:=by
 unfold encF;rw[if_neg (by rintro rfl;exact h1 rfl),if_neg (by rintro rfl;exact h2 rfl),if_neg (by rintro rfl;exact h3 rfl)]
theorem Oa:fi []=[]:=rfl
theorem Ko (c:UInt8)(s:List UInt8):fi (c::s)=encF c++fi s:=rfl
theorem Oc (s t:List UInt8):fi (s++t)=fi s++fi t:=by simp[fi]
theorem Od (c:UInt8):1<=(encF c).length/\(encF c).length<=2:=by
 unfold encF
 (repeat' split)<;>simp
theorem rl (s:List UInt8):s.length<=(fi s).length/\(fi s).length<=2*s.length:=by
 induction s with
 |nil=>exact⟨Nat.le_refl _,Nat.le_refl _⟩
 |cons c t ih=>
  have:=Od c;rw[Ko,List.length_append,List.length_cons];omega
def uK (N:Nat)(v:AVal)(i j k:Nat)(a b c t:AVal):List AVal:=(((List.replicate N v).set i a).set j b).set k c++[t]
theorem Et (N:Nat)(v:AVal)(i j k:Nat)(a b c t:AVal):(uK N v i j k a b c t)[N]? =some t:=by
 unfold uK;rw[List.getElem?_append_right (by simp)];simp
theorem Es {N:Nat}{v:AVal}{i j k n:Nat}{a b c t:AVal}(hn:n<N):(uK N v i j k a b c t)[n]? =some (if n=k then c else if n=j then b else if n=i then a else v):=by
 unfold uK;rw[List.getElem?_append_left (by simpa using hn)];by_cases h1:n=k
 ·subst h1;rw[List.getElem?_set_self (by simpa using hn),if_pos rfl]
 ·rw[if_neg h1,List.getElem?_set_ne (Ne.symm h1)];by_cases h2:n=j
  ·subst h2;rw[List.getElem?_set_self (by simpa using hn),if_pos rfl]
  ·rw[if_neg h2,List.getElem?_set_ne (Ne.symm h2)];by_cases h3:n=i
   ·subst h3;rw[List.getElem?_set_self (by simpa using hn),if_pos rfl]
   ·rw[if_neg h3,List.getElem?_set_ne (Ne.symm h3)];simp[hn]
theorem Cm (i j k:Nat)(a b c t:AVal):(qh i j k a b c t)[256]? =some t:=Et 256 _ i j k a b c t
theorem nk {i j k n:Nat}{a b c t:AVal}(hn:n<256):(qh i j k a b c t)[n]? =some (if n=k then c else if n=j then b else if n=i then a else .raw (.slice none 0 0)):=Es (N:=256) hn
end
section
def pY (c:Bool)(s:List UInt8):List UInt8:=if c then fi s else s
def jr (c:Bool)(s:List UInt8):Bool:=fh false (pY c s)&&decide (bj (pY c s) 34<0)
def si (c:Bool)(q:Pr):Int:=if isS q.n=false then 5 else if q.vs.length=0 then 8 else if q.vs.all (jr c) then 0 else 3
def kB (c:Bool):List Pr->Nat->Err
 |[],_=>.none
 |q::l,i=>if si c q=0 then kB c l (i+1) else .at (si c q) i
def Ln.E (c:Bool)(p:Ln):Err:=if isS p.n=false\/(p.g.length≠0/\isS p.g=false) then .errno 5
 else if 20<p.ps.length then .errno 4
 else match kB c p.ps 0 with
  |.none=>if fh false p.v then .none else .errno 3
  |x=>x
def qD (c:Int):Bool:=decide (c=44\/c=59\/c=58)
def fd (c:Bool)(s:List UInt8):List UInt8:=if jf qD (pY c s)<0 then pY c s else 34::pY c s++[34]
def Qu (c:Bool)(q:Pr):List UInt8:=59::q.n++[61]++Lib.join (q.vs.map (fd c)) [44]
def nG (p:Ln):List UInt8:=if p.g.length=0 then p.n else p.g++[46]++p.n
def Ln.txt (c:Bool)(p:Ln):List UInt8:=nG p++p.ps.flatMap (Qu c)++[58]++p.v
def Ln.T (c:Bool)(p:Ln):List UInt8:=match p.E c with
 |.none=>p.txt c
 |_=>[]
theorem sG {c:Bool}:∀{l:List Pr} (i k:Nat),(∀j,j<k->j<l.length->si c (l.getD j Pr.z)=0)->(k<l.length->si c (l.getD k Pr.z)≠0)->kB c l i=if k<l.length then .at (si c (l.getD k Pr.z)) ((i+k:Nat):Int) else .none
 |[],i,k,_,_=>by simp[kB]
 |q::l,i,0,_,h=>by
  have h:=h (by simp);rw[if_pos (by simp)];simp only[kB];rw[if_neg (by simpa using h)];simp
 |q::l,i,k+1,h1,h2=>by
  have h0:si c q=0:=by simpa using h1 0 (by omega) (by simp)
  simp only[kB];rw[if_pos h0,sG (i+1) k (λj hj hl=>by simpa using h1 (j+1) (by omega) (by simpa using hl)) (λh=>by simpa using h2 (by simpa using h))];have e:i+1+k=i+(k+1):=by omega
  simp only[List.length_cons,List.getD_cons_succ,Nat.add_lt_add_iff_right,e]
theorem Ro {c:Bool}{l:List Pr}{k:Nat}(hk:k<l.length)(h:∀j,j<k->si c (l.getD j Pr.z)=0)(hb:si c (l.getD k Pr.z)≠0):kB c l 0= .at (si c (l.getD k Pr.z)) k:=by
 rw[sG 0 k (λj hj _=>h j hj) (λ_=>hb),if_pos hk];simp
theorem zP {c:Bool}{l:List Pr}{k:Nat}(hk:l.length<=k)(h:∀j,j<k->si c (l.getD j Pr.z)=0):kB c l 0= .none:=by
 rw[sG 0 k (λj hj _=>h j hj) (λh=>absurd h (by omega)),if_neg (by omega)]
def M5 (c:Bool)(l:List (List UInt8))(j:Nat):Prop:=∀i,i<j->jr c (l.getD i [])=true
theorem zp {c:Bool}{l:List (List UInt8)}{j:Nat}(h:M5 c l j)(k:jr c (l.getD j [])=true):M5 c l (j+1):=λi hi=>by
 rcases Nat.lt_or_ge i j with g|g
 ·exact h i g
 ·rw[show i=j by omega];exact k
theorem Dx {c:Bool}{l:List (List UInt8)}{j:Nat}(hj:l.length<=j)(h:M5 c l j):l.all (jr c)=true:=by
 rw[List.all_eq_true];intro x hx
 obtain⟨i,hi,rfl⟩:=List.getElem_of_mem hx
 have:=h i (by omega)
 rwa [List.getD_eq_getElem?_getD,List.getElem?_eq_getElem hi] at this
theorem Dv {c:Bool}{l:List (List UInt8)}{j:Nat}(hj:j<l.length)(h:jr c (l.getD j [])=false):l.all (jr c)=false:=by
 rw[List.all_eq_false];refine⟨l[j],List.getElem_mem hj,?_⟩;rw[List.getD_eq_getElem?_getD,List.getElem?_eq_getElem hj] at h;simpa using h
theorem C8 {c:Bool}{q:Pr}(h:isS q.n=false):si c q=5:=by unfold si;rw[if_pos h]
theorem HN {c:Bool}{q:Pr}(h:isS q.n=true)(k:q.vs.length=0):si c q=8:=by unfold si;rw[if_neg (by rw[h];decide),if_pos k]
theorem Sk {c:Bool}{q:Pr}(h:isS q.n=true)(k:q.vs.length≠0)(m:q.vs.all (jr c)=false):si c q=3:=by unfold si;rw[if_neg (by rw[h];decide),if_neg k,if_neg (by rw[m];decide)]
theorem Sm {c:Bool}{q:Pr}(h:isS q.n=true)(k:q.vs.length≠0)(m:q.vs.all (jr c)=true):si c q=0:=by unfold si;rw[if_neg (by rw[h];decide),if_neg k,if_pos m]
theorem J0 {l:List (List UInt8)}(h:l≠[])(x sep:List UInt8):Lib.join (l++[x]) sep=Lib.join l sep++sep++x:=by
 cases l with
 |nil=>exact absurd rfl h
 |cons y r=>
  rw[List.cons_append,Lib.join_cons,Lib.join_cons];simp[Lib.joinTail]
def yS (c:Bool)(vs:List (List UInt8))(j:Nat):List UInt8:=match j with
 |0=>[]
 |j+1=>61::Lib.join ((vs.take (j+1)).map (fd c)) [44]
theorem B9 {c:Bool}{vs:List (List UInt8)}{j:Nat}(hj:j<vs.length):yS c vs (j+1)=yS c vs j++(if j=0 then[61] else[44])++fd c (vs.getD j []):=by
 have e:vs.take (j+1)=vs.take j++[vs.getD j []]:=by
  rw[List.take_succ_eq_append_getElem hj,List.getD_eq_getElem?_getD,List.getElem?_eq_getElem hj];rfl
 cases j with
 |zero=>
  simp only[yS,e,List.take_zero,List.nil_append,List.map_cons,List.map_nil,Lib.join_one,if_true]
  rfl
 |succ j=>
  simp only[yS]
  rw[e,List.map_append,List.map_cons,List.map_nil,J0 (λh=>by
   have:=congrArg List.length h
   simp only[List.length_map,List.length_take,List.length_nil] at this
   omega),if_neg (by omega)]
  simp only[List.cons_append,List.append_assoc]
theorem PC {c:Bool}{q:Pr}(h:q.vs.length≠0):Qu c q=59::q.n++yS c q.vs q.vs.length:=by
 unfold Qu;cases hv:q.vs with
 |nil=>rw[hv] at h;exact absurd rfl h
 |cons x r=>
  have e:(x::r).take (r.length+1)=x::r:=List.take_of_length_le (by simp);simp only[List.length_cons,yS,e,List.append_assoc];rfl
theorem Br (c:Bool)(s:List UInt8):(pY c s).length<=2*s.length:=by
 unfold pY;split
 ·exact(rl s).2
 ·omega
theorem C5 (c:Bool)(s:List UInt8):(fd c s).length<=2*s.length+2:=by
 have:=Br c s;unfold fd;split
 ·omega
 ·simp only[List.cons_append,List.length_cons,List.length_append,List.length_nil];omega
theorem qN (c:Bool):∀l:List (List UInt8),Lib.lens (l.map (fd c))<=2*Lib.lens l+2*l.length
 |[]=>by simp[Lib.lens]
 |x::r=>by
  have h1:=qN c r;have h2:=C5 c x;have e1:Lib.lens ((x::r).map (fd c))=(fd c x).length+Lib.lens (r.map (fd c)):=by simp[Lib.lens]
  have e2:Lib.lens (x::r)=x.length+Lib.lens r:=by simp[Lib.lens]
  rw[e1,e2,List.length_cons];omega
theorem wB (l:List (List UInt8)):(Lib.join l [44]).length<=Lib.lens l+l.length:=by
 cases l with
 |nil=>simp[Lib.join_nil]
 |cons x r=>
  have e2:Lib.lens (x::r)=x.length+Lib.lens r:=by simp[Lib.lens]
  rw[Lib.join_cons,List.length_append,Lib.joinTail_length,e2,List.length_cons];simp only[List.length_cons,List.length_nil];omega
theorem PB (c:Bool)(vs:List (List UInt8))(j:Nat):(yS c vs j).length<=1+2*Lib.lens vs+3*vs.length:=by
 cases j with
 |zero=>simp[yS]
 |succ j=>
  simp only[yS,List.length_cons];have h1:=wB ((vs.take (j+1)).map (fd c));have h2:=qN c (vs.take (j+1));have h3:=Lib.lens_take_le vs (j+1);rw[List.length_map,List.length_take] at h1;rw[List.length_take] at h2;omega
theorem HM (c:Bool)(q:Pr):(Qu c q).length<=2+q.n.length+2*Lib.lens q.vs+3*q.vs.length:=by
 unfold Qu;have h1:=wB (q.vs.map (fd c));have h2:=qN c q.vs;rw[List.length_map] at h1;simp only[List.length_cons,List.length_append,List.length_nil,List.cons_append];omega
def pd (c:Bool)(ps:List Pr)(k:Nat):List UInt8:=(ps.take k).flatMap (Qu c)
theorem vV {c:Bool}{ps:List Pr}{k:Nat}(hk:k<ps.length):pd c ps (k+1)=pd c ps k++Qu c (ps.getD k Pr.z):=by
 have e:ps.take (k+1)=ps.take k++[ps.getD k Pr.z]:=by
  rw[List.take_succ_eq_append_getElem hk,List.getD_eq_getElem?_getD,List.getElem?_eq_getElem hk];rfl
 unfold pd;rw[e,List.flatMap_append];simp
theorem AU {c:Bool}{ps:List Pr}{N:Nat}(h:∀k,(ps.getD k Pr.z).n.length<=N/\(ps.getD k Pr.z).vs.length<=N/\Lib.lens (ps.getD k Pr.z).vs<=N):∀k,k<=ps.length->(pd c ps k).length<=k*(2+6*N)
 |0,_=>by simp[pd]
 |k+1,hk=>by
  have ih:=AU (c:=c) h k (by omega);have h1:=HM c (ps.getD k Pr.z);have h2:=h k;rw[vV (by omega),List.length_append,Nat.succ_mul];omega
theorem Hj (c:Bool)(p:Ln):p.txt c=nG p++pd c p.ps p.ps.length++[58]++p.v:=by
 unfold Ln.txt pd;rw[List.take_of_length_le (Nat.le_refl _)]
theorem Ln.E_5 {c:Bool}{p:Ln}(h:isS p.n=false\/(p.g.length≠0/\isS p.g=false)):p.E c= .errno 5:=by unfold Ln.E;rw[if_pos h]
theorem Ln.E_4 {c:Bool}{p:Ln}(h1:isS p.n=true)(h2:p.g.length=0\/isS p.g=true)(h:20<p.ps.length):p.E c= .errno 4:=by
 unfold Ln.E;rw[if_neg (by rintro(k|⟨k1,k2⟩);rw[h1] at k;cases k;rcases h2 with h2|h2;exact k1 h2;rw[h2] at k2;cases k2),if_pos h]
theorem Ln.E_f {c:Bool}{p:Ln}(h1:isS p.n=true)(h2:p.g.length=0\/isS p.g=true)(h:p.ps.length<=20):p.E c=match kB c p.ps 0 with
  |.none=>if fh false p.v then .none else .errno 3
  |x=>x:=by
 unfold Ln.E;rw[if_neg (by rintro(k|⟨k1,k2⟩);rw[h1] at k;cases k;rcases h2 with h2|h2;exact k1 h2;rw[h2] at k2;cases k2),if_neg (by omega)]
theorem Ln.E_at {c:Bool}{p:Ln}(h1:isS p.n=true)(h2:p.g.length=0\/isS p.g=true)(h:p.ps.length<=20){k:Nat}(hk:k<p.ps.length)(hj:∀j,j<k->si c (p.ps.getD j Pr.z)=0)(hb:si c (p.ps.getD k Pr.z)≠0):p.E c= .at (si c (p.ps.getD k Pr.z)) k:=by
 rw[Ln.E_f h1 h2 h,Ro hk hj hb]
theorem Ln.E_3 {c:Bool}{p:Ln}(h1:isS p.n=true)(h2:p.g.length=0\/isS p.g=true)(h:p.ps.length<=20){k:Nat}(hk:p.ps.length<=k)(hj:∀j,j<k->si c (p.ps.getD j Pr.z)=0)(hv:fh false p.v=false):p.E c= .errno 3:=by
 rw[Ln.E_f h1 h2 h,zP hk hj]
 simp only[hv,Bool.false_eq_true,if_false]
theorem Ln.E_0 {c:Bool}{p:Ln}(h1:isS p.n=true)(h2:p.g.length=0\/isS p.g=true)(h:p.ps.length<=20){k:Nat}(hk:p.ps.length<=k)(hj:∀j,j<k->si c (p.ps.getD j Pr.z)=0)(hv:fh false p.v=true):p.E c= .none:=by
 rw[Ln.E_f h1 h2 h,zP hk hj];simp only[hv,if_true]
def Po (c:Bool)(q:Pr)(j:Nat)(e:Int):Prop:=(isS q.n=false/\e=5)\/(isS q.n=true/\q.vs.length=0/\e=8)\/(isS q.n=true/\q.vs.length≠0/\((e=0/\M5 c q.vs j)\/(e=3/\q.vs.all (jr c)=false)))
theorem oj {c:Bool}{q:Pr}{j:Nat}{e:Int}(h:Po c q j e)(hj:q.vs.length<=j):e=si c q:=by
 rcases h with⟨h1,h2⟩|⟨h1,h2,h3⟩|⟨h1,h2,⟨h3,h4⟩|⟨h3,h4⟩⟩
 ·rw[C8 h1,h2]
 ·rw[HN h1 h2,h3]
 ·rw[Sm h1 h2 (Dx hj h4),h3]
 ·rw[Sk h1 h2 h4,h3]
theorem vX {c:Bool}{q:Pr}{j:Nat}{e:Int}(h:Po c q j e)(he:e≠0):Po c q (j+1) e:=by
 rcases h with h|h|⟨h1,h2,⟨h3,h4⟩|h3⟩
 ·exact .inl h
 ·exact .inr (.inl h)
 ·exact absurd h3 he
 ·exact .inr (.inr ⟨h1,h2,.inr h3⟩)
theorem FO {c:Bool}{q:Pr}{j:Nat}{e:Int}(h:Po c q j e)(he:e=0)(hm:jr c (q.vs.getD j [])=true):Po c q (j+1) e:=by
 rcases h with h|h|⟨h1,h2,⟨h3,h4⟩|h3⟩
 ·exact absurd (he.symm.trans h.2) (by decide)
 ·exact absurd (he.symm.trans h.2.2) (by decide)
 ·exact .inr (.inr ⟨h1,h2,.inl ⟨h3,zp h4 hm⟩⟩)
 ·exact absurd (he.symm.trans h3.1) (by decide)
theorem AV {c:Bool}{q:Pr}{j:Nat}{e:Int}(h:Po c q j e)(he:e=0)(hj:j<q.vs.length)(hm:jr c (q.vs.getD j [])=false):Po c q (j+1) 3:=by
 rcases h with h|h|⟨h1,h2,⟨h3,h4⟩|h3⟩
 ·exact absurd (he.symm.trans h.2) (by decide)
 ·exact absurd (he.symm.trans h.2.2) (by decide)
 ·exact .inr (.inr ⟨h1,h2,.inr ⟨rfl,Dv hj hm⟩⟩)
 ·exact absurd (he.symm.trans h3.1) (by decide)
end
section
attribute [local irreducible] bN aw aa aC bg ab ae
attribute [local irreducible] aD dy gC d8 eC fA
def firstTab:List AVal:=Go.Pinned.utf8FirstZ.map (λx:Nat=>AVal.int .u8 (x:Int))
def acceptTab:List AVal:=[.int .u8 128,.int .u8 191,.int .u8 160,.int .u8 191,.int .u8 128,.int .u8 159,.int .u8 144,.int .u8 191,.int .u8 128,.int .u8 143,.int .u8 0,.int .u8 0,.int .u8 0,.int .u8 0,.int .u8 0,.int .u8 0,.int .u8 0,.int .u8 0,.int .u8 0,.int .u8 0,.int .u8 0,.int .u8 0,.int .u8 0,.int .u8 0,.int .u8 0,.int .u8 0,.int .u8 0,.int .u8 0,.int .u8 0,.int .u8 0,.int .u8 0,.int .u8 0]
def pV (b:Nat):Nat:=
 if b<128 then 240 else if b<194 then 241 else if b<224 then 2 else if b=224 then 19 else if b<237 then 3 else if b=237 then 35 else if b<240 then 3 else if b=240 then 52
 else if b<244 then 4 else if b=244 then 68 else 241
theorem Ki:∀b:Fin 256,Go.Pinned.utf8FirstZ[b.1]? =some (pV b.1):=by decide+kernel
theorem tj (b:Nat)(h:b<256):firstTab[b*1]? =some (.int .u8 (pV b:Int)):=by
 rw[Nat.mul_one];simp only[firstTab,List.getElem?_map,Ki ⟨b,h⟩,Option.map_some]
def gI (s:List UInt8):Nat×Nat:=if s.length=0 then(65533,0) else if(aD s).2=0 then(65533,1) else aD s
theorem Ps (b:Int):IntKind.wrap .i32 (BitVec.ofInt 32 (IntKind.wrap .i32 (BitVec.ofInt 32 b&&& ~~~ BitVec.ofInt 32 (IntKind.wrap .i32 (241*2147483648)/2147483648)).toNat)|||BitVec.ofInt 32 (IntKind.wrap .i32 (BitVec.ofInt 32 65533&&& BitVec.ofInt 32 (IntKind.wrap .i32 (241*2147483648)/2147483648)).toNat)).toNat=65533:=by
 have e:(~~~ BitVec.ofInt 32 (IntKind.wrap .i32 (241*2147483648)/2147483648))=0#32:=by decide+kernel
 rw[e,BitVec.and_zero]
 decide+kernel
attribute [local irreducible] firstTab
abbrev utfTy:List (Nat×List AVal):=[(5,firstTab),(6,acceptTab)]
theorem Kr (b:Nat)(h:b<256)(h1:128<=b):
  (firstTab[b*1]? =some (.int .u8 241)/\(b<194\/245<=b))\/(firstTab[b*1]? =some (.int .u8 2)/\194<=b/\b<224)\/(firstTab[b*1]? =some (.int .u8 19)/\b=224)
  \/(firstTab[b*1]? =some (.int .u8 3)/\225<=b/\b<240/\b≠237)\/(firstTab[b*1]? =some (.int .u8 35)/\b=237)\/(firstTab[b*1]? =some (.int .u8 52)/\b=240)
  \/(firstTab[b*1]? =some (.int .u8 4)/\241<=b/\b<244)\/(firstTab[b*1]? =some (.int .u8 68)/\b=244):=by
 have e:=tj b h
 have key:∀c:Nat,pV b=c->firstTab[b*1]? =some (.int .u8 (c:Int)):=λc hc=>by rw[e,hc]
 by_cases c1:b<194\/245<=b
 ·refine .inl ⟨key 241 (by unfold pV;(repeat' split)<;>omega),c1⟩
 by_cases c2:b<224
 ·refine .inr (.inl ⟨key 2 (by unfold pV;(repeat' split)<;>omega),by omega,c2⟩)
 by_cases c3:b=224
 ·subst c3;exact .inr (.inr (.inl ⟨key 19 rfl,rfl⟩))
 by_cases c5:b=237
 ·subst c5;exact .inr (.inr (.inr (.inr (.inl ⟨key 35 rfl,rfl⟩))))
 by_cases c4:b<240
 ·refine .inr (.inr (.inr (.inl ⟨key 3 (by unfold pV;(repeat' split)<;>omega),by omega,c4,c5⟩)))
 by_cases c6:b=240
 ·subst c6;exact .inr (.inr (.inr (.inr (.inr (.inl ⟨key 52 rfl,rfl⟩)))))
 by_cases c7:b<244
 ·refine .inr (.inr (.inr (.inr (.inr (.inr (.inl ⟨key 4 (by unfold pV;(repeat' split)<;>omega),by omega,c7⟩))))))
 have c8:b=244:=by omega
 subst c8
 exact .inr (.inr (.inr (.inr (.inr (.inr (.inr ⟨key 68 rfl,rfl⟩))))))
theorem CP {s:List UInt8}{a b:Int}(h0:¬s.length=0)(h:((aD s).1:Int)=0/\((aD s).2:Int)=0)(ha:a=65533)(hb:b=1):((gI s).1:Int)=a/\((gI s).2:Int)=b:=by
 have:(aD s).2=0:=by omega
 subst ha hb;simp[gI,h0,this]
theorem Hz {s:List UInt8}{a b:Int}(h0:¬s.length=0)(h:((aD s).1:Int)=a/\((aD s).2:Int)=b)(hb:0<b):((gI s).1:Int)=a/\((gI s).2:Int)=b:=by
 have:¬(aD s).2=0:=by omega
 simpa[gI,h0,this] using h
theorem Om {G:Glo}(hGL:ab G utfTy)(s:List UInt8)(hs:s.length=0\/128<=aa s 0):
    aj prog G 160 [.str s] (.tuple [.int .i32 ((gI s).1:Int),.int .i64 ((gI s).2:Int)]):=by
  refine sF func160 call160 rfl rfl rfl rfl hGL ?_;intro C hC
  by_cases h0:s.length=0
  · refine a6 ?_
    intros
    refine I6 ?_
    simp only[gI,if_pos h0]
    exact⟨rfl,rfl⟩
  replace hs:128<=aa s 0:=by omega
  have hdc:=Kr (aa s 0) (bu s 0) hs
  refine a6 ?_
  intros
  rcases hdc with⟨hx,hb⟩|⟨hx,hb⟩|⟨hx,hb⟩|⟨hx,hb⟩|⟨hx,hb⟩|⟨hx,hb⟩|⟨hx,hb⟩|⟨hx,hb⟩
  all_goals (erw[hx])
  · refine a6 ?_
    intros
    apply UJ
    refine a6 ?_
    intros
    apply UJ
    refine a6 ?_
    intros
    apply UJ
    refine a6 ?_
    intros
    clear hx
    refine I6 ?_
    refine CP h0 ?_ (Ps _) rfl
    generalize hz:aD s=z
    unfold aD bH jL xq xp xo at hz
    try simp only[show Int.toNat 0=0 from rfl,show Int.toNat 1=1 from rfl,show Int.toNat (1+1)=2 from rfl,show Int.toNat (1+1+1)=3 from rfl] at*
    generalize aa s 0=b0 at*
    generalize aa s 1=b1 at*
    generalize aa s 2=b2 at*
    generalize aa s 3=b3 at*
    generalize s.length=l at*
    repeat' (split at hz;try (exfalso;omega))
    all_goals (try subst z)
    all_goals (first
      |exact⟨rfl,rfl⟩
      |(simp only[Bool.and_eq_true,Bool.or_eq_true,decide_eq_true_eq,beq_iff_eq] at*;first|(exfalso;omega)|omega))
  all_goals (repeat' (first|(conv=>whnf);first|refine .w ?_|refine .v ?_|refine cj ?_ ?_<;>(intro hb;try exact dd hb)|apply aF|apply bf|(apply bQ<;>intro hb)|(apply bR;intro hbd)|(apply bS;intro bl)|(apply cb;intro va vk vc hva)|(apply ca;intro v)|(apply cd;intro bl cap hcap)|apply cg|(apply bZ<;>intro hnx)|apply cK mixed hC hGL (by kernel_rfl)|(show Rt _ _ _;exact bK)|fail)
             all_goals try conv=>whnf)
  all_goals (clear hx;refine I6 ?_)
  all_goals (first
    | (refine CP h0 ?_ rfl rfl
       generalize hz:aD s=z
       unfold aD bH jL xq xp xo at hz
       try simp only[show Int.toNat 0=0 from rfl,show Int.toNat 1=1 from rfl,show Int.toNat (1+1)=2 from rfl,show Int.toNat (1+1+1)=3 from rfl] at*
       generalize aa s 0=b0 at*
       generalize aa s 1=b1 at*
       generalize aa s 2=b2 at*
       generalize aa s 3=b3 at*
       generalize s.length=l at*
       repeat' (split at hz;try (exfalso;omega))
       all_goals (try subst z)
       all_goals (first
         |exact⟨rfl,rfl⟩
         |(simp only[Bool.and_eq_true,Bool.or_eq_true,decide_eq_true_eq,beq_iff_eq] at*;first|(exfalso;omega)|omega))
       done)
    | (refine Hz h0 ?_ (by decide)
       generalize hz:aD s=z
       unfold aD bH jL xq xp xo at hz
       try simp only[show Int.toNat 0=0 from rfl,show Int.toNat 1=1 from rfl,show Int.toNat (1+1)=2 from rfl,show Int.toNat (1+1+1)=3 from rfl] at*
       generalize aa s 0=b0 at*
       generalize aa s 1=b1 at*
       generalize aa s 2=b2 at*
       generalize aa s 3=b3 at*
       generalize s.length=l at*
       repeat' (split at hz;try (exfalso;omega))
       all_goals (try subst z)
       all_goals (first
         |exact⟨rfl,rfl⟩
         |(simp only[Bool.and_eq_true,Bool.or_eq_true,decide_eq_true_eq,beq_iff_eq] at*;first|(exfalso;omega)|omega))))
theorem On {G:Glo}(hGL:ab G utfTy)(s:List UInt8):
    aj prog G 98 [.str s] (.tuple [.int .i32 ((gI s).1:Int),.int .i64 ((gI s).2:Int)]):=by
  refine sF func98 call98 rfl rfl rfl rfl hGL ?_;intro C hC;by_cases h0:s.length=0\/128<=aa s 0
  · have hd:=Om (G:=G) hGL s h0;by_cases h1:s.length=0
    all_goals (repeat' (first|(conv=>whnf);first|refine .w ?_|refine .v ?_|refine cj ?_ ?_<;>(intro hb;try exact dd hb)|apply aF|apply bf|(apply bQ<;>intro hb)|(apply bR;intro hbd)|(apply aZ;exact hd)|(apply aL (i:=0) rfl;exact hd)|(apply bS;intro bl)|(apply cb;intro va vk vc hva)|(apply ca;intro v)|(apply cd;intro bl cap hcap)|apply cg|(apply bZ<;>intro hnx)|apply cK mixed hC hGL (by kernel_rfl)|(apply cq;assumption;exact hd;exact rfl)|(show Rt _ _ _;exact bK)|fail)
               all_goals try conv=>whnf)
    all_goals (exfalso;simp only[Int.toNat_zero] at*;omega)
  · refine a6 ?_;intros;refine I6 ?_;refine Hz (by omega) ?_ (by decide);generalize hz:aD s=z;unfold aD bH jL xq xp xo at hz;try simp only[show Int.toNat 0=0 from rfl,show Int.toNat 1=1 from rfl,show Int.toNat (1+1)=2 from rfl,show Int.toNat (1+1+1)=3 from rfl] at*
    generalize aa s 0=b0 at*
    generalize aa s 1=b1 at*
    generalize aa s 2=b2 at*
    generalize aa s 3=b3 at*
    generalize s.length=l at*
    repeat' (split at hz;try (exfalso;omega))
    all_goals (try subst z)
    all_goals (first
      |exact⟨rfl,rfl⟩
      |(simp only[Bool.and_eq_true,Bool.or_eq_true,decide_eq_true_eq,beq_iff_eq] at*;first|(exfalso;omega)|omega))
end
section
attribute [local irreducible] bN aw aa aC bg ab ae
attribute [local irreducible] aD dy gC d8 eC fA
attribute [local irreducible] firstTab gI
theorem s8 (s:List UInt8):((aD s).2=0->(aD s).1=0)/\((aD s).2=1->(aD s).1<128)/\(s.length=0->(aD s).2=0):=by
 refine⟨?_,?_,?_⟩
 ·unfold aD;(repeat' split)<;>simp
 ·unfold aD;(repeat' split)<;>simp;omega
 ·intro h;unfold aD;simp[h]
theorem Jo (s:List UInt8):(((aD s).2:Int)=0->((gI s).2:Int)=0/\s.length=0\/((gI s).1:Int)=65533/\((gI s).2:Int)=1)/\(((aD s).2:Int)≠0->((gI s).1:Int)=(aD s).1/\((gI s).2:Int)=(aD s).2):=by
 have hf:=s8 s;unfold gI;by_cases h0:s.length=0
 ·rw[if_pos h0];refine⟨λ_=>.inl ⟨rfl,h0⟩,λh=>absurd (hf.2.2 h0) (by omega)⟩
 ·rw[if_neg h0];by_cases h1:(aD s).2=0
  ·rw[if_pos h1];exact⟨λ_=>.inr ⟨rfl,rfl⟩,λh=>absurd h1 (by omega)⟩
  ·rw[if_neg h1];exact⟨λh=>absurd h (by omega),λ_=>⟨rfl,rfl⟩⟩
theorem Mo {G:Glo}(hU:ab G utfTy)(s:List UInt8):
  aj prog G 53 [.str s] (.tuple [.int .i64 ((aD s).1:Int),.int .i64 ((aD s).2:Int)]):=by
 refine ao func53 call53 λC hC hGL=> ?_;have hd:=On (G:=G) hU s;have hn:=nB s;have hf:=s8 s;have hr:=Jo s;have hk:((gI s).1:Int)<=1114111:=by
  by_cases h:(aD s).2=0
  ·unfold gI;rw[if_pos h];split<;>decide
  ·omega
 refine xw ?_;repeat' first|exact .n|apply Lc.mk
 all_goals intros
 all_goals (refine I6 ?_;omega)
theorem ut {G:Glo}(hU:ab G utfTy)(s:List UInt8)(hl:s.length<=9223372036854775807):aj prog G 31 [.str s] (.int .i64 (dy s)):=by
 refine ao func31 call31 λC hC hGL=> ?_;have hle:=λk=>nB (s.drop k);have hN:=λt=>Mo (G:=G) hU t;repeat' (first|(conv=>whnf);first|refine .w ?_|refine .v ?_|refine cj ?_ ?_<;>(intro hb;try exact dd hb)|apply aF|apply bf|(apply bQ<;>intro hb)|(apply bR;intro hbd)|(apply aZ;exact hN _)|(apply aL (i:=0) rfl;exact hN _)|(apply bS;intro bl)|(apply cb;intro va vk vc hva)|(apply ca;intro v)|(apply cd;intro bl cap hcap)|apply cg|(apply bZ<;>intro hnx)|apply cK mixed hC hGL (by kernel_rfl)|(apply cq;assumption;exact hN _;exact rfl)|(show Rt _ _ _;exact bK)|fail)
 all_goals try conv=>whnf
 refine lp hC hGL (λ(i:Nat)=>[(0,.str s),(7,.own 0 (.pointer (some ⟨bl,0,none⟩)))]) (λi=>[.iter bl s i]) (λi=>i<=s.length/\gC s=(gC (s.drop i)).map (· +i)) (λi=>s.length-i) 0 ?_ ad rfl ?_
 ·exact⟨Nat.zero_le _,by simp⟩
 rintro i ⟨hi,hb0⟩;have hn:=hle i;rw[List.length_drop] at hn;repeat' (first|(conv=>whnf);first|refine .w ?_|refine .v ?_|refine cj ?_ ?_<;>(intro hb;try exact dd hb)|apply aF|apply bf|(apply bQ<;>intro hb)|(apply bR;intro hbd)|(apply aZ;exact hN _)|(apply aL (i:=0) rfl;exact hN _)|(apply bS;intro bl)|(apply cb;intro va vk vc hva)|(apply ca;intro v)|(apply cd;intro bl cap hcap)|apply cg|(apply bZ<;>intro hnx)|apply cK mixed hC hGL (by kernel_rfl)|(apply cq;assumption;exact hN _;exact rfl)|(show Rt _ _ _;exact bK)|fail)
 all_goals try conv=>whnf
 ·apply ak;refine congrArg (AVal.int .i64) ?_;have h1:=iP (s.drop i) (by rw[List.length_drop];omega);rw[if_pos (by omega)] at h1;rw[h1] at hb0;simp only[dy,hb0,Option.map_some,Nat.zero_add]
 ·have h1:=iP (s.drop i) (by rw[List.length_drop];omega);rw[if_neg (by omega)] at h1;have h2:d8 (s.drop i)=(aD (s.drop i)).2:=by unfold d8;rw[if_neg (by omega)]
  refine di (i+d8 (s.drop i)) ⟨by omega,?_⟩ (by omega) ⟨rfl,rfl,trivial⟩ rfl;rw[hb0,h1,List.drop_drop,h2];cases gC (s.drop (i+(aD (s.drop i)).2))<;>simp<;>omega
 ·apply ak;refine congrArg (AVal.int .i64) ?_;rw[rA (s.drop i) (by rw[List.length_drop];omega)] at hb0;simp only[dy,hb0,Option.map_none]
end
section
theorem qR {b:Bool}{c:Int}(h:(c<32/\c≠9/\c≠10)\/c=127\/(c=10/\b=false)):ow b c=true:=decide_eq_true (by
 rcases h with h|h|h
 ·exact .inl ⟨h.1,h.2.1,.inl h.2.2⟩
 ·exact .inr h
 ·exact .inl ⟨by omega,by omega,.inr h.2⟩)
theorem Bf {b:Bool}{c:Int}(h1:c≠127)(h:32<=c\/c=9\/(c=10/\b=true)):ow b c=false:=decide_eq_false (by
 rintro(k|k)
 ·rcases h with h|h|h
  ·omega
  ·omega
  ·rcases k.2.2 with m|m
   ·exact m h.1
   ·rw[h.2] at m;cases m
 ·exact h1 k)
theorem Su {c:Int}:ow true c=true↔(c<32/\c≠9/\c≠10)\/c=127:=by simp[ow]
theorem zK {c:Int}:ow false c=true↔(c<32/\c≠9)\/c=127:=by simp[ow]
theorem NR {b:Bool}{s:List UInt8}{i:Nat}(hi:i<s.length)(h:ow b (aa s i:Int)=true)(hb:∀j,j<i->ow b (aa s j:Int)=false):fh b s=false:=by
 unfold fh;rw[mG hi h hb];exact decide_eq_false (by omega)
theorem Iq {b:Bool}{s:List UInt8}{i:Nat}(hi:s.length<=i)(hb:∀j,j<i->ow b (aa s j:Int)=false):fh b s=lx (dy s) 0:=by
 unfold fh;rw[iM (λj hj=>hb j (by omega)),Bool.eq_iff_iff,nE];simp
attribute [local irreducible] bN aw aa aC bg ab ae
attribute [local irreducible] ow fh dy
theorem s6 {G:Glo}(c:Int):aj prog G 107 [.int .u8 c] (.bool (ow false c)):=by
 refine ao func107 call107 λC hC hGL=> ?_;refine xw ?_;repeat' first|exact .n|apply Lc.mk
 all_goals intros
 all_goals (apply ak;refine congrArg AVal.bool ?_)
 all_goals (rw[Bool.eq_iff_iff,zK];simp only[bP,reduceCtorEq,true_iff,false_iff];omega)
end
section
attribute [local irreducible] bN aw aa aC bg ab ae
attribute [local irreducible] ow fh dy
theorem A7 {G:Glo}(c:Int):aj prog G 196 [.int .u8 c] (.bool (ow false c)):=by
 refine ao func196 call196 λC hC hGL=> ?_;refine xw ?_;repeat' first|exact .n|apply Lc.mk
 all_goals intros
 all_goals (apply ak;refine congrArg AVal.bool ?_)
 all_goals (rw[Bool.eq_iff_iff,zK];simp only[bP,reduceCtorEq,true_iff,false_iff];omega)
end
section
theorem oI {G:Glo}(s:List UInt8)(c:UInt8):aj prog G 209 [.str s,.str [c]] (.int .i64 (s.countP (· ==c):Nat)):=by
 refine bO rfl call209 ?_;rintro R args ⟨x,t,e,hx,y,t',e',hy,rfl⟩ w hG hs;obtain rfl:=aI.1 hx;obtain rfl:=aI.1 hy;subst e';obtain rfl:=fb e;refine(strings_Count_one ⟨s.toArray⟩ c w).mono ?_;rintro e w' ⟨rfl,rfl⟩;exact⟨by simp[AVal.conc,Lib.countByte,List.count],Below.refl _ _⟩
end
section
abbrev Wj:List AVal:=[.str [94],.str [94,94],.str [10],.str [94,110],.str [34],.str [94,39]]
set_option maxRecDepth 20000 in
theorem PT (a b c t x:AVal):(qh 34 10 94 a b c t).set 34 x=qh 34 10 94 x b c t:=rfl
set_option maxRecDepth 20000 in
theorem PU (a b c t x:AVal):(qh 34 10 94 a b c t).set 10 x=qh 34 10 94 a x c t:=rfl
set_option maxRecDepth 20000 in
theorem PR (a b c t x:AVal):(qh 34 10 94 a b c t).set 94 x=qh 34 10 94 a b x t:=rfl
set_option maxRecDepth 20000 in
theorem LV (a b c t x:AVal):(qh 34 10 94 a b c t).set 256 x=qh 34 10 94 a b c x:=rfl
abbrev Uw (i:Nat):AVal:=.str [([34,10,94]:List UInt8).getD i 0]
theorem Rw:R7 encF [34,10,94] (qh 34 10 94 (.list 1 2 (jx [94,39])) (.list 1 2 (jx [94,110])) (.list 1 2 (jx [94,94])) (.list 1 3 Uw)):=by
 refine⟨λc hc=> ?_,λc hc=> ?_,Cm ..,by decide⟩
 ·rw[nk c.toNat_lt];simp only[List.mem_cons,List.not_mem_nil,or_false] at hc;rcases hc with rfl|rfl|rfl
  all_goals exact⟨rfl,rfl⟩
 ·rw[nk c.toNat_lt];simp only[List.mem_cons,List.not_mem_nil,or_false,not_or] at hc;have h:∀k:UInt8,c≠k->c.toNat≠k.toNat:=λk hk e=>hk (UInt8.toNat_inj.1 e);have h1:c.toNat≠34:=h 34 hc.1;have h2:c.toNat≠10:=h 10 hc.2.1;have h3:c.toNat≠94:=h 94 hc.2.2;exact⟨by rw[if_neg h3,if_neg h2,if_neg h1],Ee h3 h2 h1⟩
theorem Ob (s:List UInt8):fi s=s.flatMap encF:=rfl
attribute [local irreducible] bN aw aa aC bg ab ae
attribute [local irreducible] qh encF fi
theorem G0 {G:Glo}:EP G 6 Wj encF [34,10,94]:=λbr bl vc=>by
 refine wW (KF (G:=G) br bl vc) ?_;rintro r H ⟨va,vk,vt,bz,b1,c1,b2,c2,b3,c3,hva,rfl,rfl⟩;intro C R w e hm he;obtain⟨r2,H2,R2,⟨e1,e2⟩,h2,h3⟩:=vf (a':=.rop (qh 34 10 94 (.list 1 2 (jx [94,39])) (.list 1 2 (jx [94,110])) (.list 1 2 (jx [94,94])) (.list 1 3 Uw)) 0) (H':=[OU br 6 vc Wj,.cells bl (some 330) (Vb br 6 vc)])
  (λC=>aE (kb (i:=6) (k:=3) (p:=94) rfl rfl λR hr=>ij (PR ..) (nk (by decide)) λ_=>df hr)
   (aE (kb (i:=5) (k:=3) (p:=10) rfl rfl λR hr=>ij (PU ..) (nk (by decide)) λ_=>df hr)
   (aE (kb (i:=4) (k:=3) (p:=34) rfl rfl λR hr=>ij (PT ..) (nk (by decide)) λ_=>df hr)
   (aE (jC (i:=2) (k:=2) (p:=256) Uw rfl rfl (λj hj=>by rcases(show j=0\/j=1\/j=2 by omega) with rfl|rfl|rfl<;>exact⟨rfl,rfl⟩) λR hr=>ij (LV ..) (Cm ..) λ_=>df hr)
   (aE (aK (i:=2) (k:=0) rfl rfl) (cQ ad an)))))) C R w e hm he
 exact⟨r2,H2,R2,⟨_,Rw,e1,e2⟩,h2,h3⟩
theorem ru {G:Glo}(s:List UInt8)(hl:s.length<=2000000)(hct:∀c,aj prog G 209 [.str s,.str [c]] (.int .i64 (s.countP (· ==c):Nat))):aj prog G 155 [.str s] (.str (fi s)):=by
 refine ao func155 call155 λC hC hGL=> ?_;refine az ?_;intros;refine⟨_,m5 6 _ (by decide) (by decide) ?_,?_,?_⟩
 ·unfold aC;exact lF rfl
 ·rintro v H' ⟨bl,va,vk,vc,hva,e,rfl⟩;cases e;obtain⟨br,rfl,rfl⟩:=hva (by omega);have e2:=s4 (G0 (G:=G)) (by decide) br bl vc s (by omega) hct;rw[<-Ob] at e2;refine az ?_;intros;refine Ox e2 ?_;exact cx
 ·rintro v H' ⟨bl,va,vk,vc,hva,e,rfl⟩;cases e
end
section
attribute [local irreducible] bN aw aa aC bg ab ae
attribute [local irreducible] ow fh dy isS jr fi
theorem pO {G:Glo}(s:List UInt8)(hl:s.length<=9223372036854775807):aj prog G 147 [.str s] (.bool (fh false s)):=by
 have hB:=um (G:=G) s hl;have k1:=λi (_:0<=(aa s i:Int))=>A7 (G:=G) (aa s i);refine ao func147 call147 λC hC hGL=> ?_;refine a6 ?_;refine lp hC hGL (λi:Nat=>[(0,.str s),(5,.int .i64 (s.length:Nat)),(6,.int .i64 (i:Nat))]) (λ_=>[]) (λi=>i<=s.length/\∀j,j<i->ow false (aa s j:Int)=false) (λi=>s.length-i) 0 ?_ ad rfl ?_
 ·exact⟨Nat.zero_le _,λj h=>absurd h (Nat.not_lt_zero _)⟩
 rintro i ⟨h1,h2⟩;refine xw ?_;repeat' first|exact .n|apply Lc.mk
 all_goals intros
 all_goals first
  |(apply ak;rw[NR (i:=i) (by omega) (by assumption) h2];rfl)
  |(refine di (i+1) ⟨by omega,bT h2 (by assumption)⟩ (by omega) ad rfl)
  |(apply ak;rw[Iq (i:=i) (by omega) h2])
theorem pP {G:Glo}(s:List UInt8)(c:Bool)(hl:s.length<=2000000):aj prog G 146 [.str s,.bool c] (.bool (jr c s)):=by
 have hq:=λt=>aX (G:=G) t 34 (by decide) (by decide);cases c with
 |true=>
  have hE:=ru (G:=G) s hl (oI _);have hC1:=pO (G:=G) (fi s) (by have:=(rl s).2;omega);have hq1:=hq (fi s);have e:jr true s=(fh false (fi s)&&decide (bj (fi s) 34<0)):=by unfold jr pY;rfl
  rw[e];refine ao func146 call146 λC hC hGL=> ?_;refine xw ?_;repeat' first|exact .n|apply Lc.mk
  all_goals intros
  all_goals (apply ak;refine congrArg AVal.bool ?_;rw[show fh false (fi s)=_ by assumption])
  all_goals (rw[Bool.eq_iff_iff];simp[nE])
 |false=>
  have hC1:=pO (G:=G) s (by omega);have hq1:=hq s;have e:jr false s=(fh false s&&decide (bj s 34<0)):=by unfold jr pY;rfl
  rw[e];refine ao func146 call146 λC hC hGL=> ?_;refine xw ?_;repeat' first|exact .n|apply Lc.mk
  all_goals intros
  all_goals (apply ak;refine congrArg AVal.bool ?_;rw[show fh false s=_ by assumption])
  all_goals (rw[Bool.eq_iff_iff];simp[nE])
theorem wm {G:Glo}(p:Ln)(c:Bool)(ho:p.Fit):aj prog G 88 [p.A,.bool c] (p.E c).A:=by
  have n1:=qJ (G:=G) p.n (by have:=ho.n;omega);have n2:=qJ (G:=G) p.g (by have:=ho.g;omega);have hv:=pO (G:=G) p.v (by have:=ho.v;omega);have hps:=ho.ps;refine ao func88 call88 λC hC hGL=> ?_;refine xw ?_;repeat' first|exact .n|apply Lc.mk
  all_goals intros
  all_goals try (apply ak;first|(rw[Ln.E_5 (.inl (by assumption))];rfl)|(rw[Ln.E_5 (.inr ⟨by assumption,by assumption⟩)];rfl)|(rw[Ln.E_4 (by assumption) (.inl (by assumption)) (by omega)];rfl)|(rw[Ln.E_4 (by assumption) (.inr (by assumption)) (by omega)];rfl))
  all_goals
    have q1:isS p.n=true:=by assumption
    have q2:p.g.length=0\/isS p.g=true:=by first|exact .inl (by assumption)|exact .inr (by assumption)
    have q3:p.ps.length<=20:=by omega
    refine lp hC hGL (λk:Nat=>[(1,.bool c),(2,.rop [.str p.g,.str p.n,.list 2 p.ps.length (fH p.ps),.str p.v] 0),(34,.list 2 p.ps.length (fH p.ps)),(35,.int .i64 (p.ps.length:Nat)),(36,.int .i64 (k:Nat))]) (λ_=>[]) (λk=>k<=p.ps.length/\∀j,j<k->si c (p.ps.getD j Pr.z)=0) (λk=>p.ps.length-k) 0 ?_ ad rfl ?_
    · exact⟨Nat.zero_le _,λj h=>absurd h (Nat.not_lt_zero _)⟩
    rintro k ⟨h1,h2⟩;have hq:=ho.q k;have n3:=qJ (G:=G) (p.ps.getD k Pr.z).n (by omega);by_cases hk:k<p.ps.length
    · cases hn:isS (p.ps.getD k Pr.z).n with
      | false=>
        rw[hn] at n3;refine xw ?_;repeat' first|exact .n|apply Lc.mk
        all_goals intros
        · refine lp hC hGL (λx:Nat×Int=>[(1,.bool c),(2,.rop [.str p.g,.str p.n,.list 2 p.ps.length (fH p.ps),.str p.v] 0),(5,.int .i64 (k:Nat)),(7,.int .i64 x.2),(34,.list 2 p.ps.length (fH p.ps)),(35,.int .i64 (p.ps.length:Nat)),(36,.int .i64 (k:Nat)),(52,.list 1 (p.ps.getD k Pr.z).vs.length (ay (p.ps.getD k Pr.z).vs)),(53,.int .i64 ((p.ps.getD k Pr.z).vs.length:Nat)),(54,.int .i64 (x.1:Nat))]) (λ_=>[.cells _ (some 75) [.str (p.ps.getD k Pr.z).n,.list 1 (p.ps.getD k Pr.z).vs.length (ay (p.ps.getD k Pr.z).vs)]]) (λx=>x.1<=(p.ps.getD k Pr.z).vs.length/\Po c (p.ps.getD k Pr.z) x.1 x.2) (λx=>(p.ps.getD k Pr.z).vs.length-x.1) (0,5) ?_ ad rfl ?_
          · exact⟨Nat.zero_le _,.inl ⟨hn,rfl⟩⟩
          rintro⟨j,e⟩ ⟨g1,g2⟩;dsimp only at g1 g2;have hj:=pP (G:=G) ((p.ps.getD k Pr.z).vs.getD j []) c (by have:=eo (l:=(p.ps.getD k Pr.z).vs) (k:=j);omega);refine xw ?_;repeat' first|exact .n|apply Lc.mk
          all_goals intros
          all_goals try dsimp only at*
          all_goals first
            |exact di (j+1,e) ⟨by dsimp only;omega,vX g2 (by assumption)⟩ (by dsimp only;omega) ad rfl
            |exact di (j+1,e) ⟨by dsimp only;omega,FO g2 (by assumption) (by assumption)⟩ (by dsimp only;omega) ad rfl
            |exact di (j+1,3) ⟨by dsimp only;omega,AV g2 (by assumption) (by omega) (by assumption)⟩ (by dsimp only;omega) ad rfl
            |exact cJ (k+1) ⟨by omega,aV h2 ((oj g2 (by omega)).symm.trans (by assumption))⟩ (by omega) ad an
            | (apply ak
               have e1:=oj g2 (by omega)
               rw[Ln.E_at q1 q2 q3 (by omega) h2 (by rw[<-e1];assumption),<-e1]
               rfl)
      | true=>
        rw[hn] at n3;by_cases hz:(p.ps.getD k Pr.z).vs.length=0
        · refine xw ?_;repeat' first|exact .n|apply Lc.mk
          all_goals intros
          · refine lp hC hGL (λx:Nat×Int=>[(1,.bool c),(2,.rop [.str p.g,.str p.n,.list 2 p.ps.length (fH p.ps),.str p.v] 0),(5,.int .i64 (k:Nat)),(7,.int .i64 x.2),(34,.list 2 p.ps.length (fH p.ps)),(35,.int .i64 (p.ps.length:Nat)),(36,.int .i64 (k:Nat)),(52,.list 1 (p.ps.getD k Pr.z).vs.length (ay (p.ps.getD k Pr.z).vs)),(53,.int .i64 ((p.ps.getD k Pr.z).vs.length:Nat)),(54,.int .i64 (x.1:Nat))]) (λ_=>[.cells _ (some 75) [.str (p.ps.getD k Pr.z).n,.list 1 (p.ps.getD k Pr.z).vs.length (ay (p.ps.getD k Pr.z).vs)]]) (λx=>x.1<=(p.ps.getD k Pr.z).vs.length/\Po c (p.ps.getD k Pr.z) x.1 x.2) (λx=>(p.ps.getD k Pr.z).vs.length-x.1) (0,8) ?_ ad rfl ?_
            · exact⟨Nat.zero_le _,.inr (.inl ⟨hn,hz,rfl⟩)⟩
            rintro⟨j,e⟩ ⟨g1,g2⟩;dsimp only at g1 g2;have hj:=pP (G:=G) ((p.ps.getD k Pr.z).vs.getD j []) c (by have:=eo (l:=(p.ps.getD k Pr.z).vs) (k:=j);omega);refine xw ?_;repeat' first|exact .n|apply Lc.mk
            all_goals intros
            all_goals try dsimp only at*
            all_goals first
              |exact di (j+1,e) ⟨by dsimp only;omega,vX g2 (by assumption)⟩ (by dsimp only;omega) ad rfl
              |exact di (j+1,e) ⟨by dsimp only;omega,FO g2 (by assumption) (by assumption)⟩ (by dsimp only;omega) ad rfl
              |exact di (j+1,3) ⟨by dsimp only;omega,AV g2 (by assumption) (by omega) (by assumption)⟩ (by dsimp only;omega) ad rfl
              |exact cJ (k+1) ⟨by omega,aV h2 ((oj g2 (by omega)).symm.trans (by assumption))⟩ (by omega) ad an
              | (apply ak
                 have e1:=oj g2 (by omega)
                 rw[Ln.E_at q1 q2 q3 (by omega) h2 (by rw[<-e1];assumption),<-e1]
                 rfl)
        · refine xw ?_;repeat' first|exact .n|apply Lc.mk
          all_goals intros
          · refine lp hC hGL (λx:Nat×Int=>[(1,.bool c),(2,.rop [.str p.g,.str p.n,.list 2 p.ps.length (fH p.ps),.str p.v] 0),(5,.int .i64 (k:Nat)),(7,.int .i64 x.2),(34,.list 2 p.ps.length (fH p.ps)),(35,.int .i64 (p.ps.length:Nat)),(36,.int .i64 (k:Nat)),(52,.list 1 (p.ps.getD k Pr.z).vs.length (ay (p.ps.getD k Pr.z).vs)),(53,.int .i64 ((p.ps.getD k Pr.z).vs.length:Nat)),(54,.int .i64 (x.1:Nat))]) (λ_=>[.cells _ (some 75) [.str (p.ps.getD k Pr.z).n,.list 1 (p.ps.getD k Pr.z).vs.length (ay (p.ps.getD k Pr.z).vs)]]) (λx=>x.1<=(p.ps.getD k Pr.z).vs.length/\Po c (p.ps.getD k Pr.z) x.1 x.2) (λx=>(p.ps.getD k Pr.z).vs.length-x.1) (0,0) ?_ ad rfl ?_
            · exact⟨Nat.zero_le _,.inr (.inr ⟨hn,hz,.inl ⟨rfl,λi hi=>absurd hi (Nat.not_lt_zero _)⟩⟩)⟩
            rintro⟨j,e⟩ ⟨g1,g2⟩;dsimp only at g1 g2;have hj:=pP (G:=G) ((p.ps.getD k Pr.z).vs.getD j []) c (by have:=eo (l:=(p.ps.getD k Pr.z).vs) (k:=j);omega);refine xw ?_;repeat' first|exact .n|apply Lc.mk
            all_goals intros
            all_goals try dsimp only at*
            all_goals first
              |exact di (j+1,e) ⟨by dsimp only;omega,vX g2 (by assumption)⟩ (by dsimp only;omega) ad rfl
              |exact di (j+1,e) ⟨by dsimp only;omega,FO g2 (by assumption) (by assumption)⟩ (by dsimp only;omega) ad rfl
              |exact di (j+1,3) ⟨by dsimp only;omega,AV g2 (by assumption) (by omega) (by assumption)⟩ (by dsimp only;omega) ad rfl
              |exact cJ (k+1) ⟨by omega,aV h2 ((oj g2 (by omega)).symm.trans (by assumption))⟩ (by omega) ad an
              | (apply ak
                 have e1:=oj g2 (by omega)
                 rw[Ln.E_at q1 q2 q3 (by omega) h2 (by rw[<-e1];assumption),<-e1]
                 rfl)
    · refine xw ?_;repeat' first|exact .n|apply Lc.mk
      all_goals intros
      all_goals (apply ak;first|(rw[Ln.E_3 q1 q2 q3 (by omega) h2 (by assumption)];rfl)|(rw[Ln.E_0 q1 q2 q3 (by omega) h2 (by assumption)];rfl))
end
section
theorem zG {a b c:UInt8}(r:Int):(0<=bj [a,b,c] r↔∃x∈[a,b,c],r=x.toNat):=by
 unfold bj;simp only[jO,List.mem_cons,List.not_mem_nil,or_false,exists_eq_or_imp,exists_eq_left];split
 ·omega
 ·split
  ·omega
  ·split<;>omega
end
section
def Pk (G:Glo)(cs:List UInt8):Prop:=∀r:Int,mB r=true->∃z:Int,aj prog G 223 [.str cs,.int .i32 r] (.int .i64 z)/\(0<=z↔∃x∈cs,r=x.toNat)
theorem Bg {cs:List UInt8}(x:UInt8):cs.contains x=true↔∃y∈cs,(x.toNat:Int)=y.toNat:=by
 rw[List.contains_iff_exists_mem_beq];exact⟨λ⟨y,h,e⟩=>⟨y,h,by rw[beq_iff_eq.1 e]⟩,λ⟨y,h,e⟩=>⟨y,h,beq_iff_eq.2 (UInt8.toNat_inj.1 (by omega))⟩⟩
theorem Rc {cs:List UInt8}{x:UInt8}(h:¬ ∃y∈cs,(x.toNat:Int)=y.toNat):cs.contains x=false:=by
 cases hc:cs.contains x with
 |false=>rfl
 |true=>exact absurd ((Bg x).1 hc) h
theorem Km {r:Int}(h1:128<=r)(hv:mB r=true):(∃x y:UInt8,(Utf8.encode r).data.toList=[x,y]/\128<=y.toNat)\/(∃x y z:UInt8,(Utf8.encode r).data.toList=[x,y,z]/\128<=z.toNat)\/(∃x y z u:UInt8,(Utf8.encode r).data.toList=[x,y,z,u]/\128<=u.toNat):=by
 rw[mA] at hv;rw[IC hv];have hb:∀k:Nat,128<=((UInt8.ofNat (128+k%64)).toNat):=by
  intro k;have e:128+k%64<256:=by omega
  rw[UInt8.toNat_ofNat_of_lt' (by simpa using e)];omega
 split
 ·omega
 ·split
  ·exact .inl ⟨_,_,rfl,hb _⟩
  ·split
   ·exact .inr (.inl ⟨_,_,_,rfl,hb _⟩)
   ·exact .inr (.inr ⟨_,_,_,_,rfl,hb _⟩)
theorem iZ {a b c:UInt8}:aa [a,b,c] 0=a.toNat/\aa [a,b,c] 1=b.toNat/\aa [a,b,c] 2=c.toNat:=⟨rfl,rfl,rfl⟩
attribute [local irreducible] bN aw aa aC bg ab ae
attribute [local irreducible] aD dy gC d8 eC fA mB
theorem HA {a b c x y:UInt8}{p:Prop}(hb:b.toNat<128)(hc:c.toNat<128)(hy:128<=y.toNat)(h:(aa [a,b,c] 1:Int)=(aa [x,y] 1:Int)):p:=by
 rw[iZ.2.1,PH] at h;omega
theorem CO {a b c x y z:UInt8}{p:Prop}(hb:b.toNat<128)(hc:c.toNat<128)(hy:128<=z.toNat)(h:(aa [a,b,c] 2:Int)=(aa [x,y,z] 2:Int)):p:=by
 rw[iZ.2.2,iZ.2.2] at h;omega
theorem yy {G:Glo}{a b c:UInt8}(ha:a.toNat<128)(hb':b.toNat<128)(hc':c.toNat<128)(r:Int)(h1:128<=r)(hv:mB r=true)(hne:r≠65533):aj prog G 223 [.str [a,b,c],.int .i32 r] (.int .i64 (-1)):=by
 have hV:=u6 (G:=G) r;rw[hv] at hV;obtain⟨g0,g1,g2⟩:=iZ (a:=a) (b:=b) (c:=c);have hix:∀q:Int,128<=q->q<=255->aj prog G 57 [.str [c],.int .u8 q] (.int .i64 (-1)):=λq h0 h1=>by
  have:=aX (G:=G) [c] q (by omega) h1;rwa [show bj [c] q= -1 by unfold bj;simp only[jO];split<;>omega] at this
 have hix0:∀q:Int,0<=q->q<=255->aj prog G 57 [.str [],.int .u8 q] (.int .i64 (-1)):=λq h0 h1=>aX [] q h0 h1;have hcall:=call57;rcases Km h1 hv with⟨x,y,he,hy⟩|⟨x,y,z,he,hy⟩|⟨x,y,z,u,he,hy⟩
 ·have f1:aa [x,y] 1=y.toNat:=PH;have e1:aa [a,b,c] ([x,y].length-Nat.succ 0)=b.toNat:=iZ.2.1;have e2:aa [x,y] ([x,y].length-Nat.succ 0)=y.toNat:=PH;have f2:=hix (aa [x,y] 1) (by omega) (by have:=bu [x,y] 1;omega);refine ao func223 call223 λC hC hGL=> ?_;refine a6 ?_;intros;apply kH hC hGL;refine a6 ?_;intros;refine aP hC hGL (uo rfl rfl rfl rfl) rfl rfl ?_;rw[he];refine a6 ?_;intros;refine og hC hGL 1 ?_;refine xw ?_;repeat' first|exact .n|apply Lc.mk
  all_goals intros
  all_goals first|(rename_i hb;exact HA hb' hc' hy hb)|skip
  apply kH hC hGL;refine xw ?_;repeat' first|exact .n|apply Lc.mk
  all_goals intros
  all_goals first|(rename_i hb;exact HA hb' hc' hy hb)|skip
 ·have f1:aa [x,y,z] 2=z.toNat:=iZ.2.2;have e1:aa [a,b,c] ([x,y,z].length-Nat.succ 0)=c.toNat:=iZ.2.2;have e2:aa [x,y,z] ([x,y,z].length-Nat.succ 0)=z.toNat:=iZ.2.2;have f2:=hix0 (aa [x,y,z] 2) (by omega) (by have:=bu [x,y,z] 2;omega);refine ao func223 call223 λC hC hGL=> ?_;refine a6 ?_;intros;apply kH hC hGL;refine a6 ?_;intros;refine aP hC hGL (uo rfl rfl rfl rfl) rfl rfl ?_;rw[he];refine a6 ?_;intros;refine og hC hGL 1 ?_;refine xw ?_;repeat' first|exact .n|apply Lc.mk
  all_goals intros
  all_goals first|(rename_i hb;exact CO hb' hc' hy hb)|skip
  apply kH hC hGL;refine xw ?_;repeat' first|exact .n|apply Lc.mk
  all_goals intros
  all_goals first|(rename_i hb;exact CO hb' hc' hy hb)|skip
 ·refine ao func223 call223 λC hC hGL=> ?_;refine a6 ?_;intros;apply kH hC hGL;refine a6 ?_;intros;refine aP hC hGL (uo rfl rfl rfl rfl) rfl rfl ?_;rw[he];refine a6 ?_;intros;refine og hC hGL 1 ?_;exact ba
theorem wI {G:Glo}{a b c:UInt8}(ha:a.toNat<128)(hb':b.toNat<128)(hc':c.toNat<128):aj prog G 223 [.str [a,b,c],.int .i32 65533] (.int .i64 (-1)):=by
 refine ao func223 call223 λC hC hGL=> ?_;refine a6 ?_;intros;refine og hC hGL 4 ?_;refine xw ?_;repeat' first|exact .n|apply Lc.mk
 all_goals intros
 all_goals (
  exfalso
  have f1:=pD (x:=a) (t:=[b,c]) ha
  have f2:=pD (x:=b) (t:=[c]) hb'
  have f3:=pD (x:=c) (t:=[]) hc'
  simp only[List.drop_zero,f1,f2,f3,Nat.zero_add,List.drop_succ_cons,List.length_cons,List.length_nil] at*
  omega)
theorem yx {G:Glo}{a b c:UInt8}(r:Int)(h0:0<=r)(h1:r<128):aj prog G 223 [.str [a,b,c],.int .i32 r] (.int .i64 (bj [a,b,c] r)):=by
 refine ao func223 call223 λC hC hGL=> ?_;have hI:=aX (G:=G) [a,b,c] r h0 (by omega);exact ba
theorem KR {G:Glo}{a b c:UInt8}(ha:a.toNat<128)(hb':b.toNat<128)(hc':c.toNat<128):Pk G [a,b,c]:=by
 intro r hv;have hm:=hv;rw[mA] at hm;have key:128<=r->¬ ∃x∈[a,b,c],r=x.toNat:=by
  rintro h ⟨x,hx,e⟩;simp only[List.mem_cons,List.not_mem_nil,or_false] at hx;rcases hx with rfl|rfl|rfl<;>omega
 by_cases h1:r<128
 ·exact⟨_,yx r hm.1 h1,zG r⟩
 ·by_cases h2:r=65533
  ·subst h2;exact⟨-1,wI ha hb' hc',by omega,λh=>absurd h (key (by omega))⟩
  ·exact⟨-1,yy ha hb' hc' r (by omega) hv h2,by omega,λh=>absurd h (key (by omega))⟩
theorem tU {G:Glo}{cs:List UInt8}(hA:Pk G cs)(hlo:∀c∈cs,c.toNat<128)(hc2:2<=cs.length)(hc9:cs.length<=1000)(s:List UInt8)(hl:s.length<=8):aj prog G 191 [.str s,.str cs] (.int .i64 (Lib.indexAny s cs)):=by
 refine ao func191 call191 λC hC hGL=> ?_;have hS:=vB (G:=G) s.length;repeat' (first|(conv=>whnf);first|refine .w ?_|refine .v ?_|refine cj ?_ ?_<;>(intro hb;try exact dd hb)|apply aF|apply bf|(apply bQ<;>intro hb)|(apply bR;intro hbd)|(apply aZ;exact hS)|(apply aL (i:=0) rfl;exact hS)|(apply bS;intro bl)|(apply cb;intro va vk vc hva)|(apply ca;intro v)|(apply cd;intro bl cap hcap)|apply cg|(apply bZ<;>intro hnx)|apply cK mixed hC hGL (by kernel_rfl)|(apply cq;assumption;exact hS;exact rfl)|(show Rt _ _ _;exact bK)|fail)
 all_goals try conv=>whnf
 refine lp hC hGL (λ(i:Nat)=>[(1,.str cs),(45,.own 0 (.pointer (some ⟨bl,0,none⟩)))]) (λi=>[.iter bl s i]) (λi=>i<=s.length/\Lib.NoAny s cs i) (λi=>s.length-i) 0 ?_ ad rfl ?_
 ·exact⟨Nat.zero_le _,Lib.NoAny.zero _ _⟩
 rintro i ⟨hi,hno⟩;have hz:=λ(h:i<s.length)=>rZ (s.drop i) (by rw[List.length_drop];omega);have hR:∃z:Int,i<s.length->aj prog G 223 [.str cs,.int .i32 (eC (s.drop i))] (.int .i64 z)/\(0<=z↔∃x∈cs,(eC (s.drop i):Int)=x.toNat):=by
  by_cases h:i<s.length
  ·obtain⟨z,h1,h2⟩:=hA (eC (s.drop i)) (hz h).1;exact⟨z,λ_=>⟨h1,h2⟩⟩
  ·exact⟨0,λh'=>absurd h' h⟩
 obtain⟨z,hR⟩:=hR;repeat' (first|(conv=>whnf);first|refine .w ?_|refine .v ?_|refine cj ?_ ?_<;>(intro hb;try exact dd hb)|apply aF|apply bf|(apply bQ<;>intro hb)|(apply bR;intro hbd)|(apply aZ;first|exact(hR (by omega)).1)|(apply aL (i:=0) rfl;first|exact(hR (by omega)).1)|(apply bS;intro bl)|(apply cb;intro va vk vc hva)|(apply ca;intro v)|(apply cd;intro bl cap hcap)|apply cg|(apply bZ<;>intro hnx)|apply cK mixed hC hGL (by kernel_rfl)|(apply cq;assumption;(first|exact(hR (by omega)).1);exact rfl)|(show Rt _ _ _;exact bK)|fail)
 all_goals try conv=>whnf
 ·obtain⟨z1,z2,z3,z4,z5⟩:=hz hnx;obtain⟨y,hy,hr⟩:=(hR hnx).2.1 hb;have hy':=hlo y hy;have h1:=z4 (by omega);have hx:s[i]? =some s[i]:=List.getElem?_eq_getElem hnx;have h2:=ec hx;rw[dg,Nat.add_zero] at h1;refine ak ?_;rw[Lib.indexAny_hit hno hx ((Bg _).2 ⟨y,hy,by omega⟩)]
 ·obtain⟨z1,z2,z3,z4,z5⟩:=hz hnx;rw[List.length_drop] at z3;have hr:¬ ∃x∈cs,(eC (s.drop i):Int)=x.toNat:=λh=>by have:=(hR hnx).2.2 h;omega
  refine di (i+d8 (s.drop i)) ⟨by omega,?_⟩ (by omega) ⟨rfl,rfl,trivial⟩ rfl;intro j x hj hx;by_cases h:j<i
  ·exact hno j x h hx
  ·have h2:=ec hx;refine Rc λ⟨y,hy,e⟩=> ?_;have hy':=hlo y hy;by_cases h128:(eC (s.drop i):Int)<128
   ·have h3:=z4 h128;rw[dg,Nat.add_zero] at h3;have:j=i:=by omega
    subst this;exact hr ⟨y,hy,by omega⟩
   ·have h3:=z5 (by omega) (j-i) (by omega);rw[dg,show i+(j-i)=j by omega] at h3;omega
 ·have:i=s.length:=by omega
  subst this;refine ak ?_;rw[Lib.indexAny_none hno];rfl
theorem wK {G:Glo}{cs:List UInt8}(hlo:∀c∈cs,c.toNat<128)(hc2:2<=cs.length)(hc9:cs.length<=1000)(s:List UInt8)(h8:8<s.length)(hl:s.length<4294967281):aj prog G 191 [.str s,.str cs] (.int .i64 (Lib.indexAny s cs)):=by
 refine bO rfl call191 ?_;rintro R args ⟨x,t,e,hx,y,t',e',hy,rfl⟩ w _ _;obtain rfl:=aI.1 hx;obtain rfl:=aI.1 hy;subst e';obtain rfl:=fb e;refine(strings_IndexAny_long (λw=>by kernel_rfl) ⟨s.toArray⟩ ⟨cs.toArray⟩ w (by rw[bG];omega) (by rw[bG];exact h8) (by rw[bG];omega) (by rw[bG];omega) ?_).mono ?_
 ·intro j x hx;exact hlo x (List.mem_of_getElem? (by simpa using hx))
 ·rintro e w' ⟨rfl,rfl⟩;exact⟨by simp[AVal.conc],((Below.refl w.heap.size w).alloc (Nat.le_refl _) _).alloc (by show w.heap.size<=(w.heap.push _).size;simp) _⟩
theorem Gn {G:Glo}{cs:List UInt8}(hA:Pk G cs)(hlo:∀c∈cs,c.toNat<128)(hc2:2<=cs.length)(hc9:cs.length<=1000)(s:List UInt8)(hl:s.length<4294967281):aj prog G 191 [.str s,.str cs] (.int .i64 (Lib.indexAny s cs)):=by
 by_cases h:s.length<=8
 ·exact tU hA hlo hc2 hc9 s h
 ·exact wK hlo hc2 hc9 s (by omega) hl
end
section
attribute [local irreducible] bN aw aa aC bg ab ae
abbrev na:Value:=.slice none 0 0
theorem GO {P:Program}[Tab P]{G:Glo}{f:FuncId}{avs:List AVal}{H:Heap}{K Kp:AVal->Heap->Prop}{i j b:Nat}{p v p' v':Value}{y y':HEnt}{r:AVal}(hi:H[i]? =some (co b p j v))(hj:H[j]? =some y)(hne:i≠j)
  (hs:ae P G f avs [co b p 1 v,y] (λx H=>x= .ret r/\H=[co b p' 1 v',y']))
  (k:dP ((H.set i (co b p' j v')).set j y') (K r)):Cx P G f avs H K Kp:=by
 obtain⟨rest,hp,hp2⟩:=u7 hne hi hj;have h1:ae P G f avs [co b p j v,y] (λx H=>x= .ret r/\H=[co b p' j v',y']):=by
  refine Bn hs ?_;rintro x H' ⟨rfl,rfl⟩;exact⟨_,⟨rfl,rfl⟩,λC R w h=>A2 j h⟩
 refine⟨λx H'=>x= .ret r/\H'=(H.set i (co b p' j v')).set j y',jR (jQ (H1:=[co b p j v,y]++rest) hp.symm (ig rest h1)) ?_,?_,?_⟩
 ·rintro x H' ⟨H1',⟨rfl,rfl⟩,rfl⟩;exact⟨_,(hp2 _ _).symm,rfl,rfl⟩
 ·rintro v' H' ⟨e,rfl⟩;cases e;rw[bB] at k;exact k
 ·rintro v' H' ⟨e,rfl⟩;cases e
theorem rv {G:Glo}{b:Nat}{p v:Value}(s:List UInt8)(hlen:s.length<=137438953472):ae prog G 56 [.raw (cP b)] [co b p 1 v,eN v s] (λr H=>r= .ret (.str s)/\H=[co b p 1 v,eN na []]):=
 uG (λ_=>Iff.rfl) (λ_ _ _ h=>h) (rz s hlen) λr H' ⟨e,eH⟩=>⟨_,⟨e,rfl⟩,λ_ _ _ h=>by
  rw[eH] at h;exact(h.ghost (eT:=some 5) 1).perm (List.Perm.swap _ _ _)⟩
theorem QR {P:Program}[Tab P]{C:Ctx}{n:Nat}{env:Env}{H:Heap}{Q:aQ->Env->Heap->Prop}{c:Code}(i:Nat){b:Nat}(hi:H[i]? =some (.cells b (some 120) [.raw (.pointer none),.raw (.slice none 0 0)]))
  (h:Lp P C n c env (H.set i (co b (.pointer none) H.length (.slice none 0 0))++[eN (.slice none 0 0) []]) Q):Lp P C n c env H Q:=by
 refine⟨mM (eT:=some 5) 1 ?_⟩;have h:=h.h;unfold bN at h ⊢;intro R a w hm hf;obtain⟨Cs,e,fz,hb,hl,hr⟩:=hm.heap.holds (.cells b (some 120) [.raw (.pointer none),.raw (.slice none 0 0)]) (List.mem_cons_of_mem _ (List.mem_of_getElem? hi));obtain⟨v1,t1,e1,r1,v2,t2,e2,r2,e3⟩:=hl;have r2':bh R (.own H.length (.slice none 0 0)) [v2]:=by
  have:v2= .slice none 0 0:=by simpa[bh,Value.cells] using r2
  subst this;simp[bh,cU]
 have h1:=hm.swap (i:=i+1) (x:=.cells b (some 120) [.raw (.pointer none),.raw (.slice none 0 0)]) (y:=co b (.pointer none) H.length (.slice none 0 0)) (by rw[List.getElem?_cons_succ];exact hi) rfl
  ⟨Cs,e,fz,hb,⟨v1,t1,e1,r1,v2,t2,e2,r2',e3⟩,hr⟩
 rw[List.set_cons_succ] at h1;exact h R a w (h1.perm (List.perm_append_singleton _ _).symm) hf
end
end Go.Proofs.YtpgdnpielhfpgaaGreatDoor
