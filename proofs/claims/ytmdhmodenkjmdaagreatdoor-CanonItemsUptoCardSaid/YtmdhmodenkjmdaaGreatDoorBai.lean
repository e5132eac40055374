/- Parts of the proof of canonItems_card. -/
import Derived.Laws.MakeOwn
import Derived.Laws.IdiomCopy
import Derived.Laws.LoneSync
import GoSem.PinnedTables
import Derived.Test.YtmdhmodenkjmdaaGreatDoorBah
set_option linter.unusedVariables false
set_option linter.unusedSimpArgs false
set_option linter.unusedSectionVars false
namespace Go.Proofs.YtmdhmodenkjmdaaGreatDoor
open Go Go.RowKit
open Tryz
set_option maxRecDepth 20000
set_option maxHeartbeats 4000000
section
theorem xj {t:Int}{l:List Pr}(h:cD valN l 0= -1):lW t l=t:=by unfold lW;rw[h,if_pos (.inl (by decide))]
theorem tq {t:Int}{l:List Pr}{k:Nat}(h:cD valN l 0=(k:Int))(h2:(l.getD k Pr.z).vs.length=0):lW t l=t:=by unfold lW;rw[h,Int.toNat_natCast,if_pos (.inr h2)]
theorem xl {t:Int}{l:List Pr}{k:Nat}(h:cD valN l 0=(k:Int))(h2:(l.getD k Pr.z).vs.length≠0):lW t l=Nv t (ao 65 90 32 ((l.getD k Pr.z).vs.getD 0 [])):=by unfold lW;rw[h,Int.toNat_natCast,if_neg (by rintro(h|h);omega;exact h2 h)]
attribute [local irreducible] bI ap aa az aW ab ad
attribute [local irreducible] ao cD bO
theorem qF {G:Glo}(hS:kb G)(v:Int)(s:List UInt8)(l:List Pr)(hs:s.length<=2000000)(hl:l.length<=9223372036854775807)(hn:∀k,(l.getD k Pr.z).n.length<=9223372036854775807)(hv:∀k,(l.getD k Pr.z).vs.length<=9223372036854775807/\((l.getD k Pr.z).vs.getD 0 []).length<=9223372036854775807):
  an prog G 45 [.str s,.list 2 l.length (dM l),.int .i64 v] (.tuple [.int .i64 (eK v s l),(fK v).A]):=by
 have h1:=yd (G:=G) hS v s hs;have h2:an prog G 89 [.list 2 l.length (dM l),.str [86,65,76,85,69]] (.int .i64 (cD valN l 0)):=qG (G:=G) l valN hl hn (by decide);by_cases hver:v=3\/v=4
 ·have e2:fK v= .none:=by unfold fK;rw[if_pos hver]
  have e3:eK v s l=lW (bO v s).t l:=by unfold eK;rw[if_pos hver]
  rw[e2] at h1 ⊢;rw[e3];generalize bO v s=r at*
  simp only[Err.A,kS] at h1 ⊢;rcases kP valN l 0 with hf|⟨k,hk,hf⟩
  ·rw[xj hf];rw[hf] at h2;refine aw func45 call45 λC hC hGL=> ?_;refine xw ?_;repeat' first|exact .n|apply Lc.mk
   all_goals intros
   all_goals intros
   all_goals first
    |(apply aj;rfl)
    |(exfalso;omega)
  ·rw[Nat.zero_add] at hf;rw[hf] at h2;by_cases h0:(l.getD k Pr.z).vs.length=0
   ·rw[tq hf h0];refine aw func45 call45 λC hC hGL=> ?_;refine xw ?_;repeat' first|exact .n|apply Lc.mk
    all_goals intros
    all_goals intros
    all_goals first
     |(apply aj;rfl)
     |(exfalso;omega)
     |trace_state
   ·rw[xl hf h0];have h3:=jH (G:=G) ((l.getD k Pr.z).vs.getD 0 []) (by have:=(hv k).2;omega);have h3:an prog G 15 [aE (l.getD k Pr.z).vs 0] _:=h3;generalize ao 65 90 32 ((l.getD k Pr.z).vs.getD 0 [])=x at*
    refine aw func45 call45 λC hC hGL=> ?_;refine xw ?_;repeat' first|exact .n|apply Lc.mk
    all_goals intros
    all_goals intros
    all_goals try (exfalso;omega)
    all_goals
     apply aj;refine congrArg (λz=>AVal.tuple [.int .i64 z,.raw .nilIface]) (Eq.symm ?_);clear h1 h2 h3 hn hv hf hC hGL;unfold Nv;simp[*]
 ·have e2:fK v= .errno 1:=by unfold fK;rw[if_neg hver]
  have e3:eK v s l=0:=by unfold eK;rw[if_neg hver]
  rw[e2] at h1 ⊢;rw[e3];simp only[Err.A,kS] at h1 ⊢;refine aw func45 call45 λC hC hGL=> ?_;refine xw ?_;repeat' first|exact .n|apply Lc.mk
  all_goals intros
  all_goals intros
  all_goals first
   |(apply aj;rfl)
   |(exfalso;omega)
theorem Gq {G:Glo}(v:Int)(s:List UInt8)(l:List Pr)(hs:s.length<=2000000)(hl:l.length<=9223372036854775807)(hn:∀k,(l.getD k Pr.z).n.length<=9223372036854775807)(hv:∀k,(l.getD k Pr.z).vs.length<=9223372036854775807/\((l.getD k Pr.z).vs.getD 0 []).length<=9223372036854775807):
  an prog G 34 [.str s,.list 2 l.length (dM l),.int .i64 v] (.tuple [.int .i64 (eK v s l),.int .i64 (fK v).e]):=by
 have h1:=qN (G:=G) v s hs;have h2:an prog G 73 [.list 2 l.length (dM l),.str [86,65,76,85,69]] (.int .i64 (cD valN l 0)):=Gx (G:=G) l valN hl hn (by decide);by_cases hver:v=3\/v=4
 ·have e2:fK v= .none:=by unfold fK;rw[if_pos hver]
  have e3:eK v s l=lW (bO v s).t l:=by unfold eK;rw[if_pos hver]
  rw[e2] at h1 ⊢;rw[e3];generalize bO v s=r at*
  simp only[Err.e] at h1 ⊢;rcases kP valN l 0 with hf|⟨k,hk,hf⟩
  ·rw[xj hf];rw[hf] at h2;refine aw func34 call34 λC hC hGL=> ?_;refine xw ?_;repeat' first|exact .n|apply Lc.mk
   all_goals intros
   all_goals intros
   all_goals first
    |(apply aj;rfl)
    |(exfalso;omega)
  ·rw[Nat.zero_add] at hf;rw[hf] at h2;by_cases h0:(l.getD k Pr.z).vs.length=0
   ·rw[tq hf h0];refine aw func34 call34 λC hC hGL=> ?_;refine xw ?_;repeat' first|exact .n|apply Lc.mk
    all_goals intros
    all_goals intros
    all_goals first
     |(apply aj;rfl)
     |(exfalso;omega)
   ·rw[xl hf h0];have h3:=gx (G:=G) ((l.getD k Pr.z).vs.getD 0 []) (by have:=(hv k).2;omega);have h3:an prog G 20 [aE (l.getD k Pr.z).vs 0] _:=h3;generalize ao 65 90 32 ((l.getD k Pr.z).vs.getD 0 [])=x at*
    refine aw func34 call34 λC hC hGL=> ?_;refine xn ?_;repeat' first|exact .n|apply Lc.mk
    all_goals intros
    all_goals intros
    all_goals try (exfalso;omega)
    all_goals
     apply aj;refine congrArg (λz=>AVal.tuple [.int .i64 z,.int .i64 0]) (Eq.symm ?_);clear h1 h2 h3 hn hv hf hC hGL;unfold Nv;simp[*]
 ·have e2:fK v= .errno 1:=by unfold fK;rw[if_neg hver]
  have e3:eK v s l=0:=by unfold eK;rw[if_neg hver]
  rw[e2] at h1 ⊢;rw[e3];simp only[Err.e] at h1 ⊢;refine aw func34 call34 λC hC hGL=> ?_;refine xw ?_;repeat' first|exact .n|apply Lc.mk
  all_goals intros
  all_goals intros
  all_goals first
   |(apply aj;rfl)
   |(exfalso;omega)
end
section
theorem G4 (v:Value)(n:Nat):(madeCells #[v] n).toList=List.replicate n v:=by
 unfold madeCells;refine List.ext_getElem (by simp) (λi h1 h2=> ?_);simp[Nat.mod_one]
section
variable {P:Program} [Tab P] {C:Ctx} {n:Nat} {env:Env} {H:Heap} {Q:aK->Env->Heap->Prop} {ops:Array Oper} {rest:List Oper} {G:Glo} {GL:List (Nat×List AVal)}
variable {d:Nat} {t:TypeId} {p:String} {af:Array Edge} {g:Option (Nat×Bool)} {b:Bool}
variable {x y:Operand} {T e:TypeId} {xT xe:TI}
theorem oX {ρ:Operand->Value}{w w':World}{a c u:Value}(ha:ρ x=a)(hc:ρ y=c)(hr:(Instr.makeSlice T a c).run P w= .ok u w'):
  (execOp ρ {dst:=some d,op:=.makeSlice T x y,type:=t,pos:=p,after:=af,guard:=g}).run P w= .ok (.value u) w':=by
 simp only[execOp,ha,hc,Sem.run_bind,hr,Result.andThen_ok,Sem.run_pure]
theorem ls {k1 k2:IntKind}{m:Nat}(hC:C.G=G)(hGL:ab G GL)(hx:ae env x=some (.int k1 (m:Int)))(hy:ae env y=some (.int k2 (m:Int)))(hm0:m<=1000000000000)(ht:aS P T=some xT)(hd:xT.desc= .slice e)(he:aS P e=some xe)(hz:xe.zero=some (.int .u8 0))(hs:xe.size=1)(hb:xe.bytes=1)
  (hg:aC ops env g=some (b,b)) (hdn:Nat.ble (d+1) n=true)
  (k:∀bl,fO P C n G GL ops Q rest ((d,.own H.length (.slice (some ⟨bl,0,none⟩) m m))::env) (H++[.buf bl (List.replicate m 0) m])):
  mm P C n ops ({dst:=some d,op:=.makeSlice T x y,type:=t,pos:=p,after:=af,guard:=g}::rest) env H Q:=by
 refine⟨dg (X:=Nat) (av:=λbl=>.raw (.slice (some ⟨bl,0,none⟩) m m)) (H':=λbl=>.buf bl (List.replicate m 0) m::H) hg rfl hdn (λR ρ w hm hf=> ?_)
  (λbl=>gU (d9 (i:=H.length) rfl (bJ hC hGL _ _ _ (k bl))))⟩
 obtain⟨i,hi,his,hib,hiz,_⟩:=ek he
 have hr:=run_make (P:=P) w T e i (.int .u8 0) (by rw[aU ht,hd]) hi (by rw[hiz,hz]) k1 k2 (m:Int) (m:Int) (by omega) (by omega) (by rw[hib,hb];omega) (by omega)
 simp only[Int.toNat_natCast] at hr
 have hrun:=oX (d:=d) (t:=t) (p:=p) (af:=af) (g:=g) (am.1 (hf _ _ hx)) (am.1 (hf _ _ hy)) hr
 refine⟨w.heap.size,_,_,R,hrun,Seal.le_refl R,al.2 rfl,?_⟩
 ·rw[jL]
  refine hm.alloc _ _ rfl ⟨by simp,_,_,_,dF w _,?_,.inl (Nat.le_refl _)⟩
  rw[his,hs,Nat.mul_one,show(Value.int .u8 0).cells=#[.int .u8 0] from rfl,G4]
  have:dQ (List.replicate m 0) m=List.replicate m (.int .u8 0):=by simp[dQ,byteA]
  rw[this]
  exact gF (show aV R (.int .u8 0) [.int .u8 0] from rfl) _
theorem tO {k1 k2:IntKind}{m:Nat}(hC:C.G=G)(hGL:ab G GL)(hx:ae env x=some (.int k1 0))(hy:ae env y=some (.int k2 (m:Int)))(hm0:m<=1000000000)(ht:aS P T=some xT)(hd:xT.desc= .slice e)(he:aS P e=some xe){z:Value}(hz:xe.zero=some z)(hb:Nat.ble xe.bytes 1024=true)
  (hg:aC ops env g=some (b,b)) (hdn:Nat.ble (d+1) n=true)
  (k:∀bl,fO P C n G GL ops Q rest ((d,.own H.length (.slice (some ⟨bl,0,none⟩) 0 m))::env) (H++[.row (.slice (some ⟨bl,0,none⟩) 0 m) (some e) xe.size 0 []])):
  mm P C n ops ({dst:=some d,op:=.makeSlice T x y,type:=t,pos:=p,after:=af,guard:=g}::rest) env H Q:=by
 refine⟨dg (X:=Nat) (av:=λbl=>.raw (.slice (some ⟨bl,0,none⟩) 0 m)) (H':=λbl=>.row (.slice (some ⟨bl,0,none⟩) 0 m) (some e) xe.size 0 []::H) hg rfl hdn (λR ρ w hm hf=> ?_)
  (λbl=>gU (d9 (i:=H.length) rfl (bJ hC hGL _ _ _ (k bl))))⟩
 obtain⟨i,hi,his,hib,hiz,_⟩:=ek he;have hb:=Nat.le_of_ble_eq_true hb;have hmul:xe.bytes*m<=1024*1000000000:=Nat.mul_le_mul hb hm0;have hr:=run_make (P:=P) w T e i z (by rw[aU ht,hd]) hi (by rw[hiz,hz]) k1 k2 0 (m:Int) (by omega) (by omega) (by rw[hib,<-Int.natCast_mul];omega) (by omega);simp only[Int.toNat_natCast,Int.toNat_zero] at hr;have hrun:=oX (d:=d) (t:=t) (p:=p) (af:=af) (g:=g) (am.1 (hf _ _ hx)) (am.1 (hf _ _ hy)) hr;refine⟨w.heap.size,_,_,R,hrun,Seal.le_refl R,al.2 rfl,?_⟩
 ·rw[jL];refine hm.alloc _ _ rfl ⟨by simp,.inr ⟨_,_,_,_,_,rfl,dF w _,?_,Nat.zero_le _,?_,.inl (Nat.le_refl _),λt ht=>by cases ht;rfl⟩⟩
  ·rw[size_madeCells,his]
  ·simp[bA]
end
end
section
section
variable {P:Program} [Tab P] {C:Ctx} {n:Nat} {env:Env} {H:Heap} {Q:aK->Env->Heap->Prop} {ops:Array Oper} {rest:List Oper} {G:Glo} {GL:List (Nat×List AVal)}
variable {d:Nat} {t:TypeId} {p:String} {af:Array Edge} {g:Option (Nat×Bool)} {b:Bool}
variable {x y:Operand} {T T2 e:TypeId} {xT xe:TI}
theorem GG {s s2:List UInt8}{cap o:Nat}(ho:o+s2.length<=s.length)(hc:s.length<=cap):
  dQ (s.take o++s2++s.drop (o+s2.length)) cap=(dQ s cap).take o++s2.map byteA++(dQ s cap).drop (o+s2.length):=by
 have e:(s.take o++s2++s.drop (o+s2.length)).length=s.length:=by
  simp only[List.length_append,List.length_take,List.length_drop];omega
 unfold dQ;rw[e,List.map_append,List.map_append,List.map_take,List.map_drop];rw[List.take_append_of_le_length (by simp;omega),List.drop_append_of_le_length (by simp;omega),<-List.append_assoc]
theorem xZ {ρ:Operand->Value}{ty:TypeId}{w w':World}{a c u:Value}(ha:ρ x=a)(hc:ρ y=c)(hr:(Builtin.copy_ #[T,T2] t #[a,c]).run P w= .ok u w'):
  (execOp ρ {dst:=some d,op:=.call {callee:=.builtin .copy,args:=#[x,y],argTypes:=#[T,T2]},type:=t,pos:=p,after:=af,guard:=g}).run P w= .ok (.value u) w':=by
 simp only[execOp,resolve,Sem.run_bind,Sem.run_pure,Result.andThen_ok,invoke,List.map_toArray,List.map_cons,List.map_nil,ha,hc];simp only[builtin,Sem.run_bind,hr,Result.andThen_ok,Sem.run_pure]
theorem AZ {i bl l c o:Nat}{k0:IntKind}(hC:C.G=G)(hGL:ab G GL)(hx:ae env x=some (.own i (.slice (some ⟨bl,0,none⟩) l c)))(hy:ae env y=some (.int k0 (o:Int)))(ho:o<=l)(hoc:o<c)(ht:aS P T=some xT)(hd:xT.desc= .slice e)(he:aS P e=some xe)(hs:xe.size=1)
  (hg:aC ops env g=some (b,b)) (hdn:Nat.ble (d+1) n=true)
  (k:fO P C n G GL ops Q rest ((d,.own i (.slice (some ⟨bl,o,none⟩) (l-o) (c-o)))::env) H):
  mm P C n ops ({dst:=some d,op:=.slice T x (some y) none none,type:=t,pos:=p,after:=af,guard:=g}::rest) env H Q:=by
 refine⟨gR hg rfl hdn (av:=.own i (.slice (some ⟨bl,o,none⟩) (l-o) (c-o))) (H':=H) (λR ρ w hm hf=> ?_) (bJ hC hGL _ _ _ k)⟩;have hel:P.elem T=e:=by simp[Program.elem,aU ht,hd]
 have hr:=run_slice_l (P:=P) w T (some ⟨bl,0,none⟩) l c (by rw[aU ht,hd,hel]) k0 (o:Int) (by omega) (by omega);have hsz:=aB he w;refine⟨.slice (some ⟨bl,o,none⟩) (l-o) (c-o),w,R,?_,Seal.le_refl R,aQ.2 ⟨rfl,rfl⟩,hm⟩;simp only[execOp,(aQ.1 (hf _ _ hx)).1,Option.map_some,Option.map_none,am.1 (hf _ _ hy),Sem.run_bind,run_sliceAt_slice w T _ _ _ _ (show P.underlying T=some (.slice (P.elem T)) by rw[aU ht,hd,hel]),hr,hel,hsz,Result.andThen_ok,Sem.run_pure];simp only[sliced,Int.toNat_natCast];rw[if_neg (by omega)];simp[hs,Addr.add];by_cases h0:o=0
 ·simp[h0]
 ·simp[h0]
end
end
section
def gi (s:List UInt8)(i:Nat):AVal:=byteA (s.getD i 0)
structure KG (F:UInt8->List UInt8) (ks:List UInt8) (cs:List AVal):Prop where
 yes:∀c,c∈ks->cs[c.toNat]? =some (.list 1 2 (gi (F c)))/\(F c).length=2
 no:∀c,c∉ks->cs[c.toNat]? =some (.raw (.slice none 0 0))/\F c=[c]
 last:cs[256]? =some (.list 1 ks.length (λi=>.str [ks.getD i 0]))
 nd:ks.Nodup
def lS (ks:List UInt8)(s:List UInt8)(i:Nat):Nat:=s.countP λc=>decide (c∈ks.take i)
theorem MX (ks s:List UInt8):lS ks s 0=0:=by simp[lS]
theorem E1 {ks s:List UInt8}{i:Nat}(hi:i<ks.length)(hn:ks.Nodup):lS ks s (i+1)=lS ks s i+s.countP (· ==ks.getD i 0):=by
 have hx:ks[i]∉ks.take i:=by
  intro h;obtain⟨j,hj,he⟩:=List.getElem_of_mem h;rw[List.getElem_take] at he;have hj2:j<i:=by rw[List.length_take] at hj;omega
  exact List.pairwise_iff_getElem.1 hn j i (by omega) hi hj2 he
 have e:∀c:UInt8,c∈ks.take (i+1)↔c∈ks.take i\/c=ks[i]:=λc=>by rw[List.take_succ_eq_append_getElem hi,List.mem_append,List.mem_singleton]
 unfold lS;rw[List.getD_eq_getElem?_getD,List.getElem?_eq_getElem hi,Option.getD_some];induction s with
 |nil=>rfl
 |cons c s ih=>
  rw[List.countP_cons,List.countP_cons,List.countP_cons,ih];by_cases h1:c=ks[i]
  ·subst h1;have h2:=(e ks[i]).2 (.inr rfl);simp only[h2,hx,decide_true,decide_false,if_true,Bool.false_eq_true,if_false,beq_self_eq_true];omega
  ·by_cases h2:c∈ks.take i
   ·have h3:=(e c).2 (.inl h2);have h4:(c==ks[i])=false:=by simpa using h1
    simp only[h2,h3,h4,decide_true,if_true,Bool.false_eq_true,if_false];omega
   ·have h3:¬c∈ks.take (i+1):=λh=>((e c).1 h).elim h2 h1;have h4:(c==ks[i])=false:=by simpa using h1
    simp only[h2,h3,h4,decide_false,Bool.false_eq_true,if_false];omega
section
variable {F:UInt8->List UInt8} {ks:List UInt8} {cs:List AVal}
theorem M0 (h:KG F ks cs)(s:List UInt8):(s.flatMap F).length=s.length+s.countP λc=>decide (c∈ks):=by
 induction s with
 |nil=>rfl
 |cons c s ih=>
  rw[List.flatMap_cons,List.length_append,ih,List.countP_cons,List.length_cons];by_cases hc:c∈ks
  ·rw[(h.yes c hc).2];simp[hc];omega
  ·rw[(h.no c hc).2];simp[hc];omega
theorem N8 (h:KG F ks cs){s:List UInt8}(h0:(s.countP λc=>decide (c∈ks))=0):s.flatMap F=s:=by
 induction s with
 |nil=>rfl
 |cons c s ih=>
  rw[List.countP_cons] at h0;have hc:c∉ks:=λhc=>by simp[hc] at h0
  rw[List.flatMap_cons,(h.no c hc).2,ih (by omega)];rfl
theorem Ki {s:List UInt8}{i:Nat}(h:i<s.length):(s.take (i+1)).flatMap F=(s.take i).flatMap F++F s[i]:=by
 rw[List.take_succ_eq_append_getElem h,List.flatMap_append,List.flatMap_singleton]
theorem M1 {s:List UInt8}{i:Nat}(h:i<s.length):((s.take (i+1)).countP λc=>decide (c∈ks))=((s.take i).countP λc=>decide (c∈ks))+if s[i]∈ks then 1 else 0:=by
 rw[List.take_succ_eq_append_getElem h,List.countP_append,List.countP_singleton];simp
theorem K5 {s:List UInt8}{i:Nat}:((s.take i).flatMap F).length+((s.drop i).flatMap F).length=(s.flatMap F).length:=by
 rw[<-List.length_append,<-List.flatMap_append,List.take_append_drop]
end
theorem MS.seal_buf {C:Ctx}{R:Seal}{w:World}{H:Heap}{b cap:Nat}{s:List UInt8}(h:MS C R (.buf b s cap::H) w):
  ∃R',R.le R'/\MS C R' H w/\bD R' (.list 1 s.length (gi s)) (.slice (some ⟨b,0,none⟩) s.length cap):=by
 obtain⟨hcap,Cs,e1,fz,hb,hrel,hfz⟩:=h.heap.holds _ (List.mem_cons_self ..);obtain⟨h1,h2⟩:=h.fixed (b:=b) rfl hb;refine⟨_,h2,h1,⟨⟨_,cap,rfl,hcap,.inr ⟨b,0,Cs,e1,fz,rfl,Seal.put_at _ _ _,λi hi=> ?_⟩⟩,rfl⟩⟩;have h3:=bP 1 (bV i (cI h2 _ _ hrel));have h4:((dQ s cap).drop i).take 1=[gi s i]:=by
  unfold dQ gi
  rw[List.drop_append_of_le_length (by simp;omega),List.take_append_of_le_length (by simp;omega),<-List.map_drop,<-List.map_take]
  rw[List.drop_eq_getElem_cons hi,List.take_succ_cons,List.take_zero,List.getD_eq_getElem?_getD,List.getElem?_eq_getElem hi]
  rfl
 rw[h4] at h3
 rw[Nat.zero_add,Nat.mul_one]
 obtain⟨v,t,e,hr,ht⟩:=h3
 have ht:t=[]:=ht
 rw[e,ht]
 exact hr
theorem fj {R:Seal}{p b:Nat}{eT:Option TypeId}{a a':AVal}{cs cs':List AVal}(h:cs.set p a'=cs')(hp:cs[p]? =some a)(ht:∀v,aV R a [v]->aV R a' [v]):lc R p a' (.cells b eT cs) (.cells b eT cs'):=h▸ .cells hp ht
section
variable {C:Ctx} {n:Nat} {e:Env} {h:Heap}
theorem gB {i k p b cap:Nat}{s:List UInt8}{x y:HEnt}(hi:h[i]? =some (.buf b s cap))(hk:(h.eraseIdx i)[k]? =some x)
  (hc:∀R,bD R (.list 1 s.length (gi s)) (.slice (some ⟨b,0,none⟩) s.length cap)->lc R p (.list 1 s.length (gi s)) x y):To C n e h e ((h.eraseIdx i).set k y):=λR a w hm hfs=>by
 obtain⟨R',hle,hm',hr⟩:=MS.seal_buf (hm.perm (fx hi));obtain⟨h1,h2⟩:=(hc R' hr).holds (hm'.heap.holds x (List.mem_of_getElem? hk));exact⟨R',hle,hm'.setEnt hk h2 h1,hfs.mono hle⟩
end
section
variable {P:Program} [Tab P] {C:Ctx} {n:Nat} {env:Env} {H:Heap} {Q:aK->Env->Heap->Prop} {ops:Array Oper} {rest:List Oper} {G:Glo} {GL:List (Nat×List AVal)}
variable {d:Nat} {t:TypeId} {p:String} {af:Array Edge} {g:Option (Nat×Bool)} {b:Bool}
variable {x y:Operand} {T T2 e:TypeId} {xT xe:TI}
theorem Ep {i bl o l c cap:Nat}{s s2:List UInt8}(hC:C.G=G)(hGL:ab G GL)(hx:ae env x=some (.own i (.slice (some ⟨bl,o,none⟩) l c)))(hy:ae env y=some (.list 1 s2.length (gi s2)))(h0:0<s2.length)
  (hi:H[i]? =some (.buf bl s cap)) (ho:o+s2.length<=s.length) (hl:s2.length<=l) (ht:aS P T=some xT) (hd:xT.desc= .slice e) (he:aS P e=some xe) (hs:xe.size=1)
  (hg:aC ops env g=some (b,b)) (hdn:Nat.ble (d+1) n=true)
  (k:fO P C n G GL ops Q rest ((d,.int .i64 s2.length)::env) (H.set i (.buf bl (s.take o++s2++s.drop (o+s2.length)) cap))):
  mm P C n ops ({dst:=some d,op:=.call {callee:=.builtin .copy,args:=#[x,y],argTypes:=#[T,T2]},type:=t,pos:=p,after:=af,guard:=g}::rest) env H Q:=by
 refine⟨gR hg rfl hdn (av:=.int .i64 s2.length) (H':=H.set i (.buf bl (s.take o++s2++s.drop (o+s2.length)) cap)) (λR ρ w hm hf=> ?_) (bJ hC hGL _ _ _ k)⟩;obtain⟨hcap,Cs,e1,fz,hb,hrel,hfz⟩:=hm.heap.holds _ (List.mem_of_getElem? hi);obtain⟨a2,c2,hv2,hle2,hz⟩:=aR (hf _ _ hy) rfl;have hv2:ρ y= .slice a2 s2.length c2:=by simpa using hv2
 rcases hz with hz|⟨b2,o2,C2,e2,fz2,rfl,hR2,hin⟩
 ·omega
 have hb2:=hm.sealed _ _ hR2;have hlen:=ay hrel;have hown:(dQ s cap).length=cap:=by simp[dQ];omega
 rw[hown,Array.length_toList] at hlen;obtain⟨ti,hti,his,_,_,_⟩:=ek he;have hn1:(s2.map λc=>Value.int .u8 (c.toNat:Int)).length=s2.length:=by simp
 have hone:∀v∈s2.map (λc=>Value.int .u8 (c.toNat:Int)),v.oneCell'=true:=by
  intro v hv;obtain⟨c,_,rfl⟩:=List.mem_map.1 hv;rfl
 have hcell:∀j,j<(s2.map λc=>Value.int .u8 (c.toNat:Int)).length->(w.cell? ⟨bl,o+j,none⟩).isSome=true:=by
  intro j hj;rw[hn1] at hj;simp only[World.cell?,hb];simp;omega
 have hfro:∀j,j<(s2.map λc=>Value.int .u8 (c.toNat:Int)).length->w.frozen? ⟨bl,o+j,none⟩=false:=by
  intro j hj;rw[hn1] at hj;obtain⟨lo,hi'⟩:=fz;simp only[World.frozen?,hb,gX] at hfz ⊢;simp;omega
 have hsrc:∀j v,(s2.map λc=>Value.int .u8 (c.toNat:Int))[j]? =some v->w.cell? ((⟨b2,o2,none⟩:Addr).add j)=some v:=by
  intro j v hv;have hj2:j<s2.length:=by
   have:=(List.getElem?_eq_some_iff.1 hv).1;simpa using this
  rw[List.getElem?_map,List.getElem?_eq_getElem hj2] at hv;simp only[Option.map_some,Option.some.injEq] at hv;have hr:=hin j hj2;unfold gi at hr;rw[List.getD_eq_getElem?_getD,List.getElem?_eq_getElem hj2,Nat.mul_one] at hr;have hr:(C2.toList.drop (o2+j)).take 1=[Value.int .u8 (s2[j].toNat:Int)]:=hr;have hg2:C2.toList[o2+j]? =some (Value.int .u8 (s2[j].toNat:Int)):=by
   have h4:=congrArg (λl=>l[0]?) hr;simpa using h4
  subst hv;have hadd:(⟨b2,o2,none⟩:Addr).add j=⟨b2,o2+j,none⟩:=by
   simp only[Addr.add];by_cases h0:j=0
   ·simp[h0]
   ·simp[h0]
  rw[hadd];simp only[World.cell?,hb2];simpa using hg2
 have hr:=run_copy_cells (P:=P) w T T2 t e bl o l c ⟨b2,o2,none⟩ s2.length c2 _ (by rw[aU ht,hd]) (by rw[hti];simp[his,hs]) (by rw[hn1];exact(Nat.min_eq_left hl).symm) hsrc hcell hfro hone;have hrun:=xZ (ty:=t) (d:=d) (p:=p) (af:=af) (g:=g) (aQ.1 (hf _ _ hx)).1 hv2 hr;obtain⟨w',hw',ho'⟩:=cN (P:=P) (s2.map λc=>Value.int .u8 (c.toNat:Int)) o 0 Cs w hb (by rw[hn1];omega) hfz (λu hu=>by
  obtain⟨c,_,rfl⟩:=List.mem_map.1 hu;exact⟨rfl,λa h=>by cases h⟩)
 have hst:=run_storeCells_cells (P:=P) bl o (s2.map λc=>Value.int .u8 (c.toNat:Int)) 0 w (by simpa using hcell) (by simpa using hfro) hone;rw[hst] at hw';simp only[Result.ok.injEq,true_and] at hw';simp only[Nat.add_zero] at hw' ho';refine⟨_,_,R,hrun,Seal.le_refl R,?_,?_⟩
 ·rw[hn1];exact am.2 rfl
 ·rw[hw'];refine hm.write hi rfl ho' rfl ⟨?_,_,_,_,ho'.at_,?_,?_⟩
  ·simp only[List.length_append,List.length_take,List.length_drop];omega
  ·rw[GG ho hcap,hn1];exact bE (bE (bP _ hrel) (mw R s2)) (bV _ hrel)
  ·have:((Cs.toList.take o++(s2.map λc=>Value.int .u8 (c.toNat:Int))++Cs.toList.drop (o+(s2.map λc=>Value.int .u8 (c.toNat:Int)).length)).toArray).size=Cs.size:=by
    simp only[List.size_toArray,List.length_append,List.length_take,List.length_drop,Array.length_toList,hn1];omega
   rw[this];exact hfz
end
end
section
theorem Oc (s:List UInt8){i:Nat}(h:i<s.length):aa s i=s[i].toNat:=by
 unfold aa;rw[List.getD_eq_getElem?_getD,List.getElem?_eq_getElem h];rfl
theorem Oe {A e:List UInt8}{N j:Nat}{c:UInt8}(hj:j=A.length)(h:A.length+e.length<=N):(A++List.replicate (N-A.length) c).take j++e++(A++List.replicate (N-A.length) c).drop (j+e.length)=A++e++List.replicate (N-(A++e).length) c:=by
 subst hj;rw[List.take_left,List.drop_append,List.drop_eq_nil_of_le (by omega),List.nil_append,List.drop_replicate,List.length_append];congr 2
 omega
theorem Od {A:List UInt8}{N j:Nat}{c d:UInt8}(hj:j=A.length)(h:A.length<N):(A++List.replicate (N-A.length) c).set j d=A++[d]++List.replicate (N-(A++[d]).length) c:=by
 subst hj;rw[List.set_append_right _ _ (Nat.le_refl _),Nat.sub_self,show N-A.length=(N-(A++[d]).length)+1 by rw[List.length_append,List.length_singleton];omega,List.replicate_succ,List.set_cons_zero,List.append_assoc];rfl
attribute [local irreducible] bI ap aa az aW ab ad
attribute [local irreducible] lS
theorem Kh {G:Glo}{Fn:UInt8->List UInt8}{ks:List UInt8}{cs:List AVal}(hT:KG Fn ks cs)(hk:ks.length<=100)(s:List UInt8)(hl:s.length<=2000000)(hct:∀c,an prog G 172 [.str s,.str [c]] (.int .i64 (s.countP (· ==c):Nat))):
  an prog G 336 [.rop cs 0,.str s] (.str (s.flatMap Fn)):=by
 have hL:=M0 hT s;have hI:=λh=>N8 hT (s:=s) h;have hcn:=List.countP_le_length (p:=λc=>decide (c∈ks)) (l:=s);refine jZ func336 call336 λC hC hGL=> ?_;refine cut hC hGL [(0,.rop cs 0),(1,.str s)] [] True ez λ_=> ?_;refine cut hC hGL [(0,.rop cs 0),(1,.str s),(5,.int .i64 (s.length:Nat))] [] True ez λ_=> ?_;refine cut hC hGL [(0,.rop cs 0),(1,.str s),(5,.int .i64 (s.length:Nat)),(6,.bool false)] [] True ez λ_=> ?_;refine EZ (λ_:Unit=>[(0,.rop cs 0),(1,.str s),(5,.int .i64 ((s.flatMap Fn).length:Nat)),(6,.bool (decide ((s.countP λc=>decide (c∈ks))≠0)))]) (λ_=>[]) (λ_=>True) (aI hC hGL ?_) ?_
 ·by_cases hc:(ks.length:Int)*8<=s.length
  ·refine aT ?_;intros;erw[hT.last];refine aT ?_;intros;erw[hT.last];refine aT ?_;intros;refine lp hC hGL (λi:Nat=>[(0,.rop cs 0),(1,.str s),(5,.int .i64 ((s.length+lS ks s i:Nat):Int)),(6,.bool (decide (lS ks s i≠0))),(30,.list 1 ks.length (λi=>.str [ks.getD i 0])),(31,.int .i64 (ks.length:Nat)),(32,.int .i64 (i:Nat))]) (λ_=>[]) (λi=>i<=ks.length) (λi=>ks.length-i) 0 (Nat.zero_le _) (by rw[MX];exact ai) rfl ?_;intro i hi;by_cases hik:i<ks.length
   ·have hs:=E1 (s:=s) hik hT.nd;have hq:=hct (ks.getD i 0);have hmem:ks.getD i 0∈ks:=by rw[List.getD_eq_getElem?_getD,List.getElem?_eq_getElem hik];exact List.getElem_mem hik
    have hy:=(hT.yes _ hmem).1;have hy2:cs[0+0+aa [ks.getD i 0] 0*1]? =some (.list 1 2 (gi (Fn (ks.getD i 0)))):=by
     rw[show 0+0+aa [ks.getD i 0] 0*1=(ks.getD i 0).toNat by unfold aa;simp];exact hy
    have hle:s.countP (· ==ks.getD i 0)<=s.length:=List.countP_le_length;have hle2:lS ks s i<=s.length:=by unfold lS;exact List.countP_le_length
    generalize s.countP (· ==ks.getD i 0)=m at*
    by_cases hm:m=0
    ·subst hm;rw[Nat.add_zero] at hs;refine aT ?_;intros;exact eg (i+1) hik (by omega) (by rw[hs];exact ai) aH
    ·refine aT ?_;intros;refine dz mixed hC hGL true (λ_:Unit=>[(0,.rop cs 0),(1,.str s),(5,.int .i64 ((s.length+lS ks s (i+1):Nat):Int)),(30,.list 1 ks.length (λi=>.str [ks.getD i 0])),(31,.int .i64 (ks.length:Nat)),(32,.int .i64 (i:Nat))]) (λ_=>[]) (.t 0 (.t 1 (.t 2 (.t 3 (.t 4 (.t 5 (.t 6 (.t 7 (.t 8 (.t 9 (.t 10 (.t 11 (.t 12 (.t 13 .done)))))))))))))) (by kernel_rfl) ?_ ?_
     ·refine aT ?_;intros;erw[hy2];refine aT ?_;intros;refine⟨(),⟨rfl,rfl,?_,rfl,rfl,rfl,trivial⟩,rfl⟩;show some (AVal.int .i64 _)=some (AVal.int .i64 ((s.length+lS ks s (i+1):Nat):Int));congr 2
      rw[hs];show((s.length+lS ks s i:Nat):Int)+(m:Nat)*1=_;omega
     intro _;refine aT ?_;intros;refine eg (i+1) hik (by omega) ⟨rfl,rfl,rfl,?_,rfl,rfl,rfl,trivial⟩ aH;show some (AVal.bool true)=some (AVal.bool (decide (lS ks s (i+1)≠0)));rw[decide_eq_true (by omega)]
   ·obtain rfl:i=ks.length:=by omega
    have e:lS ks s ks.length=s.countP λc=>decide (c∈ks):=by unfold lS;rw[List.take_length]
    rw[e];refine aT ?_;intros;exact IS () trivial (cL (by rw[hL];exact ai) aH)
  ·refine aT ?_;intros;erw[hT.last];refine aT ?_;intros;refine lp hC hGL (λi:Nat=>[(0,.rop cs 0),(1,.str s),(5,.int .i64 ((s.length+(s.take i).countP (λc=>decide (c∈ks)):Nat):Int)),(6,.bool (decide ((s.take i).countP (λc=>decide (c∈ks))≠0))),(10,.int .i64 (i:Nat))]) (λ_=>[]) (λi=>i<=s.length) (λi=>s.length-i) 0 (Nat.zero_le _) ai rfl ?_;intro i hi;by_cases hik:i<s.length
   ·have hs:=M1 (ks:=ks) hik;have hb:=Oc s hik;have hle:(s.take i).countP (λc=>decide (c∈ks))<=s.length:=Nat.le_trans List.countP_le_length (by rw[List.length_take];omega);generalize (s.take i).countP (λc=>decide (c∈ks))=m at*
    have ho:0+0+aa s i*1=(s[i]).toNat:=by rw[hb];omega
    by_cases hm:s[i]∈ks
    ·have hy2:cs[0+0+aa s i*1]? =some (.list 1 2 (gi (Fn s[i]))):=by rw[ho];exact(hT.yes _ hm).1
     rw[if_pos hm] at hs;refine aT ?_;intros;erw[hy2];refine aT ?_;intros;refine aO hC hGL (jC (m:=1) rfl rfl rfl) rfl rfl ?_;refine aT ?_;intros;erw[hy2];refine aT ?_;intros;refine eg (i+1) hik (by omega) ⟨rfl,rfl,?_,?_,rfl,trivial⟩ aH
     ·show some (AVal.int .i64 _)=some (AVal.int .i64 ((s.length+(s.take (i+1)).countP (λc=>decide (c∈ks)):Nat):Int));congr 2
      rw[hs];show((s.length+m:Nat):Int)+1=_;omega
     ·show some (AVal.bool true)=some (AVal.bool (decide ((s.take (i+1)).countP (λc=>decide (c∈ks))≠0)));rw[decide_eq_true (by omega)]
    ·have hy2:cs[0+0+aa s i*1]? =some (.raw (.slice none 0 0)):=by rw[ho];exact(hT.no _ hm).1
     rw[if_neg hm,Nat.add_zero] at hs;refine aT ?_;intros;erw[hy2];refine aT ?_;intros;exact eg (i+1) hik (by omega) (by rw[hs];exact ai) aH
   ·obtain rfl:i=s.length:=by omega
    rw[List.take_length];refine aT ?_;intros;exact IS () trivial (cL (by rw[hL];exact ai) aH)
 intro _ _;by_cases h0:(s.countP λc=>decide (c∈ks))=0
 ·rw[hI h0,decide_eq_false (λh=>h h0)];exact aI hC hGL ez
 rw[decide_eq_true h0];refine cut hC hGL [(0,.rop cs 0),(1,.str s),(5,.int .i64 ((s.flatMap Fn).length:Nat))] [] True ez λ_=> ?_;refine aI hC hGL (aT ?_);intros;have hN:(s.flatMap Fn).length<=4000000:=by omega
 refine ls (m:=(s.flatMap Fn).length) (by assumption) hGL rfl rfl (by omega) rfl rfl rfl rfl rfl rfl rfl rfl (λbo=> ?_);refine aT ?_;intros;refine lp hC hGL (λx:Nat×List UInt8=>[(0,.rop cs 0),(1,.str s),(12,.own 0 (.slice (some ⟨bo,0,none⟩) (s.flatMap Fn).length (s.flatMap Fn).length)),(13,.int .i64 (((s.take x.1).flatMap Fn).length:Nat)),(14,.int .i64 (x.1:Nat))]) (λx=>[.buf bo x.2 (s.flatMap Fn).length]) (λx=>x.1<=s.length/\x.2=(s.take x.1).flatMap Fn++List.replicate ((s.flatMap Fn).length-((s.take x.1).flatMap Fn).length) 0) (λx=>s.length-x.1) (0,List.replicate (s.flatMap Fn).length 0) ⟨Nat.zero_le _,rfl⟩ ai rfl ?_;rintro⟨i,t⟩ ⟨hi,ht⟩;have hi:i<=s.length:=hi;have ht:t=((s.take i).flatMap Fn)++List.replicate ((s.flatMap Fn).length-((s.take i).flatMap Fn).length) 0:=ht;dsimp only
 have e0:=K5 (F:=Fn) (s:=s) (i:=i);have hl2:t.length=(s.flatMap Fn).length:=by rw[ht,List.length_append,List.length_replicate];omega
 by_cases hik:i<s.length;case neg=>
  obtain rfl:i=s.length:=by omega
  rw[List.take_length,Nat.sub_self,List.replicate_zero,List.append_nil] at ht;subst ht;exact ez
 have et:=Ki (F:=Fn) hik;have e1:=K5 (F:=Fn) (s:=s) (i:=i+1);have hb:=Oc s hik;have ho:0+0+aa s i*1=(s[i]).toNat:=by rw[hb];omega
 rw[et,List.length_append] at e1;by_cases hm:s[i]∈ks
 ·obtain⟨hy,h2⟩:=hT.yes _ hm;have hy2:cs[0+0+aa s i*1]? =some (.list 1 2 (gi (Fn s[i]))):=by rw[ho];exact hy
  rw[h2] at e1;refine aT ?_;intros;erw[hy2];refine aT ?_;intros;refine aO hC hGL (jC (m:=1) rfl rfl rfl) rfl rfl ?_;refine aT ?_;intros;refine dz mixed hC hGL false (λ_:Unit=>[(0,.rop cs 0),(1,.str s),(12,.own 0 (.slice (some ⟨bo,0,none⟩) (s.flatMap Fn).length (s.flatMap Fn).length)),(13,.int .i64 ((((s.take i).flatMap Fn).length:Nat)+2)),(14,.int .i64 (i:Nat))]) (λ_=>[.buf bo (t.take ((s.take i).flatMap Fn).length++Fn s[i]++t.drop (((s.take i).flatMap Fn).length+(Fn s[i]).length)) (s.flatMap Fn).length]) (.t 0 (.t 1 (.t 2 (.t 4 (.t 5 (.t 6 (.t 7 (.t 8 (.t 9 (.b 3 (.b 10 (.t 11 (.t 12 .done))))))))))))) (by kernel_rfl) ?_ ?_
  ·refine aT ?_;intros;erw[hy2];refine aT ?_;intros;refine AZ (i:=0) (o:=((s.take i).flatMap Fn).length) (l:=(s.flatMap Fn).length) (c:=(s.flatMap Fn).length) (by assumption) hGL rfl rfl (by omega) (by omega) rfl rfl rfl rfl rfl rfl ?_;refine aT ?_;intros;refine Ep (i:=0) (bl:=bo) (o:=((s.take i).flatMap Fn).length) (l:=(s.flatMap Fn).length-((s.take i).flatMap Fn).length) (s:=t) (s2:=Fn s[i]) (by assumption) hGL rfl (by rw[h2];rfl) (by omega) rfl (by omega) (by omega) rfl rfl rfl rfl rfl rfl ?_;rw[h2];refine aT ?_;intros;exact⟨(),⟨rfl,rfl,rfl,rfl,rfl,trivial⟩,rfl⟩
  intro _;refine aT ?_;intros;refine eg (i+1,t.take ((s.take i).flatMap Fn).length++Fn s[i]++t.drop (((s.take i).flatMap Fn).length+(Fn s[i]).length)) ⟨hik,?_⟩ (by show s.length-(i+1)<s.length-i;omega) ⟨rfl,rfl,rfl,?_,rfl,trivial⟩ aH
  ·show t.take ((s.take i).flatMap Fn).length++Fn s[i]++t.drop (((s.take i).flatMap Fn).length+(Fn s[i]).length)=(s.take (i+1)).flatMap Fn++List.replicate ((s.flatMap Fn).length-((s.take (i+1)).flatMap Fn).length) 0;rw[ht,et];exact Oe rfl (by omega)
  ·show some (AVal.int .i64 ((((s.take i).flatMap Fn).length:Nat)+2))=some (AVal.int .i64 (((s.take (i+1)).flatMap Fn).length:Nat));rw[et,List.length_append,h2];rfl
 ·obtain⟨hy,h2⟩:=hT.no _ hm;have hy2:cs[0+0+aa s i*1]? =some (.raw (.slice none 0 0)):=by rw[ho];exact hy
  rw[h2] at e1 et;rw[List.length_singleton] at e1;refine aT ?_;intros;erw[hy2];have h7:((s.take i).flatMap Fn).length<t.length:=by omega
  refine aT ?_;intros;refine eg (i+1,t.set ((s.take i).flatMap Fn).length (UInt8.ofNat (aa s i))) ⟨hik,?_⟩ (by show s.length-(i+1)<s.length-i;omega) ⟨rfl,rfl,rfl,?_,rfl,trivial⟩ aH
  ·show t.set ((s.take i).flatMap Fn).length (UInt8.ofNat (aa s i))=(s.take (i+1)).flatMap Fn++List.replicate ((s.flatMap Fn).length-((s.take (i+1)).flatMap Fn).length) 0;rw[ht,et,hb,UInt8.ofNat_toNat];exact Od rfl (by omega)
  ·show some (AVal.int .i64 ((((s.take i).flatMap Fn).length:Nat)+1))=some (AVal.int .i64 (((s.take (i+1)).flatMap Fn).length:Nat));rw[et,List.length_append];rfl
end
section
theorem ju {P:Program}[Tab P]{G:Glo}{f:FuncId}{avs:List AVal}{b:Nat}{eT:Option TypeId}{cs cs':List AVal}{v:AVal}
  (hrun:∀R w Cs e fz args,w.heap[b]? =some (.cells Cs e fz)->bA R cs Cs.toList->gX fz Cs.size->cJ R avs args.toList->∃x w' Cs',(callFunc f args).run P w= .ok (.value x) w'/\bD R v x/\iJ w b (.cells Cs' e fz) w'/\bA R cs' Cs'.toList/\Cs'.size=Cs.size):
  ad P G f avs [.cells b eT cs] (λr H=>r= .ret v/\H=[.cells b eT cs']):=by
 intro R w args hG hm ha;obtain⟨Cs,e,fz,hb,hl,hfz,het⟩:=hm.heap.holds _ (List.mem_cons_self ..);obtain⟨x,w',Cs',h1,h2,h3,h4,h5⟩:=hrun R w Cs e fz args hb hl hfz ha;refine .inr ⟨x,w',h1,.ret v,[.cells b eT cs'],R,⟨rfl,rfl⟩,⟨x,rfl,h2⟩,?_⟩;exact hm.write (i:=0) rfl rfl h3 rfl ⟨Cs',e,fz,h3.at_,h4,by rw[h5];exact hfz,het⟩
theorem yF {w:World}{b:Nat}{o:Obj}(h:w.heap[b]? =some o):iJ w b o w:=⟨rfl,rfl,rfl,rfl,h,λ_ _=>rfl⟩
theorem mz {w:World}{b off e:Nat}{Cs:Array Value}{fz:Nat×Nat}{v:Value}(h:w.heap[b]? =some (.cells Cs e fz))(ho:off<Cs.size):iJ w b (.cells (Cs.setIfInBounds off v) e fz) (w.setCell ⟨b,off,none⟩ v):=by
 have hlt:b<w.heap.size:=by
  rcases Nat.lt_or_ge b w.heap.size with h1|h1
  ·exact h1
  ·simp[Array.getElem?_eq_none h1] at h
 refine⟨rfl,rfl,rfl,by simp[World.setCell],?_,λk hk=> ?_⟩
 ·simp only[World.setCell,Array.getElem?_modify,if_true,h,Option.map_some,Option.isSome_none,Bool.false_eq_true,if_false]
 ·simp only[World.setCell,Array.getElem?_modify]
  rw[if_neg (λe=>hk e.symm)]
theorem ne {R:Seal}{a:AVal}{v:Value}(ha:aV R a [v]):∀{cs:List AVal} {vs:List Value} {p:Nat},bA R cs vs->p<cs.length->bA R (cs.set p a) (vs.set p v)
 |[],_,_,_,h=>absurd h (Nat.not_lt_zero _)
 |c::cs,_,0,⟨u,t,rfl,h1,h2⟩,_=>⟨v,t,rfl,ha,h2⟩
 |c::cs,_,p+1,⟨u,t,rfl,h1,h2⟩,hp=>⟨u,_,rfl,h1,ne ha h2 (by simpa using hp)⟩
theorem Oh {R:Seal}{v:Value}{args:Array Value}(h:cJ R [.raw v] args.toList):args=#[v]:=by
 obtain⟨x,t,e,hx,rfl⟩:=h
 obtain rfl:=al.1 (show bD R (.raw v) x from hx);exact Array.ext' e
theorem Of {R:Seal}{v:Value}{k:IntKind}{n:Int}{args:Array Value}(h:cJ R [.raw v,.int k n] args.toList):args=#[v,.int k n]:=by
 obtain⟨x,t,e,hx,y,t2,rfl,hy,rfl⟩:=h;obtain rfl:=al.1 (show bD R (.raw v) x from hx);obtain rfl:=am.1 (show bD R (.int k n) y from hy);exact Array.ext' e
theorem OH {R:Seal}{v:Value}{k k2:IntKind}{n m:Int}{args:Array Value}(h:cJ R [.raw v,.int k n,.int k2 m] args.toList):args=#[v,.int k n,.int k2 m]:=by
 obtain⟨x,t,e,hx,y,t2,rfl,hy,z,t3,rfl,hz,rfl⟩:=h;obtain rfl:=al.1 (show bD R (.raw v) x from hx);obtain rfl:=am.1 (show bD R (.int k n) y from hy);obtain rfl:=am.1 (show bD R (.int k2 m) z from hz);exact Array.ext' e
section
variable {G:Glo} {b off:Nat} {eT:Option TypeId} {cs:List AVal}
abbrev pv (b off:Nat):Value:=.pointer (some ⟨b,off,none⟩)
theorem nJ {R:Seal}{w:World}{Cs:Array Value}{e:Nat}{fz:Nat×Nat}{k:IntKind}{n:Int}(hb:w.heap[b]? =some (.cells Cs e fz))(hl:bA R cs Cs.toList)(hc:cs[off]? =some (.int k n)):w.cell? ⟨b,off,none⟩=some (.int k n)/\off<Cs.size:=by
 obtain⟨v,hv,hr⟩:=dv hl hc;simp only[aV,List.cons.injEq,and_true] at hr;subst hr;refine⟨by simp only[World.cell?,hb];simpa using hv,?_⟩;have:=(List.getElem?_eq_some_iff.1 hv).1
 simpa using this
theorem mA {w:World}{Cs:Array Value}{e:Nat}{fz:Nat×Nat}(hb:w.heap[b]? =some (.cells Cs e fz))(hfz:gX fz Cs.size)(ho:off<Cs.size):w.frozen? ⟨b,off,none⟩=false:=by
 obtain⟨lo,hi⟩:=fz;simp only[World.frozen?,hb,gX] at hfz ⊢;simp;omega
theorem Kx {n:Int}(hc:cs[off]? =some (.int .u32 n)):ad prog G 257 [.raw (pv b off)] [.cells b eT cs] (λr H=>r= .ret (.int .u32 n)/\H=[.cells b eT cs]):=by
 refine ju λR w Cs e fz args hb hl hfz ha=> ?_;obtain rfl:=Oh ha;obtain⟨h1,_⟩:=nJ hb hl hc;exact⟨_,_,Cs,run_call_load func257 (by kernel_rfl) (by kernel_rfl) (by kernel_rfl) .u32 (by kernel_rfl) h1,am.2 rfl,yF hb,hl,rfl⟩
theorem Iy {n y:Int}(hc:cs[off]? =some (.int .u32 n)):ad prog G 271 [.raw (pv b off),.int .u32 y] [.cells b eT cs] (λr H=>r= .ret (.tuple [])/\H=[.cells b eT (cs.set off (.int .u32 y))]):=by
 refine ju λR w Cs e fz args hb hl hfz ha=> ?_;obtain rfl:=Of ha;obtain⟨h1,ho⟩:=nJ hb hl hc;have hlen:=ay hl;rw[Array.length_toList] at hlen;refine⟨_,_,Cs.setIfInBounds off (.int .u32 y),run_call_store func271 (by kernel_rfl) (by kernel_rfl) (by kernel_rfl) (by kernel_rfl) h1 (mA hb hfz ho),⟨⟨#[],rfl,rfl⟩,rfl⟩,mz hb ho,?_,by simp⟩;rw[Array.toList_setIfInBounds];exact ne (show aV R (.int .u32 y) [.int .u32 y] from rfl) hl (by omega)
theorem M8 {n y:Int}(hc:cs[off]? =some (.int .i32 n)):ad prog G 278 [.raw (pv b off),.int .i32 n,.int .i32 y] [.cells b eT cs] (λr H=>r= .ret (.bool true)/\H=[.cells b eT (cs.set off (.int .i32 y))]):=by
 refine ju λR w Cs e fz args hb hl hfz ha=> ?_;obtain rfl:=OH ha;obtain⟨h1,ho⟩:=nJ hb hl hc;have hlen:=ay hl;rw[Array.length_toList] at hlen;refine⟨_,_,Cs.setIfInBounds off (.int .i32 y),run_call_cas_hit func278 (by kernel_rfl) (by kernel_rfl) (by kernel_rfl) .i32 (by kernel_rfl) h1 (mA hb hfz ho),aN.2 rfl,mz hb ho,?_,by simp⟩;rw[Array.toList_setIfInBounds];exact ne (show aV R (.int .i32 y) [.int .i32 y] from rfl) hl (by omega)
theorem M7 (hc:cs[off]? =some (.int .i32 1)):ad prog G 283 [.raw (pv b off),.int .i32 (-1)] [.cells b eT cs] (λr H=>r= .ret (.int .i32 0)/\H=[.cells b eT (cs.set off (.int .i32 0))]):=by
 refine ju λR w Cs e fz args hb hl hfz ha=> ?_;obtain rfl:=Of ha;obtain⟨h1,ho⟩:=nJ hb hl hc;have hlen:=ay hl;rw[Array.length_toList] at hlen;refine⟨_,_,Cs.setIfInBounds off (.int .i32 0),run_call_add func283 (by kernel_rfl) (by kernel_rfl) (by kernel_rfl) .i32 (by kernel_rfl) (s:=0) h1 (mA hb hfz ho) (by simp[go_sem];rfl),am.2 rfl,mz hb ho,?_,by simp⟩;rw[Array.toList_setIfInBounds];exact ne (show aV R (.int .i32 0) [.int .i32 0] from rfl) hl (by omega)
end
end
section
theorem nz {P:Program}[Tab P]{G:Glo}{GL:List (Nat×List AVal)}{n:Nat}{H:Heap}{v:Value}(i:Nat){f:FuncId}{fn:Func}{c:Code}{avs:List AVal}{Qf:cK->Heap->Prop}{rs:List ResultVar}(hf:P.funcs[f]? =some fn)
  (hc:∀args w,(callFunc f args).run P w= .ok (.enter f args) w) (hb:fn.body=some c) (hn:fn.ntmps=n) (hrs:fn.results=rs.toArray) (hlen:Nat.ble (AVal.raw v::avs).length n=true) (hGL:ab G GL) (hv:cm v=false)
  (h:∀C:Ctx,C.G=G->eQ P C n G GL c ((0,.own i v)::d8 0 (.raw v::avs)) H (sA P rs Qf)):ad P G f (.raw v::avs) H Qf:=
 nA hf hb hc hn hrs hlen λw0 R0 hG=>(yB (C:=⟨w0,R0,dk H,G,hG,[]⟩) (k:=0) i rfl hGL hv rfl (h ⟨w0,R0,dk H,G,hG,[]⟩ rfl)).mono λ_ _ _ q=>ir q
section
variable {P:Program} [Tab P] {C:Ctx} {n:Nat} {env:Env} {H:Heap} {G:Glo} {x:Operand} {S T u:TypeId} {xS xT xu:TI}
theorem Gb {i j b off:Nat}{eT:Option TypeId}{cs:List AVal}{a:AVal}(hx:ae env x=some (.own i (pv b off)))(hj:H[j]? =some (.cells b eT cs))(hc:cs[off]? =some a)(h1:aS P S=some xS)(h2:xS.desc= .pointer u)(h3:aS P T=some xT)(h4:xT.desc= .unsafePointer)(h5:aS P u=some xu)(h6:Nat.ble 1 xu.size=true):
  bn P C H env (.convert S T x) (.raw (pv b off)):=by
 intro R ρ w hm hf dst t p af g;obtain⟨Cs,el,fz,hb,hl,_⟩:=gy hm hj;obtain⟨v,hv,_⟩:=dv hl hc;have hcell:w.cell? ⟨b,off,none⟩=some v:=by simp only[World.cell?,hb];simpa using hv
 obtain⟨iu,hiu,his,_⟩:=ek h5;have h6:=Nat.le_of_ble_eq_true h6;have hr:=run_convert_to_unsafe (P:=P) (src:=S) (dst:=T) (by rw[aU h1,h2]) (by rw[aU h3,h4]) (by rw[hiu];simp[his];omega) hcell
 exact⟨_,by simp only[execOp,(aQ.1 (hf _ _ hx)).1,Sem.run_bind,hr,Result.andThen_ok,Sem.run_pure],al.2 rfl⟩
end
section
variable {G:Glo}
theorem tX {f:FuncId}(h:∀w,(callFunc f #[]).run prog w= .ok (.value (.tuple #[])) w):an prog G f [] (.tuple []):=by
 intro R w args hG hm ha;have e:args=#[]:=by
  have:args.toList=[]:=ha;exact Array.ext' this
 subst e;exact .inr ⟨_,w,h w,_,[],R,⟨rfl,rfl⟩,⟨_,rfl,⟨#[],rfl,rfl⟩,rfl⟩,hm⟩
theorem o7 {f:FuncId}{a:Addr}(h:∀w,(callFunc f #[.pointer (some a)]).run prog w= .ok (.value (.tuple #[])) w):an prog G f [.raw (.pointer (some a))] (.tuple []):=by
 intro R w args hG hm ha;obtain rfl:=Oh ha;exact .inr ⟨_,w,h w,_,[],R,⟨rfl,rfl⟩,⟨_,rfl,⟨#[],rfl,rfl⟩,rfl⟩,hm⟩
theorem jb:an prog G 277 [] (.tuple []):=tX λw=>run_call_mark0 func277 (by kernel_rfl) (by kernel_rfl) (by kernel_rfl) .disable (by kernel_rfl) w
theorem lq:an prog G 279 [] (.tuple []):=tX λw=>run_call_mark0 func279 (by kernel_rfl) (by kernel_rfl) (by kernel_rfl) .enable (by kernel_rfl) w
theorem qU (a:Addr):an prog G 280 [.raw (.pointer (some a))] (.tuple []):=o7 λw=>run_call_marked func280 (by kernel_rfl) (by kernel_rfl) (by kernel_rfl) .acquire (by kernel_rfl) a w
theorem qT (a:Addr):an prog G 282 [.raw (.pointer (some a))] (.tuple []):=o7 λw=>run_call_marked func282 (by kernel_rfl) (by kernel_rfl) (by kernel_rfl) .releaseMerge (by kernel_rfl) a w
attribute [local irreducible] bI ap aa az aW ab ad
theorem Hk {b off:Nat}{eT:Option TypeId}{cs:List AVal}(hc:cs[off]? =some (.int .i32 0)):ad prog G 269 [.raw (pv b off)] [.cells b eT cs] (λr H=>r= .ret (.tuple [])/\H=[.cells b eT (cs.set off (.int .i32 1))]):=by
 have hGL:ab G []:=aD;have e1:=M8 (G:=G) (b:=b) (eT:=eT) (y:=1) hc;have hlt:=(List.getElem?_eq_some_iff.1 hc).1;refine nz 0 func269 call269 rfl rfl rfl rfl hGL rfl ?_;intro C hC;repeat' (first|(conv=>whnf);first|refine .w ?_|refine .v ?_|refine bu ?_ ?_<;>(intro hb;try exact dd hb)|apply au|apply aM|(apply a6<;>intro hb)|(apply ba;intro hbd)|(apply aJ;first|exact jb|exact lq|exact e1)|(apply ax (i:=0) rfl;first|exact jb|exact lq|exact e1)|(apply bc;intro bl)|(apply bh;intro va vk vc hva)|(apply bg;intro v)|(apply bj;intro bl cap hcap)|apply bx|(apply bf<;>intro hnx)|apply ct mixed hC hGL (by kernel_rfl)|(apply cq;assumption;(first|exact jb|exact lq|exact e1);exact rfl)|(show Rt _ _ _;exact a7)|fail)
 all_goals try conv=>whnf
 refine aO hC hGL (Gb (j:=0) rfl rfl (List.getElem?_set_self hlt) rfl rfl rfl rfl rfl rfl) rfl rfl ?_;repeat' (first|(conv=>whnf);first|refine .w ?_|refine .v ?_|refine bu ?_ ?_<;>(intro hb;try exact dd hb)|apply au|apply aM|(apply a6<;>intro hb)|(apply ba;intro hbd)|(apply aJ;exact qU _)|(apply ax (i:=0) rfl;exact qU _)|(apply bc;intro bl)|(apply bh;intro va vk vc hva)|(apply bg;intro v)|(apply bj;intro bl cap hcap)|apply bx|(apply bf<;>intro hnx)|apply ct mixed hC hGL (by kernel_rfl)|(apply cq;assumption;exact qU _;exact rfl)|(show Rt _ _ _;exact a7)|fail)
 all_goals try conv=>whnf
theorem Bf {b off:Nat}{eT:Option TypeId}{cs:List AVal}(hc:cs[off]? =some (.int .i32 1)):ad prog G 270 [.raw (pv b off)] [.cells b eT cs] (λr H=>r= .ret (.tuple [])/\H=[.cells b eT (cs.set off (.int .i32 0))]):=by
 have hGL:ab G []:=aD;have e1:=M7 (G:=G) (b:=b) (eT:=eT) hc;refine nz 0 func270 call270 rfl rfl rfl rfl hGL rfl ?_;intro C hC;refine aZ ?_;intros;erw[hc];refine aZ ?_;intros;refine aO hC hGL (Gb (j:=0) rfl rfl hc rfl rfl rfl rfl rfl rfl) rfl rfl ?_;repeat' (first|(conv=>whnf);first|refine .w ?_|refine .v ?_|refine bu ?_ ?_<;>(intro hb;try exact dd hb)|apply au|apply aM|(apply a6<;>intro hb)|(apply ba;intro hbd)|(apply aJ;first|exact qT _|exact jb|exact lq|exact e1)|(apply ax (i:=0) rfl;first|exact qT _|exact jb|exact lq|exact e1)|(apply bc;intro bl)|(apply bh;intro va vk vc hva)|(apply bg;intro v)|(apply bj;intro bl cap hcap)|apply bx|(apply bf<;>intro hnx)|apply ct mixed hC hGL (by kernel_rfl)|(apply cq;assumption;(first|exact qT _|exact jb|exact lq|exact e1);exact rfl)|(show Rt _ _ _;exact a7)|fail)
 all_goals try conv=>whnf
theorem Oy {b off:Nat}{eT:Option TypeId}{cs:List AVal}(hc:cs[off]? =some (.int .i32 0)):ad prog G 258 [.raw (pv b off)] [.cells b eT cs] (λr H=>r= .ret (.tuple [])/\H=[.cells b eT (cs.set off (.int .i32 1))]):=by
 have hGL:ab G []:=aD;have e1:=Hk (G:=G) (b:=b) (eT:=eT) hc;refine nz 0 func258 call258 rfl rfl rfl rfl hGL rfl ?_;intro C hC;exact bK
theorem Lq {b off:Nat}{eT:Option TypeId}{cs:List AVal}(hc:cs[off]? =some (.int .i32 1))(m:fm):gZ prog G 259 [.own 0 (pv b off)] m [.cells b eT cs] (λr m' H=>m'=m/\r= .ret (.tuple [])/\H=[.cells b eT (cs.set off (.int .i32 0))]):=by
 have hGL:ab G []:=aD;have e1:=Bf (G:=G) (b:=b) (eT:=eT) hc;refine Dl (rs:=[]) (GL:=[]) func259 rfl rfl rfl rfl hGL ?_;intro C hC;exact bK
theorem uM {b off:Nat}{eT:Option TypeId}{cs:List AVal}{n:Int}(hc:cs[off]? =some (.int .u32 n)):ad prog G 239 [.raw (pv b off)] [.cells b eT cs] (λr H=>r= .ret (.bool (!cY n 0))/\H=[.cells b eT cs]):=by
 have hGL:ab G []:=aD;have e1:=Kx (G:=G) (b:=b) (eT:=eT) hc;refine nz 0 func239 call239 rfl rfl rfl rfl hGL rfl ?_;intro C hC;exact bK
theorem zL:an prog G 272 [.bool true] (.int .u32 1):=by
 refine aw func272 call272 λC hC hGL=> ?_;exact bK
theorem BT {b off:Nat}{eT:Option TypeId}{cs:List AVal}{n:Int}(hc:cs[off]? =some (.int .u32 n))(m:fm):gZ prog G 260 [.own 0 (pv b off),.bool true] m [.cells b eT cs] (λr m' H=>m'=m/\r= .ret (.tuple [])/\H=[.cells b eT (cs.set off (.int .u32 1))]):=by
 have hGL:ab G []:=aD;have e1:=Iy (G:=G) (b:=b) (eT:=eT) (y:=1) hc;refine Dl (rs:=[]) (GL:=[]) func260 rfl rfl rfl rfl hGL ?_;intro C hC;refine aT ?_;intros;refine dz mixed hC hGL false (λ(_:Unit)=>[]) (λ_=>[.cells b eT (cs.set off (.int .u32 1))]) (.t 0 (.t 1 (.t 2 (.t 3 (.b 4 (.b 5 .done)))))) (by kernel_rfl) ?_ ?_
 ·repeat' (first|(conv=>whnf);first|refine .w ?_|refine .v ?_|refine bu ?_ ?_<;>(intro hb;try exact dd hb)|apply au|apply aM|(apply a6<;>intro hb)|(apply ba;intro hbd)|(apply aJ;first|exact e1|exact zL)|(apply ax (i:=0) rfl;first|exact e1|exact zL)|(apply bc;intro bl)|(apply bh;intro va vk vc hva)|(apply bg;intro v)|(apply bj;intro bl cap hcap)|apply bx|(apply bf<;>intro hnx)|exact True.intro|(apply cW;intro C hC)|apply cV|apply cT|(apply cU;exact rfl)|(show Rt _ _ _;exact a7)|fail)
  all_goals try conv=>whnf
  all_goals exact⟨(),trivial,rfl⟩
 ·intro _;exact ez
end
end
section
theorem Kr {P:Program}{C:Ctx}{n:Nat}{c:Code}{env:Env}{H:Heap}{Q:List Deferred->aK->Env->Heap->Prop}{k:Nat}(i:Nat){v:Value}(hv:cm v=false)(hk:Env.get env k=some (.raw v))(h:fC P C n c ((k,.own i v)::env) H Q):fC P C n c env H Q:=
 λR a w hm hf=>h R a w hm (wj hv hk hf)
theorem H5 {P:Program}[Tab P]{G:Glo}{f:FuncId}{avs:List AVal}{H H':Heap}{v:AVal}{K Kp:AVal->Heap->Prop}(hs:ad P G f avs H (λr H2=>r= .ret v/\H2=H'))(k:K v H'):Cx P G f avs H K Kp:=by
 refine⟨_,hs,?_,?_⟩
 ·rintro v' H2 ⟨e,rfl⟩;cases e;exact k
 ·rintro v' H2 ⟨e,rfl⟩;cases e
attribute [local irreducible] bI ap aa az aW ab ad
attribute [local irreducible] gZ Lv fC To
theorem Er {G:Glo}{b off fid:Nat}{eT:Option TypeId}{cs:List AVal}{T:Heap}{Y:Type}{cs2:Y->List AVal}{T2:Y->Heap}{l1 l2:List AVal}(h0:cs[off]? =some (.int .u32 0))(h1:cs[off+1]? =some (.int .i32 0))(k0:∀y,(cs2 y)[off]? =some (.int .u32 0))(k1:∀y,(cs2 y)[off+1]? =some (.int .i32 1))
  (hf:ad prog G fid (fw (l1++([]++l2))) (.cells b eT (cs.set (off+1) (.int .i32 1))::T) (λr H=>∃y,r= .ret (.tuple [])/\H= .cells b eT (cs2 y)::T2 y)):
  ad prog G 240 [.raw (pv b off),.func (.func fid) l1 l2] (.cells b eT cs::T) (λr H=>∃y,r= .ret (.tuple [])/\H= .cells b eT (((cs2 y).set off (.int .u32 1)).set (off+1) (.int .i32 0))::T2 y):=by
 have hGL:ab G []:=aD;have e1:=Oy (G:=G) (b:=b) (eT:=eT) h1;have h0':(cs.set (off+1) (.int .i32 1))[off]? =some (.int .u32 0):=by rw[List.getElem?_set_ne (by omega)];exact h0
 have e2:=uM (G:=G) (b:=b) (eT:=eT) h0';refine OE (rs:=[]) func240 call240 rfl rfl rfl rfl ?_;intro C hC hD;refine Kr (k:=0) (v:=pv b off) 0 rfl rfl ?_;refine lL (nN hC hGL ?_);refine aZ ?_;intros;rw[aP];refine aZ ?_;intros;refine lL (uP hC hGL rfl ?_);refine aZ ?_;intros;refine⟨_,rfl,?_⟩;refine(λ(h:∀C2:Ctx,C2.G=G->C2.D=[{target:=.fn (.func 259) #[],args:=#[pv b (off+1)]}]->fC prog C2 _ _ _ _ _)=>h (withD C ({target:=.fn (.func 259) #[],args:=#[pv b (off+1)]}::C.D)) hC (by show _::C.D=_;rw[hD])) ?_;clear hC hD C;intro C hC hD;refine lL (nN hC hGL ?_);refine aZ ?_;intros;rw[aP];refine aZ ?_;intros;refine It rfl (λ_=> ?_) (λhb=>absurd hb (by simp[cY]));refine lL (uP hC hGL rfl ?_);refine aZ ?_;intros;refine⟨_,rfl,?_⟩;refine nN (P:=prog) (C:=withD C ({target:=.fn (.func 260) #[],args:=#[pv b off,.bool true]}::C.D)) (G:=G) hC hGL ?_;refine aZ ?_;intros;rw[cz];refine⟨_,hf,?_,λv' H2 ⟨y,e,_⟩=>by cases e⟩;rintro v' H2 ⟨y,e,rfl⟩;cases e;show Lv prog _ _ _ _ ({target:=.fn (.func 260) #[],args:=#[pv b off,.bool true]}::C.D) _ _ _;rw[hD];refine CS (HR (T2 y) (BT (k0 y) .ret)) (λR=>⟨_,_,rfl,aQ.2 ⟨rfl,rfl⟩,_,_,rfl,aN.2 rfl,rfl⟩) call260 ?_;have k1':((cs2 y).set off (.int .u32 1))[off+1]? =some (.int .i32 1):=by rw[List.getElem?_set_ne (by omega)];exact k1 y
 refine CS (HR (T2 y) (Lq k1' .ret)) (λR=>⟨_,_,rfl,aQ.2 ⟨rfl,rfl⟩,rfl⟩) call259 ?_;refine Me (P:=prog) ?_;exact⟨_,List.Sublist.refl _,y,rfl,rfl⟩
theorem Jz {G:Glo}{b off fid:Nat}{eT:Option TypeId}{cs:List AVal}{T:Heap}{Y:Type}{cs2:Y->List AVal}{T2:Y->Heap}{l1 l2:List AVal}(h0:cs[off]? =some (.int .u32 0))(h1:cs[off+1]? =some (.int .i32 0))(k0:∀y,(cs2 y)[off]? =some (.int .u32 0))(k1:∀y,(cs2 y)[off+1]? =some (.int .i32 1))
  (hl1:fw l1=l1) (hl2:fw l2=l2)
  (hf:ad prog G fid (fw (l1++([]++l2))) (.cells b eT (cs.set (off+1) (.int .i32 1))::T) (λr H=>∃y,r= .ret (.tuple [])/\H= .cells b eT (cs2 y)::T2 y)):
  ad prog G 203 [.raw (pv b off),.func (.func fid) l1 l2] (.cells b eT cs::T) (λr H=>∃y,r= .ret (.tuple [])/\H= .cells b eT (((cs2 y).set off (.int .u32 1)).set (off+1) (.int .i32 0))::T2 y):=by
 have hGL:ab G []:=aD;have e1:=uM (G:=G) (b:=b) (eT:=eT) h0;have e2:=Er h0 h1 k0 k1 hf;refine nz 0 func203 call203 rfl rfl rfl rfl hGL rfl ?_;intro C hC;refine aZ ?_;intros;rw[aP];refine aZ ?_;intros;rw[show iO (.func (.func fid) l1 l2)= .func (.func fid) l1 l2 by simp[iO,hl1,hl2]];refine⟨_,e2,?_,λv' H2 ⟨y,e,_⟩=>by cases e⟩;rintro v' H2 ⟨y,e,rfl⟩;cases e;exact⟨_,List.Sublist.refl _,y,rfl,rfl⟩
end
section
inductive Js where
 |mk (k:Int) (t:List UInt8) (ks:List (List UInt8)) (l:List Js)
def Js.k:Js->Int|.mk k _ _ _=>k
def Js.t:Js->List UInt8|.mk _ t _ _=>t
def Js.ks:Js->List (List UInt8)|.mk _ _ ks _=>ks
def Js.l:Js->List Js|.mk _ _ _ l=>l
def Js.z:Js:=.mk 0 [] [] []
abbrev K6 (l:List Js)(i:Nat):Js:=l.getD i Js.z
def jsF:Nat->List Js->Nat->AVal
 |0,_,_=>.bool false
 |d+1,l,i=>.agg [.int .i64 (K6 l i).k,.str (K6 l i).t,.list 1 (K6 l i).ks.length (aE (K6 l i).ks),.list 4 (K6 l i).l.length (jsF d (K6 l i).l)]
abbrev Js.C (d:Nat)(x:Js):List AVal:=[.int .i64 x.k,.str x.t,.list 1 x.ks.length (aE x.ks),.list 4 x.l.length (jsF d x.l)]
def Js.R (d:Nat)(x:Js):AVal:=.agg (Js.C d x)
def Js.le:Nat->Js->Prop
 |0,x=>x.l=[]
 |d+1,x=>∀i,i<x.l.length->Js.le d (K6 x.l i)
def Js.sz:Nat->Js->Nat
 |0,x=>x.t.length+x.ks.length+Lib.lens x.ks+1
 |d+1,x=>x.t.length+x.ks.length+Lib.lens x.ks+1+((List.range x.l.length).map λi=>Js.sz d (K6 x.l i)).sum
end
section
def IK (res:cK)(H:Heap)(Qf:cK->Heap->Prop):Prop:=∀(C:Ctx) (R:Seal) (w:World) (e:Ending),MS C R H w->ei R res e->∃r2 H2 R',Qf r2 H2/\MS C R' H2 w/\ei R' r2 e
theorem ze {P:Program}{G:Glo}{f:FuncId}{avs:List AVal}{H:Heap}{Qf Qf':cK->Heap->Prop}(h:ad P G f avs H Qf)(hq:∀r H',Qf r H'->IK r H' Qf'):ad P G f avs H Qf':=by
 intro R w args hG hm ha
 rcases h R w args hG hm ha with⟨h1,h2⟩|⟨x,w',h1,res,H',R',q,er,hm'⟩
 ·exact .inl ⟨h1,h2.mono λe w' ⟨res,H',R',q,er,hm'⟩=>let ⟨r2,H2,R2,q2,m2,e2⟩:=hq _ _ q _ _ _ _ hm' er;⟨r2,H2,R2,q2,e2,m2⟩⟩
 ·obtain⟨r2,H2,R2,q2,m2,e2⟩:=hq _ _ q _ _ _ _ hm' er;exact .inr ⟨x,w',h1,r2,H2,R2,q2,e2,m2⟩
end
section
theorem qq {t:TypeId}{a a':AVal}{H H':Heap}(hto:∀C:Ctx,To C 1 [(0,a)] H [(0,a')] H'):IK (.ret (.iface t a)) H (λr H2=>r= .ret (.iface t a')/\H2=H'):=by
 rintro C R w e hm ⟨x,rfl,hx⟩;obtain⟨u,hu,h1,h2⟩:=aR hx rfl;have hu:x= .iface t u:=(List.cons.inj hu).1;subst hu;have hf:FS C.D 1 R [(0,a)] ⟨#[u],C.D⟩:=by
  refine⟨λk v hk=> ?_,rfl,rfl⟩;cases k with
  |zero=>cases hk;exact⟨u,rfl,h1,h2⟩
  |succ k=>cases hk
 obtain⟨R',hle,hm',hf'⟩:=hto C R _ w hm hf;obtain⟨y,hy,hr⟩:=hf'.fr 0 a' rfl;cases hy;exact⟨_,_,R',⟨rfl,rfl⟩,hm',_,rfl,qJ ⟨u,rfl,hr.1,hr.2⟩ rfl rfl⟩
attribute [local irreducible] bI ap aa az aW ab ad
attribute [local irreducible] gZ Lv fC To
def gr (u:Value):List AVal:=[.int .u32 0,.int .i32 0,.int .u32 0,.raw .nilIface,.own 0 u]
theorem j4 {G:Glo}(m:Nat)(f:Nat->AVal)(hm:m<=1000)(h2:m%2=0)(hs:az 1 m f):ad prog G 153 [.list 1 m f] [] (λr H=>∃bl va vk vc,mR m va vk/\r= .ret (.own 1 (pv bl 0))/\H=[.row (.slice va vk vc) none 1 m (cP m f),.cells bl (some 253) (gr (.slice va vk vc))]):=by
 refine aw func153 call153 λC hC hGL=> ?_;repeat' (first|(conv=>whnf);first|refine .w ?_|refine .v ?_|refine bu ?_ ?_<;>(intro hb;try exact dd hb)|apply au|apply aM|(apply a6<;>intro hb)|(apply ba;intro hbd)|(apply bc;intro bl)|(apply bh;intro va vk vc hva)|(apply bg;intro v)|(apply bj;intro bl cap hcap)|apply BU|(apply bf<;>intro hnx)|exact True.intro|(apply cW;intro C hC)|apply cV|apply cT|(apply cU;exact rfl)|(show Rt _ _ _;exact a7)|fail)
 all_goals try conv=>whnf
 exact⟨_,List.Sublist.refl _,bl,va,vk,vc,hva,rfl,rfl⟩
abbrev Im (br m vc:Nat)(cs:List AVal):HEnt:=.row (.slice (some ⟨br,0,none⟩) m vc) none 1 m cs
abbrev Oa (br m vc:Nat):List AVal:=gr (.slice (some ⟨br,0,none⟩) m vc)
abbrev Np (br m vc:Nat):List AVal:=(Oa br m vc).set 1 (.int .i32 1)
abbrev OG (aS:List AVal):AVal:=.iface 334 (.rop aS 0)
def zW (G:Glo)(m:Nat)(cs:List AVal)(Fn:UInt8->List UInt8)(ks:List UInt8):Prop:=∀br bl vc,ad prog G 241 [.raw (pv bl 0)] [Im br m vc cs,.cells bl (some 253) (Np br m vc)]
 (λr H=>∃aS,KG Fn ks aS/\r= .ret (OG aS)/\H=[Im br m vc cs,.cells bl (some 253) (Np br m vc)])
theorem NO (a:AVal):∀R v,bD R a v→∀w,∃u,(Go.method (prog.types.size+Made.depth) 334 v "Replace").run prog w= .ok (336,u) w∧bD R a u:=by
 intro R v hv w
 exact⟨v,by kernel_rfl,hv⟩
section
variable {G:Glo} {m:Nat} {cs:List AVal} {Fn:UInt8->List UInt8} {ks:List UInt8}
abbrev brR (aS:List AVal):List AVal:=[.int .u32 0,.int .i32 1,.int .u32 0,OG aS,.raw (.slice none 0 0)]
abbrev brQ (aS:List AVal):List AVal:=[.int .u32 1,.int .i32 0,.int .u32 0,OG aS,.raw (.slice none 0 0)]
theorem GO (hB:zW G m cs Fn ks)(br bl vc:Nat):ad prog G 204 [.raw (pv bl 0)] [Im br m vc cs,.cells bl (some 253) (Np br m vc)]
  (λr H=>∃y:{aS//KG Fn ks aS},r= .ret (.tuple [])/\H=[Im br m vc cs,.cells bl (some 253) (brR y.1)]):=by
 have hGL:ab G []:=aD;have e1:=hB br bl vc;unfold Np Oa gr at*
 refine nz 1 func204 call204 rfl rfl rfl rfl hGL rfl ?_;intro C hC;refine aT ?_;intros;refine⟨_,e1,?_,?_⟩
 ·rintro v' H2 ⟨aS,ht,e,rfl⟩;cases e;refine aT ?_;intros
  exact⟨_,List.Sublist.refl _,⟨aS,ht⟩,rfl,rfl⟩
 ·rintro v' H2 ⟨aS,ht,e,rfl⟩
  cases e
theorem MK (hB:zW G m cs Fn ks)(br bl vc:Nat):ad prog G 203 [.raw (pv bl 0),.func (.func 204) [.raw (pv bl 0)] []] [Im br m vc cs,.cells bl (some 253) (Oa br m vc)]
  (λr H=>∃y:{aS//KG Fn ks aS},r= .ret (.tuple [])/\H=[Im br m vc cs,.cells bl (some 253) (brQ y.1)]):=by
 have e1:=GO hB br bl vc;have e2:=Jz (G:=G) (b:=bl) (off:=0) (fid:=204) (eT:=some 253) (cs:=Oa br m vc) (T:=[Im br m vc cs]) (Y:={aS//KG Fn ks aS}) (cs2:=λy=>brR y.1) (T2:=λ_=>[Im br m vc cs]) (l1:=[.raw (pv bl 0)]) (l2:=[]) rfl rfl (λ_=>rfl) (λ_=>rfl) rfl rfl
  (by
   refine io (im (List.Perm.swap _ _ _) e1) ?_;rintro r H ⟨y,rfl,rfl⟩;exact⟨_,List.Perm.swap _ _ _,y,rfl,rfl⟩)
 refine io (im (List.Perm.swap _ _ _) e2) ?_;rintro r H ⟨y,rfl,rfl⟩;exact⟨_,List.Perm.swap _ _ _,y,rfl,rfl⟩
theorem oY (hB:zW G m cs Fn ks)(hk:ks.length<=100)(br bl vc:Nat)(s:List UInt8)(hl:s.length<=2000000)(hct:∀c,an prog G 172 [.str s,.str [c]] (.int .i64 (s.countP (· ==c):Nat))):
  ad prog G 154 [.raw (pv bl 0),.str s] [Im br m vc cs,.cells bl (some 253) (Oa br m vc)] (λr H=>r= .ret (.str (s.flatMap Fn))/\H=[]):=by
 have hGL:ab G []:=aD;have e1:=MK hB br bl vc;refine nz 1 func154 call154 rfl rfl rfl rfl hGL rfl ?_;intro C hC;refine aT ?_;intros;refine⟨_,e1,?_,λv' H' ⟨y,e,_⟩=>by cases e⟩;rintro v' H' ⟨⟨aS,ht⟩,e,rfl⟩;cases e;have e3:=Kh (G:=G) ht hk s hl hct;refine aT ?_;intros;refine iv 336 (.rop aS 0) (NO _) (aJ e3 ?_);exact ez
end
end
section
attribute [local irreducible] bI ap az aW ab ad
attribute [local irreducible] gZ Lv fC To
def mX (i j k:Nat)(a b c t:AVal):List AVal:=(((List.replicate 256 (.raw (.slice none 0 0))).set i a).set j b).set k c++[t]
theorem E9 {G:Glo}(br bl vc:Nat):ad prog G 241 [.raw (pv bl 0)] [.row (.slice (some ⟨br,0,none⟩) 6 vc) none 1 6 [.str [94],.str [94,94],.str [10],.str [94,110],.str [34],.str [94,39]],.cells bl (some 253) ((gr (.slice (some ⟨br,0,none⟩) 6 vc)).set 1 (.int .i32 1))]
  (λr H=>∃va vk vt bz b1 c1 b2 c2 b3 c3,mR 3 va vk/\r= .ret (.iface 334 (.own 3 (pv bz 0)))/\H=[.row (.slice (some ⟨br,0,none⟩) 6 vc) none 1 6 [.str [94],.str [94,94],.str [10],.str [94,110],.str [34],.str [94,39]],.cells bl (some 253) ((gr (.slice (some ⟨br,0,none⟩) 6 vc)).set 1 (.int .i32 1)),
   .row (.slice va vk vt) (some 9) 1 3 [.str [34],.str [10],.str [94]],.cells bz (some 333) (mX 34 10 94 (.own 4 (.slice (some ⟨b1,0,none⟩) 2 c1)) (.own 5 (.slice (some ⟨b2,0,none⟩) 2 c2)) (.own 6 (.slice (some ⟨b3,0,none⟩) 2 c3)) (.own 2 (.slice va vk vt))),.buf b1 [94,39] c1,.buf b2 [94,110] c2,.buf b3 [94,94] c3]):=by
 have hGL:ab G []:=aD;unfold gr;refine nz 1 func241 call241 rfl rfl rfl rfl hGL rfl ?_;intro C hC;refine aT ?_;intros;have c0:([.str [94],.str [94,94],.str [10],.str [94,110],.str [34],.str [94,39]]:List AVal)[0]? =some (.str [94]):=rfl;have r0:dL (.slice (some ⟨br,0,none⟩) 6 vc) br 6/\0<6*1:=⟨⟨_,rfl⟩,by decide⟩;have c1:([.str [94],.str [94,94],.str [10],.str [94,110],.str [34],.str [94,39]]:List AVal)[1]? =some (.str [94,94]):=rfl;have r1:dL (.slice (some ⟨br,0,none⟩) 6 vc) br 6/\1<6*1:=⟨⟨_,rfl⟩,by decide⟩;have c2:([.str [94],.str [94,94],.str [10],.str [94,110],.str [34],.str [94,39]]:List AVal)[2]? =some (.str [10]):=rfl;have r2:dL (.slice (some ⟨br,0,none⟩) 6 vc) br 6/\2<6*1:=⟨⟨_,rfl⟩,by decide⟩;have c3:([.str [94],.str [94,94],.str [10],.str [94,110],.str [34],.str [94,39]]:List AVal)[3]? =some (.str [94,110]):=rfl
 have r3:dL (.slice (some ⟨br,0,none⟩) 6 vc) br 6/\3<6*1:=⟨⟨_,rfl⟩,by decide⟩
 have c4:([.str [94],.str [94,94],.str [10],.str [94,110],.str [34],.str [94,39]]:List AVal)[4]? =some (.str [34]):=rfl
 have r4:dL (.slice (some ⟨br,0,none⟩) 6 vc) br 6/\4<6*1:=⟨⟨_,rfl⟩,by decide⟩
 have c5:([.str [94],.str [94,94],.str [10],.str [94,110],.str [34],.str [94,39]]:List AVal)[5]? =some (.str [94,39]):=rfl
 have r5:dL (.slice (some ⟨br,0,none⟩) 6 vc) br 6/\5<6*1:=⟨⟨_,rfl⟩,by decide⟩
 refine ja hC hGL 4 ?_
 refine aT ?_
 intros
 refine tO (m:=3) hC hGL rfl rfl (by omega) rfl rfl rfl rfl rfl rfl rfl (λbt=> ?_)
 refine aT ?_
 intros
 refine ja hC hGL 4 ?_
 refine aT ?_
 intros
 refine aO hC hGL (cb [34] rfl (by intro v hv;simp only[List.mem_cons,List.not_mem_nil,or_false] at hv;omega) rfl rfl rfl rfl rfl rfl) rfl rfl ?_
 refine aT ?_
 intros
 refine aO hC hGL (cb [10] rfl (by intro v hv;simp only[List.mem_cons,List.not_mem_nil,or_false] at hv;omega) rfl rfl rfl rfl rfl rfl) rfl rfl ?_
 refine aT ?_
 intros
 refine aO hC hGL (cb [94] rfl (by intro v hv;simp only[List.mem_cons,List.not_mem_nil,or_false] at hv;omega) rfl rfl rfl rfl rfl rfl) rfl rfl ?_
 refine aT ?_
 intros
 exact⟨_,List.Sublist.refl _,_,_,_,_,_,_,_,_,_,_,by assumption,rfl,rfl⟩
end
section
theorem wB {s:List UInt8}{j:Nat}(h:j<s.length):aa s j=s[j].toNat:=by
 simp[aa,List.getD,h]
def encF (c:UInt8):List UInt8:=if c=94 then[94,94] else if c=10 then[94,110] else if c=34 then[94,39] else[c]
def dJ (s:List UInt8):List UInt8:=s.flatMap encF
theorem MG:encF 94=[94,94]:=rfl
theorem MI:encF 10=[94,110]:=rfl
theorem MH:encF 34=[94,39]:=rfl
theorem zn {c:UInt8}(h1:c.toNat≠94)(h2:c.toNat≠10)(h3:c.toNat≠34):encF c=[c]:=by
 unfold encF;rw[if_neg (by rintro rfl;exact h1 rfl),if_neg (by rintro rfl;exact h2 rfl),if_neg (by rintro rfl;exact h3 rfl)]
theorem HK:dJ []=[]:=rfl
theorem EV (c:UInt8)(s:List UInt8):dJ (c::s)=encF c++dJ s:=rfl
theorem HM (s t:List UInt8):dJ (s++t)=dJ s++dJ t:=by simp[dJ]
theorem HN (c:UInt8):1<=(encF c).length/\(encF c).length<=2:=by
 unfold encF
 (repeat' split)<;>simp
theorem nG (s:List UInt8):s.length<=(dJ s).length/\(dJ s).length<=2*s.length:=by
 induction s with
 |nil=>exact⟨Nat.le_refl _,Nat.le_refl _⟩
 |cons c t ih=>
  have:=HN c;rw[EV,List.length_append,List.length_cons];omega
def p9 (N:Nat)(v:AVal)(i j k:Nat)(a b c t:AVal):List AVal:=(((List.replicate N v).set i a).set j b).set k c++[t]
theorem zD (N:Nat)(v:AVal)(i j k:Nat)(a b c t:AVal):(p9 N v i j k a b c t)[N]? =some t:=by
 unfold p9;rw[List.getElem?_append_right (by simp)];simp
theorem zC {N:Nat}{v:AVal}{i j k n:Nat}{a b c t:AVal}(hn:n<N):(p9 N v i j k a b c t)[n]? =some (if n=k then c else if n=j then b else if n=i then a else v):=by
 unfold p9;rw[List.getElem?_append_left (by simpa using hn)];by_cases h1:n=k
 ·subst h1;rw[List.getElem?_set_self (by simpa using hn),if_pos rfl]
 ·rw[if_neg h1,List.getElem?_set_ne (Ne.symm h1)];by_cases h2:n=j
  ·subst h2;rw[List.getElem?_set_self (by simpa using hn),if_pos rfl]
  ·rw[if_neg h2,List.getElem?_set_ne (Ne.symm h2)];by_cases h3:n=i
   ·subst h3;rw[List.getElem?_set_self (by simpa using hn),if_pos rfl]
   ·rw[if_neg h3,List.getElem?_set_ne (Ne.symm h3)];simp[hn]
theorem xt (i j k:Nat)(a b c t:AVal):(mX i j k a b c t)[256]? =some t:=zD 256 _ i j k a b c t
theorem kl {i j k n:Nat}{a b c t:AVal}(hn:n<256):(mX i j k a b c t)[n]? =some (if n=k then c else if n=j then b else if n=i then a else .raw (.slice none 0 0)):=zC (N:=256) hn
end
section
def mN (c:Bool)(s:List UInt8):List UInt8:=if c then dJ s else s
def gc (c:Bool)(s:List UInt8):Bool:=dR false (mN c s)&&decide (bQ (mN c s) 34<0)
def oA (c:Bool)(q:Pr):Int:=if isS q.n=false then 5 else if q.vs.length=0 then 8 else if q.vs.all (gc c) then 0 else 3
def gM (c:Bool):List Pr->Nat->Err
 |[],_=>.none
 |q::l,i=>if oA c q=0 then gM c l (i+1) else .at (oA c q) i
def Ln.E (c:Bool)(p:Ln):Err:=if isS p.n=false\/(p.g.length≠0/\isS p.g=false) then .errno 5
 else if 20<p.ps.length then .errno 4
 else match gM c p.ps 0 with
  |.none=>if dR false p.v then .none else .errno 3
  |x=>x
def nf (c:Int):Bool:=decide (c=44\/c=59\/c=58)
def dH (c:Bool)(s:List UInt8):List UInt8:=if fP nf (mN c s)<0 then mN c s else 34::mN c s++[34]
def Jr (c:Bool)(q:Pr):List UInt8:=59::q.n++[61]++Lib.join (q.vs.map (dH c)) [44]
def kL (p:Ln):List UInt8:=if p.g.length=0 then p.n else p.g++[46]++p.n
def Ln.txt (c:Bool)(p:Ln):List UInt8:=kL p++p.ps.flatMap (Jr c)++[58]++p.v
def Ln.T (c:Bool)(p:Ln):List UInt8:=match p.E c with
 |.none=>p.txt c
 |_=>[]
theorem oL {c:Bool}:∀{l:List Pr} (i k:Nat),(∀j,j<k->j<l.length->oA c (l.getD j Pr.z)=0)->(k<l.length->oA c (l.getD k Pr.z)≠0)->gM c l i=if k<l.length then .at (oA c (l.getD k Pr.z)) ((i+k:Nat):Int) else .none
 |[],i,k,_,_=>by simp[gM]
 |q::l,i,0,_,h=>by
  have h:=h (by simp);rw[if_pos (by simp)];simp only[gM];rw[if_neg (by simpa using h)];simp
 |q::l,i,k+1,h1,h2=>by
  have h0:oA c q=0:=by simpa using h1 0 (by omega) (by simp)
  simp only[gM];rw[if_pos h0,oL (i+1) k (λj hj hl=>by simpa using h1 (j+1) (by omega) (by simpa using hl)) (λh=>by simpa using h2 (by simpa using h))];have e:i+1+k=i+(k+1):=by omega
  simp only[List.length_cons,List.getD_cons_succ,Nat.add_lt_add_iff_right,e]
theorem J1 {c:Bool}{l:List Pr}{k:Nat}(hk:k<l.length)(h:∀j,j<k->oA c (l.getD j Pr.z)=0)(hb:oA c (l.getD k Pr.z)≠0):gM c l 0= .at (oA c (l.getD k Pr.z)) k:=by
 rw[oL 0 k (λj hj _=>h j hj) (λ_=>hb),if_pos hk];simp
theorem uu {c:Bool}{l:List Pr}{k:Nat}(hk:l.length<=k)(h:∀j,j<k->oA c (l.getD j Pr.z)=0):gM c l 0= .none:=by
 rw[oL 0 k (λj hj _=>h j hj) (λh=>absurd h (by omega)),if_neg (by omega)]
def GZ (c:Bool)(l:List (List UInt8))(j:Nat):Prop:=∀i,i<j->gc c (l.getD i [])=true
theorem tU {c:Bool}{l:List (List UInt8)}{j:Nat}(h:GZ c l j)(k:gc c (l.getD j [])=true):GZ c l (j+1):=λi hi=>by
 rcases Nat.lt_or_ge i j with g|g
 ·exact h i g
 ·rw[show i=j by omega];exact k
theorem yM {c:Bool}{l:List (List UInt8)}{j:Nat}(hj:l.length<=j)(h:GZ c l j):l.all (gc c)=true:=by
 rw[List.all_eq_true];intro x hx
 obtain⟨i,hi,rfl⟩:=List.getElem_of_mem hx
 have:=h i (by omega)
 rwa [List.getD_eq_getElem?_getD,List.getElem?_eq_getElem hi] at this
theorem yL {c:Bool}{l:List (List UInt8)}{j:Nat}(hj:j<l.length)(h:gc c (l.getD j [])=false):l.all (gc c)=false:=by
 rw[List.all_eq_false];refine⟨l[j],List.getElem_mem hj,?_⟩;rw[List.getD_eq_getElem?_getD,List.getElem?_eq_getElem hj] at h;simpa using h
theorem yv {c:Bool}{q:Pr}(h:isS q.n=false):oA c q=5:=by unfold oA;rw[if_pos h]
theorem CI {c:Bool}{q:Pr}(h:isS q.n=true)(k:q.vs.length=0):oA c q=8:=by unfold oA;rw[if_neg (by rw[h];decide),if_pos k]
theorem KK {c:Bool}{q:Pr}(h:isS q.n=true)(k:q.vs.length≠0)(m:q.vs.all (gc c)=false):oA c q=3:=by unfold oA;rw[if_neg (by rw[h];decide),if_neg k,if_neg (by rw[m];decide)]
theorem KL {c:Bool}{q:Pr}(h:isS q.n=true)(k:q.vs.length≠0)(m:q.vs.all (gc c)=true):oA c q=0:=by unfold oA;rw[if_neg (by rw[h];decide),if_neg k,if_pos m]
theorem ED {l:List (List UInt8)}(h:l≠[])(x sep:List UInt8):Lib.join (l++[x]) sep=Lib.join l sep++sep++x:=by
 cases l with
 |nil=>exact absurd rfl h
 |cons y r=>
  rw[List.cons_append,Lib.join_cons,Lib.join_cons];simp[Lib.joinTail]
def tj (c:Bool)(vs:List (List UInt8))(j:Nat):List UInt8:=match j with
 |0=>[]
 |j+1=>61::Lib.join ((vs.take (j+1)).map (dH c)) [44]
theorem xg {c:Bool}{vs:List (List UInt8)}{j:Nat}(hj:j<vs.length):tj c vs (j+1)=tj c vs j++(if j=0 then[61] else[44])++dH c (vs.getD j []):=by
 have e:vs.take (j+1)=vs.take j++[vs.getD j []]:=by
  rw[List.take_succ_eq_append_getElem hj,List.getD_eq_getElem?_getD,List.getElem?_eq_getElem hj];rfl
 cases j with
 |zero=>
  simp only[tj,e,List.take_zero,List.nil_append,List.map_cons,List.map_nil,Lib.join_one,if_true]
  rfl
 |succ j=>
  simp only[tj]
  rw[e,List.map_append,List.map_cons,List.map_nil,ED (λh=>by
   have:=congrArg List.length h
   simp only[List.length_map,List.length_take,List.length_nil] at this
   omega),if_neg (by omega)]
  simp only[List.cons_append,List.append_assoc]
theorem IX {c:Bool}{q:Pr}(h:q.vs.length≠0):Jr c q=59::q.n++tj c q.vs q.vs.length:=by
 unfold Jr;cases hv:q.vs with
 |nil=>rw[hv] at h;exact absurd rfl h
 |cons x r=>
  have e:(x::r).take (r.length+1)=x::r:=List.take_of_length_le (by simp);simp only[List.length_cons,tj,e,List.append_assoc];rfl
theorem wr (c:Bool)(s:List UInt8):(mN c s).length<=2*s.length:=by
 unfold mN;split
 ·exact(nG s).2
 ·omega
theorem yp (c:Bool)(s:List UInt8):(dH c s).length<=2*s.length+2:=by
 have:=wr c s;unfold dH;split
 ·omega
 ·simp only[List.cons_append,List.length_cons,List.length_append,List.length_nil];omega
theorem nq (c:Bool):∀l:List (List UInt8),Lib.lens (l.map (dH c))<=2*Lib.lens l+2*l.length
 |[]=>by simp[Lib.lens]
 |x::r=>by
  have h1:=nq c r;have h2:=yp c x;have e1:Lib.lens ((x::r).map (dH c))=(dH c x).length+Lib.lens (r.map (dH c)):=by simp[Lib.lens]
  have e2:Lib.lens (x::r)=x.length+Lib.lens r:=by simp[Lib.lens]
  rw[e1,e2,List.length_cons];omega
theorem rB (l:List (List UInt8)):(Lib.join l [44]).length<=Lib.lens l+l.length:=by
 cases l with
 |nil=>simp[Lib.join_nil]
 |cons x r=>
  have e2:Lib.lens (x::r)=x.length+Lib.lens r:=by simp[Lib.lens]
  rw[Lib.join_cons,List.length_append,Lib.joinTail_length,e2,List.length_cons];simp only[List.length_cons,List.length_nil];omega
theorem IW (c:Bool)(vs:List (List UInt8))(j:Nat):(tj c vs j).length<=1+2*Lib.lens vs+3*vs.length:=by
 cases j with
 |zero=>simp[tj]
 |succ j=>
  simp only[tj,List.length_cons];have h1:=rB ((vs.take (j+1)).map (dH c));have h2:=nq c (vs.take (j+1));have h3:=Lib.lens_take_le vs (j+1);rw[List.length_map,List.length_take] at h1;rw[List.length_take] at h2;omega
theorem CH (c:Bool)(q:Pr):(Jr c q).length<=2+q.n.length+2*Lib.lens q.vs+3*q.vs.length:=by
 unfold Jr;have h1:=rB (q.vs.map (dH c));have h2:=nq c q.vs;rw[List.length_map] at h1;simp only[List.length_cons,List.length_append,List.length_nil,List.cons_append];omega
def mb (c:Bool)(ps:List Pr)(k:Nat):List UInt8:=(ps.take k).flatMap (Jr c)
theorem qV {c:Bool}{ps:List Pr}{k:Nat}(hk:k<ps.length):mb c ps (k+1)=mb c ps k++Jr c (ps.getD k Pr.z):=by
 have e:ps.take (k+1)=ps.take k++[ps.getD k Pr.z]:=by
  rw[List.take_succ_eq_append_getElem hk,List.getD_eq_getElem?_getD,List.getElem?_eq_getElem hk];rfl
 unfold mb;rw[e,List.flatMap_append];simp
theorem vJ {c:Bool}{ps:List Pr}{N:Nat}(h:∀k,(ps.getD k Pr.z).n.length<=N/\(ps.getD k Pr.z).vs.length<=N/\Lib.lens (ps.getD k Pr.z).vs<=N):∀k,k<=ps.length->(mb c ps k).length<=k*(2+6*N)
 |0,_=>by simp[mb]
 |k+1,hk=>by
  have ih:=vJ (c:=c) h k (by omega);have h1:=CH c (ps.getD k Pr.z);have h2:=h k;rw[qV (by omega),List.length_append,Nat.succ_mul];omega
theorem Ci (c:Bool)(p:Ln):p.txt c=kL p++mb c p.ps p.ps.length++[58]++p.v:=by
 unfold Ln.txt mb;rw[List.take_of_length_le (Nat.le_refl _)]
theorem Ln.E_5 {c:Bool}{p:Ln}(h:isS p.n=false\/(p.g.length≠0/\isS p.g=false)):p.E c= .errno 5:=by unfold Ln.E;rw[if_pos h]
theorem Ln.E_4 {c:Bool}{p:Ln}(h1:isS p.n=true)(h2:p.g.length=0\/isS p.g=true)(h:20<p.ps.length):p.E c= .errno 4:=by
 unfold Ln.E;rw[if_neg (by rintro(k|⟨k1,k2⟩);rw[h1] at k;cases k;rcases h2 with h2|h2;exact k1 h2;rw[h2] at k2;cases k2),if_pos h]
theorem Ln.E_f {c:Bool}{p:Ln}(h1:isS p.n=true)(h2:p.g.length=0\/isS p.g=true)(h:p.ps.length<=20):p.E c=match gM c p.ps 0 with
  |.none=>if dR false p.v then .none else .errno 3
  |x=>x:=by
 unfold Ln.E;rw[if_neg (by rintro(k|⟨k1,k2⟩);rw[h1] at k;cases k;rcases h2 with h2|h2;exact k1 h2;rw[h2] at k2;cases k2),if_neg (by omega)]
theorem Ln.E_at {c:Bool}{p:Ln}(h1:isS p.n=true)(h2:p.g.length=0\/isS p.g=true)(h:p.ps.length<=20){k:Nat}(hk:k<p.ps.length)(hj:∀j,j<k->oA c (p.ps.getD j Pr.z)=0)(hb:oA c (p.ps.getD k Pr.z)≠0):p.E c= .at (oA c (p.ps.getD k Pr.z)) k:=by
 rw[Ln.E_f h1 h2 h,J1 hk hj hb]
theorem Ln.E_3 {c:Bool}{p:Ln}(h1:isS p.n=true)(h2:p.g.length=0\/isS p.g=true)(h:p.ps.length<=20){k:Nat}(hk:p.ps.length<=k)(hj:∀j,j<k->oA c (p.ps.getD j Pr.z)=0)(hv:dR false p.v=false):p.E c= .errno 3:=by
 rw[Ln.E_f h1 h2 h,uu hk hj]
 simp only[hv,Bool.false_eq_true,if_false]
theorem Ln.E_0 {c:Bool}{p:Ln}(h1:isS p.n=true)(h2:p.g.length=0\/isS p.g=true)(h:p.ps.length<=20){k:Nat}(hk:p.ps.length<=k)(hj:∀j,j<k->oA c (p.ps.getD j Pr.z)=0)(hv:dR false p.v=true):p.E c= .none:=by
 rw[Ln.E_f h1 h2 h,uu hk hj];simp only[hv,if_true]
def IR (c:Bool)(q:Pr)(j:Nat)(e:Int):Prop:=(isS q.n=false/\e=5)\/(isS q.n=true/\q.vs.length=0/\e=8)\/(isS q.n=true/\q.vs.length≠0/\((e=0/\GZ c q.vs j)\/(e=3/\q.vs.all (gc c)=false)))
theorem lr {c:Bool}{q:Pr}{j:Nat}{e:Int}(h:IR c q j e)(hj:q.vs.length<=j):e=oA c q:=by
 rcases h with⟨h1,h2⟩|⟨h1,h2,h3⟩|⟨h1,h2,⟨h3,h4⟩|⟨h3,h4⟩⟩
 ·rw[yv h1,h2]
 ·rw[CI h1 h2,h3]
 ·rw[KL h1 h2 (yM hj h4),h3]
 ·rw[KK h1 h2 h4,h3]
theorem qW {c:Bool}{q:Pr}{j:Nat}{e:Int}(h:IR c q j e)(he:e≠0):IR c q (j+1) e:=by
 rcases h with h|h|⟨h1,h2,⟨h3,h4⟩|h3⟩
 ·exact .inl h
 ·exact .inr (.inl h)
 ·exact absurd h3 he
 ·exact .inr (.inr ⟨h1,h2,.inr h3⟩)
theorem AX {c:Bool}{q:Pr}{j:Nat}{e:Int}(h:IR c q j e)(he:e=0)(hm:gc c (q.vs.getD j [])=true):IR c q (j+1) e:=by
 rcases h with h|h|⟨h1,h2,⟨h3,h4⟩|h3⟩
 ·exact absurd (he.symm.trans h.2) (by decide)
 ·exact absurd (he.symm.trans h.2.2) (by decide)
 ·exact .inr (.inr ⟨h1,h2,.inl ⟨h3,tU h4 hm⟩⟩)
 ·exact absurd (he.symm.trans h3.1) (by decide)
theorem vK {c:Bool}{q:Pr}{j:Nat}{e:Int}(h:IR c q j e)(he:e=0)(hj:j<q.vs.length)(hm:gc c (q.vs.getD j [])=false):IR c q (j+1) 3:=by
 rcases h with h|h|⟨h1,h2,⟨h3,h4⟩|h3⟩
 ·exact absurd (he.symm.trans h.2) (by decide)
 ·exact absurd (he.symm.trans h.2.2) (by decide)
 ·exact .inr (.inr ⟨h1,h2,.inr ⟨rfl,yL hj hm⟩⟩)
 ·exact absurd (he.symm.trans h3.1) (by decide)
end
section
attribute [local irreducible] bI ap aa az aW ab ad
attribute [local irreducible] aA fp gt dO ga dQ
def firstTab:List AVal:=Go.Pinned.utf8FirstZ.map (λx:Nat=>AVal.int .u8 (x:Int))
def acceptTab:List AVal:=[.int .u8 128,.int .u8 191,.int .u8 160,.int .u8 191,.int .u8 128,.int .u8 159,.int .u8 144,.int .u8 191,.int .u8 128,.int .u8 143,.int .u8 0,.int .u8 0,.int .u8 0,.int .u8 0,.int .u8 0,.int .u8 0,.int .u8 0,.int .u8 0,.int .u8 0,.int .u8 0,.int .u8 0,.int .u8 0,.int .u8 0,.int .u8 0,.int .u8 0,.int .u8 0,.int .u8 0,.int .u8 0,.int .u8 0,.int .u8 0,.int .u8 0,.int .u8 0]
def mM (b:Nat):Nat:=
 if b<128 then 240 else if b<194 then 241 else if b<224 then 2 else if b=224 then 19 else if b<237 then 3 else if b=237 then 35 else if b<240 then 3 else if b=240 then 52
 else if b<244 then 4 else if b=244 then 68 else 241
theorem EQ:∀b:Fin 256,Go.Pinned.utf8FirstZ[b.1]? =some (mM b.1):=by decide+kernel
theorem zf (b:Nat)(h:b<256):firstTab[b*1]? =some (.int .u8 (mM b:Int)):=by
 rw[Nat.mul_one];simp only[firstTab,List.getElem?_map,EQ ⟨b,h⟩,Option.map_some]
def eN (s:List UInt8):Nat×Nat:=if s.length=0 then(65533,0) else if(aA s).2=0 then(65533,1) else aA s
theorem IT (b:Int):IntKind.wrap .i32 (BitVec.ofInt 32 (IntKind.wrap .i32 (BitVec.ofInt 32 b&&& ~~~ BitVec.ofInt 32 (IntKind.wrap .i32 (241*2147483648)/2147483648)).toNat)|||BitVec.ofInt 32 (IntKind.wrap .i32 (BitVec.ofInt 32 65533&&& BitVec.ofInt 32 (IntKind.wrap .i32 (241*2147483648)/2147483648)).toNat)).toNat=65533:=by
 have e:(~~~ BitVec.ofInt 32 (IntKind.wrap .i32 (241*2147483648)/2147483648))=0#32:=by decide+kernel
 rw[e,BitVec.and_zero]
 decide+kernel
attribute [local irreducible] firstTab
abbrev utfTy:List (Nat×List AVal):=[(6,firstTab),(7,acceptTab)]
theorem EX (b:Nat)(h:b<256)(h1:128<=b):
  (firstTab[b*1]? =some (.int .u8 241)/\(b<194\/245<=b))\/(firstTab[b*1]? =some (.int .u8 2)/\194<=b/\b<224)\/(firstTab[b*1]? =some (.int .u8 19)/\b=224)
  \/(firstTab[b*1]? =some (.int .u8 3)/\225<=b/\b<240/\b≠237)\/(firstTab[b*1]? =some (.int .u8 35)/\b=237)\/(firstTab[b*1]? =some (.int .u8 52)/\b=240)
  \/(firstTab[b*1]? =some (.int .u8 4)/\241<=b/\b<244)\/(firstTab[b*1]? =some (.int .u8 68)/\b=244):=by
 have e:=zf b h
 have key:∀c:Nat,mM b=c->firstTab[b*1]? =some (.int .u8 (c:Int)):=λc hc=>by rw[e,hc]
 by_cases c1:b<194\/245<=b
 ·refine .inl ⟨key 241 (by unfold mM;(repeat' split)<;>omega),c1⟩
 by_cases c2:b<224
 ·refine .inr (.inl ⟨key 2 (by unfold mM;(repeat' split)<;>omega),by omega,c2⟩)
 by_cases c3:b=224
 ·subst c3;exact .inr (.inr (.inl ⟨key 19 rfl,rfl⟩))
 by_cases c5:b=237
 ·subst c5;exact .inr (.inr (.inr (.inr (.inl ⟨key 35 rfl,rfl⟩))))
 by_cases c4:b<240
 ·refine .inr (.inr (.inr (.inl ⟨key 3 (by unfold mM;(repeat' split)<;>omega),by omega,c4,c5⟩)))
 by_cases c6:b=240
 ·subst c6;exact .inr (.inr (.inr (.inr (.inr (.inl ⟨key 52 rfl,rfl⟩)))))
 by_cases c7:b<244
 ·refine .inr (.inr (.inr (.inr (.inr (.inr (.inl ⟨key 4 (by unfold mM;(repeat' split)<;>omega),by omega,c7⟩))))))
 have c8:b=244:=by omega
 subst c8
 exact .inr (.inr (.inr (.inr (.inr (.inr (.inr ⟨key 68 rfl,rfl⟩))))))
theorem xY {s:List UInt8}{a b:Int}(h0:¬s.length=0)(h:((aA s).1:Int)=0/\((aA s).2:Int)=0)(ha:a=65533)(hb:b=1):((eN s).1:Int)=a/\((eN s).2:Int)=b:=by
 have:(aA s).2=0:=by omega
 subst ha hb;simp[eN,h0,this]
theorem Cv {s:List UInt8}{a b:Int}(h0:¬s.length=0)(h:((aA s).1:Int)=a/\((aA s).2:Int)=b)(hb:0<b):((eN s).1:Int)=a/\((eN s).2:Int)=b:=by
 have:¬(aA s).2=0:=by omega
 simpa[eN,h0,this] using h
theorem HV {G:Glo}(hGL:ab G utfTy)(s:List UInt8)(hs:s.length=0\/128<=aa s 0):
    an prog G 219 [.str s] (.tuple [.int .i32 ((eN s).1:Int),.int .i64 ((eN s).2:Int)]):=by
  refine pK func219 call219 rfl rfl rfl rfl hGL ?_;intro C hC
  by_cases h0:s.length=0
  · refine aZ ?_
    intros
    refine DD ?_
    simp only[eN,if_pos h0]
    exact⟨rfl,rfl⟩
  replace hs:128<=aa s 0:=by omega
  have hdc:=EX (aa s 0) (bG s 0) hs
  refine aZ ?_
  intros
  rcases hdc with⟨hx,hb⟩|⟨hx,hb⟩|⟨hx,hb⟩|⟨hx,hb⟩|⟨hx,hb⟩|⟨hx,hb⟩|⟨hx,hb⟩|⟨hx,hb⟩
  all_goals (erw[hx])
  · refine aZ ?_
    intros
    apply MZ
    refine aZ ?_
    intros
    apply MZ
    refine aZ ?_
    intros
    apply MZ
    refine aZ ?_
    intros
    clear hx
    refine DD ?_
    refine xY h0 ?_ (IT _) rfl
    generalize hz:aA s=z
    unfold aA bH gp cp2 uD uC at hz
    try simp only[show Int.toNat 0=0 from rfl,show Int.toNat 1=1 from rfl,show Int.toNat (1+1)=2 from rfl,show Int.toNat (1+1+1)=3 from rfl] at*
    generalize aa s 0=b0 at*
    generalize aa s 1=b1 at*
    generalize aa s 2=b2 at*
    generalize aa s 3=b3 at*
    generalize s.length=l at*
    repeat' (split at hz;try (exfalso;omega))
    all_goals (try subst z)
    all_goals (first
      |exact⟨rfl,rfl⟩
      |(simp only[Bool.and_eq_true,Bool.or_eq_true,decide_eq_true_eq,beq_iff_eq] at*;first|(exfalso;omega)|omega))
  all_goals (repeat' (first|(conv=>whnf);first|refine .w ?_|refine .v ?_|refine bu ?_ ?_<;>(intro hb;try exact dd hb)|apply au|apply aM|(apply a6<;>intro hb)|(apply ba;intro hbd)|(apply bc;intro bl)|(apply bh;intro va vk vc hva)|(apply bg;intro v)|(apply bj;intro bl cap hcap)|apply bx|(apply bf<;>intro hnx)|apply ct mixed hC hGL (by kernel_rfl)|(show Rt _ _ _;exact a7)|fail)
             all_goals try conv=>whnf)
  all_goals (clear hx;refine DD ?_)
  all_goals (first
    | (refine xY h0 ?_ rfl rfl
       generalize hz:aA s=z
       unfold aA bH gp cp2 uD uC at hz
       try simp only[show Int.toNat 0=0 from rfl,show Int.toNat 1=1 from rfl,show Int.toNat (1+1)=2 from rfl,show Int.toNat (1+1+1)=3 from rfl] at*
       generalize aa s 0=b0 at*
       generalize aa s 1=b1 at*
       generalize aa s 2=b2 at*
       generalize aa s 3=b3 at*
       generalize s.length=l at*
       repeat' (split at hz;try (exfalso;omega))
       all_goals (try subst z)
       all_goals (first
         |exact⟨rfl,rfl⟩
         |(simp only[Bool.and_eq_true,Bool.or_eq_true,decide_eq_true_eq,beq_iff_eq] at*;first|(exfalso;omega)|omega))
       done)
    | (refine Cv h0 ?_ (by decide)
       generalize hz:aA s=z
       unfold aA bH gp cp2 uD uC at hz
       try simp only[show Int.toNat 0=0 from rfl,show Int.toNat 1=1 from rfl,show Int.toNat (1+1)=2 from rfl,show Int.toNat (1+1+1)=3 from rfl] at*
       generalize aa s 0=b0 at*
       generalize aa s 1=b1 at*
       generalize aa s 2=b2 at*
       generalize aa s 3=b3 at*
       generalize s.length=l at*
       repeat' (split at hz;try (exfalso;omega))
       all_goals (try subst z)
       all_goals (first
         |exact⟨rfl,rfl⟩
         |(simp only[Bool.and_eq_true,Bool.or_eq_true,decide_eq_true_eq,beq_iff_eq] at*;first|(exfalso;omega)|omega))))
theorem HW {G:Glo}(hGL:ab G utfTy)(s:List UInt8):
    an prog G 175 [.str s] (.tuple [.int .i32 ((eN s).1:Int),.int .i64 ((eN s).2:Int)]):=by
  refine pK func175 call175 rfl rfl rfl rfl hGL ?_;intro C hC;by_cases h0:s.length=0\/128<=aa s 0
  · have hd:=HV (G:=G) hGL s h0;by_cases h1:s.length=0
    all_goals (repeat' (first|(conv=>whnf);first|refine .w ?_|refine .v ?_|refine bu ?_ ?_<;>(intro hb;try exact dd hb)|apply au|apply aM|(apply a6<;>intro hb)|(apply ba;intro hbd)|(apply aJ;exact hd)|(apply ax (i:=0) rfl;exact hd)|(apply bc;intro bl)|(apply bh;intro va vk vc hva)|(apply bg;intro v)|(apply bj;intro bl cap hcap)|apply bx|(apply bf<;>intro hnx)|apply ct mixed hC hGL (by kernel_rfl)|(apply cq;assumption;exact hd;exact rfl)|(show Rt _ _ _;exact a7)|fail)
               all_goals try conv=>whnf)
    all_goals (exfalso;simp only[Int.toNat_zero] at*;omega)
  · refine aZ ?_;intros;refine DD ?_;refine Cv (by omega) ?_ (by decide);generalize hz:aA s=z;unfold aA bH gp cp2 uD uC at hz;try simp only[show Int.toNat 0=0 from rfl,show Int.toNat 1=1 from rfl,show Int.toNat (1+1)=2 from rfl,show Int.toNat (1+1+1)=3 from rfl] at*
    generalize aa s 0=b0 at*
    generalize aa s 1=b1 at*
    generalize aa s 2=b2 at*
    generalize aa s 3=b3 at*
    generalize s.length=l at*
    repeat' (split at hz;try (exfalso;omega))
    all_goals (try subst z)
    all_goals (first
      |exact⟨rfl,rfl⟩
      |(simp only[Bool.and_eq_true,Bool.or_eq_true,decide_eq_true_eq,beq_iff_eq] at*;first|(exfalso;omega)|omega))
end
section
attribute [local irreducible] bI ap aa az aW ab ad
attribute [local irreducible] aA fp gt dO ga dQ
attribute [local irreducible] firstTab eN
theorem o6 (s:List UInt8):((aA s).2=0->(aA s).1=0)/\((aA s).2=1->(aA s).1<128)/\(s.length=0->(aA s).2=0):=by
 refine⟨?_,?_,?_⟩
 ·unfold aA;(repeat' split)<;>simp
 ·unfold aA;(repeat' split)<;>simp;omega
 ·intro h;unfold aA;simp[h]
theorem DY (s:List UInt8):(((aA s).2:Int)=0->((eN s).2:Int)=0/\s.length=0\/((eN s).1:Int)=65533/\((eN s).2:Int)=1)/\(((aA s).2:Int)≠0->((eN s).1:Int)=(aA s).1/\((eN s).2:Int)=(aA s).2):=by
 have hf:=o6 s;unfold eN;by_cases h0:s.length=0
 ·rw[if_pos h0];refine⟨λ_=>.inl ⟨rfl,h0⟩,λh=>absurd (hf.2.2 h0) (by omega)⟩
 ·rw[if_neg h0];by_cases h1:(aA s).2=0
  ·rw[if_pos h1];exact⟨λ_=>.inr ⟨rfl,rfl⟩,λh=>absurd h1 (by omega)⟩
  ·rw[if_neg h1];exact⟨λh=>absurd h (by omega),λ_=>⟨rfl,rfl⟩⟩
theorem Gr {G:Glo}(hU:ab G utfTy)(s:List UInt8):
  an prog G 185 [.str s] (.tuple [.int .i64 ((aA s).1:Int),.int .i64 ((aA s).2:Int)]):=by
 refine aw func185 call185 λC hC hGL=> ?_;have hd:=HW (G:=G) hU s;have hn:=nn s;have hf:=o6 s;have hr:=DY s;have hk:((eN s).1:Int)<=1114111:=by
  by_cases h:(aA s).2=0
  ·unfold eN;rw[if_pos h];split<;>decide
  ·omega
 refine xw ?_;repeat' first|exact .n|apply Lc.mk
 all_goals intros
 all_goals (refine DD ?_;omega)
theorem Cz {G:Glo}(hU:ab G utfTy)(s:List UInt8)(hl:s.length<=9223372036854775807):an prog G 122 [.str s] (.int .i64 (fp s)):=by
 refine aw func122 call122 λC hC hGL=> ?_;have hle:=λk=>nn (s.drop k);have hN:=λt=>Gr (G:=G) hU t;repeat' (first|(conv=>whnf);first|refine .w ?_|refine .v ?_|refine bu ?_ ?_<;>(intro hb;try exact dd hb)|apply au|apply aM|(apply a6<;>intro hb)|(apply ba;intro hbd)|(apply aJ;exact hN _)|(apply ax (i:=0) rfl;exact hN _)|(apply bc;intro bl)|(apply bh;intro va vk vc hva)|(apply bg;intro v)|(apply bj;intro bl cap hcap)|apply bx|(apply bf<;>intro hnx)|apply ct mixed hC hGL (by kernel_rfl)|(apply cq;assumption;exact hN _;exact rfl)|(show Rt _ _ _;exact a7)|fail)
 all_goals try conv=>whnf
 refine lp hC hGL (λ(i:Nat)=>[(0,.str s),(7,.own 0 (.pointer (some ⟨bl,0,none⟩)))]) (λi=>[.iter bl s i]) (λi=>i<=s.length/\gt s=(gt (s.drop i)).map (· +i)) (λi=>s.length-i) 0 ?_ ai rfl ?_
 ·exact⟨Nat.zero_le _,by simp⟩
 rintro i ⟨hi,hb0⟩;have hn:=hle i;rw[List.length_drop] at hn;repeat' (first|(conv=>whnf);first|refine .w ?_|refine .v ?_|refine bu ?_ ?_<;>(intro hb;try exact dd hb)|apply au|apply aM|(apply a6<;>intro hb)|(apply ba;intro hbd)|(apply aJ;exact hN _)|(apply ax (i:=0) rfl;exact hN _)|(apply bc;intro bl)|(apply bh;intro va vk vc hva)|(apply bg;intro v)|(apply bj;intro bl cap hcap)|apply bx|(apply bf<;>intro hnx)|apply ct mixed hC hGL (by kernel_rfl)|(apply cq;assumption;exact hN _;exact rfl)|(show Rt _ _ _;exact a7)|fail)
 all_goals try conv=>whnf
 ·apply aj;refine congrArg (AVal.int .i64) ?_;have h1:=lK (s.drop i) (by rw[List.length_drop];omega);rw[if_pos (by omega)] at h1;rw[h1] at hb0;simp only[fp,hb0,Option.map_some,Nat.zero_add]
 ·have h1:=lK (s.drop i) (by rw[List.length_drop];omega);rw[if_neg (by omega)] at h1;have h2:dO (s.drop i)=(aA (s.drop i)).2:=by unfold dO;rw[if_neg (by omega)]
  refine db (i+dO (s.drop i)) ⟨by omega,?_⟩ (by omega) ⟨rfl,rfl,trivial⟩ rfl;rw[hb0,h1,List.drop_drop,h2];cases gt (s.drop (i+(aA (s.drop i)).2))<;>simp<;>omega
 ·apply aj;refine congrArg (AVal.int .i64) ?_;rw[zJ (s.drop i) (by rw[List.length_drop];omega)] at hb0;simp only[fp,hb0,Option.map_none]
end
section
theorem nt {b:Bool}{c:Int}(h:(c<32/\c≠9/\c≠10)\/c=127\/(c=10/\b=false)):lR b c=true:=decide_eq_true (by
 rcases h with h|h|h
 ·exact .inl ⟨h.1,h.2.1,.inl h.2.2⟩
 ·exact .inr h
 ·exact .inl ⟨by omega,by omega,.inr h.2⟩)
theorem v7 {b:Bool}{c:Int}(h1:c≠127)(h:32<=c\/c=9\/(c=10/\b=true)):lR b c=false:=decide_eq_false (by
 rintro(k|k)
 ·rcases h with h|h|h
  ·omega
  ·omega
  ·rcases k.2.2 with m|m
   ·exact m h.1
   ·rw[h.2] at m;cases m
 ·exact h1 k)
theorem KS {c:Int}:lR true c=true↔(c<32/\c≠9/\c≠10)\/c=127:=by simp[lR]
theorem uo {c:Int}:lR false c=true↔(c<32/\c≠9)\/c=127:=by simp[lR]
theorem Ht {b:Bool}{s:List UInt8}{i:Nat}(hi:i<s.length)(h:lR b (aa s i:Int)=true)(hb:∀j,j<i->lR b (aa s j:Int)=false):dR b s=false:=by
 unfold dR;rw[jN hi h hb];exact decide_eq_false (by omega)
theorem C9 {b:Bool}{s:List UInt8}{i:Nat}(hi:s.length<=i)(hb:∀j,j<i->lR b (aa s j:Int)=false):dR b s=lP (fp s) 0:=by
 unfold dR;rw[fA (λj hj=>hb j (by omega)),Bool.eq_iff_iff,mf];simp
attribute [local irreducible] bI ap aa az aW ab ad
attribute [local irreducible] lR dR fp
theorem o0 {G:Glo}(c:Int):an prog G 123 [.int .u8 c] (.bool (lR false c)):=by
 refine aw func123 call123 λC hC hGL=> ?_;refine xw ?_;repeat' first|exact .n|apply Lc.mk
 all_goals intros
 all_goals (apply aj;refine congrArg AVal.bool ?_)
 all_goals (rw[Bool.eq_iff_iff,uo];simp only[fh,reduceCtorEq,true_iff,false_iff];omega)
end
section
attribute [local irreducible] bI ap aa az aW ab ad
attribute [local irreducible] lR dR fp
theorem vW {G:Glo}(c:Int):an prog G 189 [.int .u8 c] (.bool (lR false c)):=by
 refine aw func189 call189 λC hC hGL=> ?_;refine xw ?_;repeat' first|exact .n|apply Lc.mk
 all_goals intros
 all_goals (apply aj;refine congrArg AVal.bool ?_)
 all_goals (rw[Bool.eq_iff_iff,uo];simp only[fh,reduceCtorEq,true_iff,false_iff];omega)
end
section
theorem lJ {G:Glo}(s:List UInt8)(c:UInt8):an prog G 172 [.str s,.str [c]] (.int .i64 (s.countP (· ==c):Nat)):=by
 refine cj rfl call172 ?_;rintro R args ⟨x,t,e,hx,y,t',e',hy,rfl⟩ w hG hs;obtain rfl:=aF.1 hx;obtain rfl:=aF.1 hy;subst e';obtain rfl:=dN e;refine(strings_Count_one ⟨s.toArray⟩ c w).mono ?_;rintro e w' ⟨rfl,rfl⟩;exact⟨by simp[AVal.conc,Lib.countByte,List.count],Below.refl _ _⟩
end
section
abbrev N1:List AVal:=[.str [94],.str [94,94],.str [10],.str [94,110],.str [34],.str [94,39]]
set_option maxRecDepth 20000 in
theorem I7 (a b c t x:AVal):(mX 34 10 94 a b c t).set 34 x=mX 34 10 94 x b c t:=rfl
set_option maxRecDepth 20000 in
theorem I8 (a b c t x:AVal):(mX 34 10 94 a b c t).set 10 x=mX 34 10 94 a x c t:=rfl
set_option maxRecDepth 20000 in
theorem I6 (a b c t x:AVal):(mX 34 10 94 a b c t).set 94 x=mX 34 10 94 a b x t:=rfl
set_option maxRecDepth 20000 in
theorem FX (a b c t x:AVal):(mX 34 10 94 a b c t).set 256 x=mX 34 10 94 a b c x:=rfl
abbrev MJ (i:Nat):AVal:=.str [([34,10,94]:List UInt8).getD i 0]
theorem J6:KG encF [34,10,94] (mX 34 10 94 (.list 1 2 (gi [94,39])) (.list 1 2 (gi [94,110])) (.list 1 2 (gi [94,94])) (.list 1 3 MJ)):=by
 refine⟨λc hc=> ?_,λc hc=> ?_,xt ..,by decide⟩
 ·rw[kl c.toNat_lt];simp only[List.mem_cons,List.not_mem_nil,or_false] at hc;rcases hc with rfl|rfl|rfl
  all_goals exact⟨rfl,rfl⟩
 ·rw[kl c.toNat_lt];simp only[List.mem_cons,List.not_mem_nil,or_false,not_or] at hc;have h:∀k:UInt8,c≠k->c.toNat≠k.toNat:=λk hk e=>hk (UInt8.toNat_inj.1 e);have h1:c.toNat≠34:=h 34 hc.1;have h2:c.toNat≠10:=h 10 hc.2.1;have h3:c.toNat≠94:=h 94 hc.2.2;exact⟨by rw[if_neg h3,if_neg h2,if_neg h1],zn h3 h2 h1⟩
theorem HL (s:List UInt8):dJ s=s.flatMap encF:=rfl
attribute [local irreducible] bI ap aa az aW ab ad
attribute [local irreducible] mX encF dJ
theorem BS {G:Glo}:zW G 6 N1 encF [34,10,94]:=λbr bl vc=>by
 refine ze (E9 (G:=G) br bl vc) ?_;rintro r H ⟨va,vk,vt,bz,b1,c1,b2,c2,b3,c3,hva,rfl,rfl⟩;intro C R w e hm he;obtain⟨r2,H2,R2,⟨e1,e2⟩,h2,h3⟩:=qq (a':=.rop (mX 34 10 94 (.list 1 2 (gi [94,39])) (.list 1 2 (gi [94,110])) (.list 1 2 (gi [94,94])) (.list 1 3 MJ)) 0) (H':=[Im br 6 vc N1,.cells bl (some 253) (Np br 6 vc)])
  (λC=>aX (gB (i:=6) (k:=3) (p:=94) rfl rfl λR hr=>fj (I6 ..) (kl (by decide)) λ_=>dx hr)
   (aX (gB (i:=5) (k:=3) (p:=10) rfl rfl λR hr=>fj (I8 ..) (kl (by decide)) λ_=>dx hr)
   (aX (gB (i:=4) (k:=3) (p:=34) rfl rfl λR hr=>fj (I7 ..) (kl (by decide)) λ_=>dx hr)
   (aX (pS (i:=2) (k:=2) (p:=256) MJ rfl rfl (λj hj=>by rcases(show j=0\/j=1\/j=2 by omega) with rfl|rfl|rfl<;>exact⟨rfl,rfl⟩) λR hr=>fj (FX ..) (xt ..) λ_=>dx hr)
   (aX (bZ (i:=2) (k:=0) rfl rfl) (cL ai aH)))))) C R w e hm he
 exact⟨r2,H2,R2,⟨_,J6,e1,e2⟩,h2,h3⟩
theorem nL {G:Glo}(s:List UInt8)(hl:s.length<=2000000)(hct:∀c,an prog G 172 [.str s,.str [c]] (.int .i64 (s.countP (· ==c):Nat))):an prog G 94 [.str s] (.str (dJ s)):=by
 refine aw func94 call94 λC hC hGL=> ?_;refine aT ?_;intros;refine⟨_,j4 6 _ (by decide) (by decide) ?_,?_,?_⟩
 ·unfold az;exact iU rfl
 ·rintro v H' ⟨bl,va,vk,vc,hva,e,rfl⟩;cases e;obtain⟨br,rfl,rfl⟩:=hva (by omega);have e2:=oY (BS (G:=G)) (by decide) br bl vc s (by omega) hct;rw[<-HL] at e2;refine aT ?_;intros;refine H5 e2 ?_;exact ez
 ·rintro v H' ⟨bl,va,vk,vc,hva,e,rfl⟩;cases e
end
end Go.Proofs.YtmdhmodenkjmdaaGreatDoor
