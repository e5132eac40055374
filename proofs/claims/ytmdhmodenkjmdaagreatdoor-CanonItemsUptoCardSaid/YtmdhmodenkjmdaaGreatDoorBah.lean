/- Parts of the proof of canonItems_card. -/
import Derived.Lib.LaidTab
import Derived.Lib.AtoiAll
import Derived.Test.YtmdhmodenkjmdaaGreatDoorBag
set_option linter.unusedVariables false
set_option linter.unusedSimpArgs false
set_option linter.unusedSectionVars false
namespace Go.Proofs.YtmdhmodenkjmdaaGreatDoor
open Go Go.RowKit
open Tryz
set_option maxRecDepth 20000
set_option maxHeartbeats 4000000
section
theorem zE {s:List UInt8}{j:Nat}{c:UInt8}(hj:j<s.length)(h:c∉s):(aa s j:Int)≠(c.toNat:Int):=by
 intro e;apply h;have e1:aa s j=(s[j]).toNat:=by simp[aa,List.getD,hj]
 have e2:(s[j]).toNat=c.toNat:=by rw[<-e1];omega
 rw[<-UInt8.toNat_inj.1 e2]
 exact List.getElem_mem hj
theorem Hp {r t:List UInt8}{c:UInt8}(h:c∉r):bQ (r++c::t) (c.toNat:Int)=(r.length:Nat):=by
 refine v6 (by simp) ?_ λj hj=> ?_
 ·simp[aa,List.getD]
 ·have:=zE hj h;rwa [show aa (r++c::t) j=aa r j by simp[aa,List.getD,List.getElem?_append_left hj]]
theorem JR {r:List UInt8}{c:UInt8}(h:c∉r):bQ r (c.toNat:Int)= -1:=um λj hj=>zE hj h
theorem zY {P:Program}{G:Glo}{L:Nat}{avs:List AVal}{H:Heap}{Q Q':Bool->Heap->Prop}(h:k9 P G L avs H Q)(hq:∀b H',Q b H'->∃H2,H'.Perm H2/\Q' b H2):k9 P G L avs H Q':=by
 intro R w args hG hm ha;obtain⟨fn,tm,ag,bd,hy,hr⟩:=h R w args hG hm ha;exact⟨fn,tm,ag,bd,hy,hr.mono λe w' ⟨b,H',R',q,er,hm'⟩=>let ⟨H2,hp,q'⟩:=hq _ _ q;⟨b,H2,R',q',er,hm'.perm hp⟩⟩
theorem Lb {P:Program}[Tab P]{G:Glo}{L:Nat}{avs:List AVal}{H1 H2:Heap}{Q:Bool->Heap->Prop}(hp:H1.Perm H2)(h:k9 P G L avs H1 Q):k9 P G L avs H2 Q:=by
 have hb:∀k,k∈dk H2↔k∈dk H1:=λk=>by
  have:=(hp.filterMap HEnt.blk).mem_iff (a:=k);exact this.symm
 intro R w args hG hm ha;obtain⟨fn,tm,ag,bd,hy,hr⟩:=h R w args hG ((hm.perm hp.symm).blks_iff hb) ha;exact⟨fn,tm,ag,bd,hy,hr.mono λe w' ⟨b,H',R',q,er,hm'⟩=>⟨b,H',R',q,er,hm'.blks_iff λk=>(hb k).symm⟩⟩
theorem Mx {P:Program}[Tab P]{G:Glo}{f:FuncId}{avs:List AVal}(H:Heap){X:Type}{N:X->Heap}{v v':X->AVal}(hs:ad P G f avs [] (λr H'=>∃x,r= .ret (v x)/\H'=N x))(hv:∀x R u,bD R (v x) u->bD R (v' x) u):
  ad P G f avs H (λr H'=>∃x,r= .ret (v' x)/\H'=H++N x):=by
 intro R w args hG hm ha;rcases ff H hs R w args hG hm ha with⟨h1,h2⟩|⟨u,w',h1,res,H',R',⟨H1,⟨x,rfl,rfl⟩,rfl⟩,er,hm'⟩
 ·refine .inl ⟨h1,h2.mono ?_⟩;rintro e w' ⟨res,H',R',⟨H1,⟨x,rfl,rfl⟩,rfl⟩,⟨y,e1,hr⟩,hm'⟩;exact⟨.ret (v' x),_,R',⟨x,rfl,rfl⟩,⟨y,e1,hv x R' y hr⟩,hm'.perm List.perm_append_comm⟩
 ·obtain⟨y,e1,hr⟩:=er;exact .inr ⟨u,w',h1,.ret (v' x),_,R',⟨x,rfl,rfl⟩,⟨y,e1,hv x R' y hr⟩,hm'.perm List.perm_append_comm⟩
theorem HZ {P:Program}[Tab P]{G:Glo}{f:FuncId}{avs:List AVal}{H:Heap}{K Kp:AVal->Heap->Prop}{X:Type}{N:X->Heap}{v:X->AVal}(v':X->AVal)(hs:ad P G f avs [] (λr H'=>∃x,r= .ret (v x)/\H'=N x))(hv:∀x R u,bD R (v x) u->bD R (v' x) u)(k:∀x,K (v' x) (H++N x)):Cx P G f avs H K Kp:=by
 refine .mk _ (Mx H hs hv) ?_ ?_
 ·rintro u H' ⟨x,e,rfl⟩;cases e;exact k x
 ·rintro u H' ⟨x,e,rfl⟩;cases e
abbrev dA (b:Nat)(s:List UInt8):HEnt:=.cells b (some 9) [.str s]
abbrev mu (b:Nat)(m:Int):HEnt:=.cells b (some 3) [.int .i64 m]
abbrev fo (b:Nat):Value:=.pointer (some ⟨b,0,none⟩)
attribute [local irreducible] bI ap aa az aW ab ad
attribute [local irreducible] fq k9
theorem pu {G:Glo}(s:List UInt8)(c:UInt8):an prog G 124 [.str s,.str [c]] (.int .i64 (bQ s (c.toNat:Int))):=by
 have k1:=vg (G:=G) s c;refine aw func124 call124 λC hC hGL=> ?_;exact bK
theorem oc {G:Glo}(s:List UInt8)(c:UInt8):ad prog G 196 [.str s,.str [c],.int .i64 0] []
  (λr H=>∃x:Nat×Nat×Nat,r= .ret (.func (.func 233) [] [.own 1 (fo x.2.1),.own 0 (fo x.1),.own 2 (fo x.2.2)])/\H=[dA x.1 s,dA x.2.1 [c],mu x.2.2 0]):=by
 refine aw func196 call196 λC hC hGL=> ?_;refine Oq ?_;intro b0 b1 b2;intros;exact⟨_,List.Sublist.refl _,(b0,b1,b2),rfl,rfl⟩
theorem od {G:Glo}(s:List UInt8)(c:UInt8):ad prog G 145 [.str s,.str [c]] []
  (λr H=>∃x:Nat×Nat×Nat,r= .ret (.func (.func 233) [] [.own 1 (fo x.2.1),.own 0 (fo x.1),.own 2 (fo x.2.2)])/\H=[dA x.1 s,dA x.2.1 [c],mu x.2.2 0]):=by
 have h1:=oc (G:=G) s c;refine aw func145 call145 λC hC hGL=> ?_;refine aT ?_;refine HZ (λx:Nat×Nat×Nat=>.func (.func 233) [] [.own 1 (fo x.2.1),.own 0 (fo x.1),.own 2 (fo x.2.2)]) h1 (λ_ _ _ h=>h) ?_;rintro⟨b0,b1,b2⟩;refine aT ?_;exact⟨_,List.Sublist.refl _,(b0,b1,b2),rfl,rfl⟩
theorem sG {G:Glo}(L b0 b1 b2:Nat)(c:UInt8)(rows:List (List UInt8))(hne:0<rows.length)(hno:∀k,c∉rows.getD k [])(hlen:∀k,(dy c (rows.drop k)).length<=1000000){Y Z:Type}(J:Y->Heap)(E:Z->Heap)(Inv:Nat->Y->Prop)(y0:Y)(h0:Inv 0 y0)
  (hy:∀(k:Nat) (s':List UInt8) (y:Y),k<rows.length->Inv k y->k9 prog G L [.str (rows.getD k [])] (dA b0 s'::dA b1 [c]::mu b2 0::J y) (λb H'=>(b=true/\∃y',Inv (k+1) y'/\H'=dA b0 s'::dA b1 [c]::mu b2 0::J y')\/(b=false/\∃z,H'=dA b0 s'::dA b1 [c]::mu b2 0::E z))):
  ad prog G 233 [.func (.yield L) [] [],.own 1 (fo b1),.own 0 (fo b0),.own 2 (fo b2)] (dA b0 (dy c rows)::dA b1 [c]::mu b2 0::J y0)
   (λr H'=>r= .ret (.tuple [])/\∃s',(∃y,Inv rows.length y/\H'=dA b0 s'::dA b1 [c]::mu b2 0::J y)\/∃z,H'=dA b0 s'::dA b1 [c]::mu b2 0::E z):=by
 have k1:=λs=>pu (G:=G) s c;have hGL:ab G []:=aD;refine My func233 call233 rfl rfl rfl rfl ?_;intro C hC;refine cut hC hGL [(0,.func (.yield L) [] []),(1,.own 1 (fo b1)),(2,.own 0 (fo b0)),(3,.own 2 (fo b2))] (dA b0 (dy c rows)::dA b1 [c]::mu b2 0::J y0) True ez λ_=> ?_;refine dZ (jl (nO (X:=Nat×Y) (λx=>[(0,.func (.yield L) [] []),(1,.own 1 (fo b1)),(2,.own 0 (fo b0)),(3,.own 2 (fo b2))]) (λx=>dA b0 (dy c (rows.drop x.1))::dA b1 [c]::mu b2 0::J x.2) (λx=>x.1<rows.length/\Inv x.1 x.2) (λx=>rows.length-x.1) (0,y0) ⟨hne,h0⟩ ai (List.Sublist.refl _) ?_));rintro⟨k,y⟩ ⟨hk,hI⟩;dsimp only at hk hI ⊢;refine jl ?_;by_cases hl:k+1<rows.length
 ·have e1:=Bd (c:=c) hl;have hi:=Hp (r:=rows.getD k []) (t:=dy c (rows.drop (k+1))) (hno k);have hln:=hlen k;rw[<-e1] at hi;have k2:=k1 (dy c (rows.drop k));rw[hi] at k2;have hy1:=hy k (dy c (rows.drop k)) y hk hI;have e3:(dy c (rows.drop k)).take (rows.getD k []).length=rows.getD k []:=by rw[e1,List.take_left]
  have e4:(dy c (rows.drop k)).drop ((rows.getD k []).length+1)=dy c (rows.drop (k+1)):=by
   rw[e1,<-List.drop_drop,List.drop_left];rfl
  have e5:(rows.getD k []).length+1<=(dy c (rows.drop k)).length:=by rw[e1];simp
  generalize hsr:dy c (rows.drop k)=s at*
  generalize hr:rows.getD k []=r at*
  refine cut hC hGL [(0,.func (.yield L) [] []),(1,.own 1 (fo b1)),(2,.own 0 (fo b0)),(3,.own 2 (fo b2)),(7,.int .i64 (r.length:Nat))] (dA b0 s::dA b1 [c]::mu b2 0::J y) True ez λ_=> ?_;refine cut hC hGL [(0,.func (.yield L) [] []),(1,.own 1 (fo b1)),(2,.own 0 (fo b0)),(3,.own 2 (fo b2)),(7,.int .i64 (r.length:Nat))] (dA b0 s::dA b1 [c]::mu b2 0::J y) True ez λ_=> ?_;refine cut hC hGL [(0,.func (.yield L) [] []),(1,.own 1 (fo b1)),(2,.own 0 (fo b0)),(3,.own 2 (fo b2)),(7,.int .i64 (r.length:Nat)),(8,.str (s.take r.length))] (dA b0 s::dA b1 [c]::mu b2 0::J y) True ez λ_=> ?_;rw[e3];refine dZ (dZ (zN 2 hC hGL rfl rfl (by kernel_rfl) ?_));refine aT ?_;refine⟨L,_,rfl,rfl,zY hy1 ?_⟩;rintro b H' (⟨rfl,y',hy',rfl⟩|⟨rfl,z,rfl⟩)
  ·refine⟨_,List.Perm.refl _,?_⟩;refine aT ?_;refine aI hC hGL (aT ?_);refine aI hC hGL (aT ?_);rw[aP];refine⟨(k+1,y'),⟨hl,hy'⟩,by show rows.length-(k+1)<rows.length-k;omega,ai,?_⟩;show List.Sublist (dA b0 (dy c (rows.drop (k+1)))::dA b1 [c]::mu b2 0::J y') _;rw[<-e4];exact List.Sublist.refl _
  ·refine⟨_,List.Perm.refl _,?_⟩;refine aT ?_;refine aI hC hGL (aT ?_);exact⟨_,List.Sublist.refl _,rfl,s,.inr ⟨z,rfl⟩⟩
 ·have e1:=Bb (c:=c) (l:=rows) (k:=k) (by omega);have hi:=JR (hno k);rw[<-e1] at hi;have k2:=k1 (dy c (rows.drop k));rw[hi] at k2;have hy1:=hy k (dy c (rows.drop k)) y hk hI;rw[<-e1] at hy1;have hkl:k+1=rows.length:=by omega
  generalize dy c (rows.drop k)=s at*
  refine cut hC hGL [(0,.func (.yield L) [] []),(1,.own 1 (fo b1)),(2,.own 0 (fo b0)),(3,.own 2 (fo b2)),(7,.int .i64 (-1))] (dA b0 s::dA b1 [c]::mu b2 0::J y) True ez λ_=> ?_;refine aI hC hGL (aT ?_);intro _;refine⟨λh=>absurd h (by decide),λ_=>⟨λ_=> ?_,λh=>absurd rfl h⟩⟩;refine zN 2 hC hGL rfl rfl (by kernel_rfl) ?_;refine aT ?_;refine⟨L,_,rfl,rfl,zY hy1 ?_⟩;rintro b H' (⟨rfl,y',hy',rfl⟩|⟨rfl,z,rfl⟩)
  ·refine⟨_,List.Perm.refl _,?_⟩;refine aT ?_;rw[hkl] at hy';exact⟨_,List.Sublist.refl _,rfl,s,.inl ⟨y',hy',rfl⟩⟩
  ·refine⟨_,List.Perm.refl _,?_⟩;refine aT ?_;exact⟨_,List.Sublist.refl _,rfl,s,.inr ⟨z,rfl⟩⟩
end
section
theorem mi {α β:Type}{f:α->Option β}{x y:α}(hf:f y=f x):∀{h:List α} {i:Nat},h[i]? =some x->(h.set i y).filterMap f=h.filterMap f
 |[],i,e=>by simp at e
 |z::h,0,e=>by
  simp only[List.getElem?_cons_zero,Option.some.injEq] at e;subst e;simp[List.filterMap_cons,hf]
 |z::h,i+1,e=>by
  simp only[List.getElem?_cons_succ] at e;simp only[List.set_cons_succ,List.filterMap_cons,mi hf e]
theorem MS.setEnt {C:Ctx}{R:Seal}{H:Heap}{w:World}{i:Nat}{x y:HEnt}(h:MS C R H w)(hi:H[i]? =some x)(hb:y.blk=x.blk)(hy:y.holds R w):MS C R (H.set i y) w:=by
 have hx:x∈H:=List.mem_of_getElem? hi;have hm:∀z,z∈H.set i y->z∈H\/z=y:=λz hz=>List.mem_or_eq_of_mem_set hz;refine⟨h.sealed,h.ge,h.fresh,⟨λz hz=> ?_,?_,λz hz b hzb=> ?_⟩,λz hz b hzb=> ?_,h.ext⟩
 ·rcases hm z hz with h1|rfl
  ·exact h.heap.holds z h1
  ·exact hy
 ·rw[mi hb hi];exact h.heap.nodup
 ·rcases hm z hz with h1|rfl
  ·exact h.heap.apart z h1 b hzb
  ·exact h.heap.apart x hx b (by rw[<-hb];exact hzb)
 ·rcases hm z hz with h1|rfl
  ·exact h.own z h1 b hzb
  ·exact h.own x hx b (by rw[<-hb];exact hzb)
theorem iY {R:Seal}{a a':AVal}(ht:∀v,aV R a [v]->aV R a' [v]):∀{cs:List AVal} {vs:List Value} {p:Nat},bA R cs vs->cs[p]? =some a->bA R (cs.set p a') vs
 |[],_,_,_,e=>by simp at e
 |c::cs,_,0,⟨v,t,rfl,h1,h2⟩,e=>by
  simp only[List.getElem?_cons_zero,Option.some.injEq] at e;subst e;exact⟨v,t,rfl,ht v h1,h2⟩
 |c::cs,_,p+1,⟨v,t,rfl,h1,h2⟩,e=>by
  simp only[List.getElem?_cons_succ] at e;exact⟨v,t,rfl,h1,iY ht h2 e⟩
inductive lc (R:Seal) (p:Nat) (a':AVal):HEnt->HEnt->Prop
 |cells {b eT cs a} (hp:cs[p]? =some a) (ht:∀v,aV R a [v]->aV R a' [v]):lc R p a' (.cells b eT cs) (.cells b eT (cs.set p a'))
 |row {v eT sz n cs a} (hp:cs[p]? =some a) (ht:∀v,aV R a [v]->aV R a' [v]):lc R p a' (.row v eT sz n cs) (.row v eT sz n (cs.set p a'))
theorem lc.holds {R:Seal}{p:Nat}{a':AVal}{x y:HEnt}{w:World}(h:lc R p a' x y)(hx:x.holds R w):y.holds R w/\y.blk=x.blk:=by
 cases h with
 |cells hp ht=>
  obtain⟨C,e,fz,hb,hl,hf⟩:=hx;exact⟨⟨C,e,fz,hb,iY ht hl hp,hf⟩,rfl⟩
 |row hp ht=>
  rename_i v eT sz n cs a;obtain⟨hlen,y⟩:=hx;refine⟨⟨by rw[List.length_set];exact hlen,?_⟩,by cases v with|slice a l c=>cases a<;>rfl|_=>rfl⟩
  rcases y with⟨h1,h2⟩|⟨b,cap,C,e,fz,rfl,hb,hs,hn,hl,hf⟩
  ·exact .inl ⟨h1,h2⟩
  ·exact .inr ⟨b,cap,C,e,fz,rfl,hb,hs,hn,iY ht hl hp,hf⟩
def To (C:Ctx)(n:Nat)(e:Env)(h:Heap)(e':Env)(h':Heap):Prop:=
 ∀R a w,MS C R h w->FS C.D n R e a->∃R',R.le R'/\MS C R' h' w/\FS C.D n R' e' a
section
variable {C:Ctx} {n:Nat} {e e' e'':Env} {h h' h'':Heap}
theorem aX (a:To C n e h e' h')(b:To C n e' h' e'' h''):To C n e h e'' h'':=λR x w hm hf=>
 let ⟨R1,l1,m1,f1⟩:=a R x w hm hf
 let ⟨R2,l2,m2,f2⟩:=b R1 x w m1 f1
 ⟨R2,Seal.le_trans l1 l2,m2,f2⟩
theorem cL (hs:Env.sub e e')(hh:h'.Sublist h):To C n e h e' h':=λR _ _ hm hf=>⟨R,Seal.le_refl R,hm.drop hh,hf.sub hs⟩
theorem xq (sz:Nat):To C n e h e (h++[.row (.slice none 0 0) none sz 0 []]):=λR a w hm hf=>by
 refine⟨R,Seal.le_refl R,MS.perm (H:=.row (.slice none 0 0) none sz 0 []::h) ?_ (List.perm_append_singleton _ h).symm,hf⟩
 refine⟨hm.sealed,hm.ge,hm.fresh,⟨λz hz=> ?_,hm.heap.nodup,λz hz b hb=> ?_⟩,λz hz b hb=> ?_,hm.ext⟩
 ·rcases List.mem_cons.1 hz with rfl|hz
  ·exact⟨by simp,.inl ⟨rfl,rfl⟩⟩
  ·exact hm.heap.holds z hz
 ·rcases List.mem_cons.1 hz with rfl|hz
  ·cases hb
  ·exact hm.heap.apart z hz b hb
 ·rcases List.mem_cons.1 hz with rfl|hz
  ·cases hb
  ·exact hm.own z hz b hb
theorem Cl {i p:Nat}{a':AVal}{x y:HEnt}(hi:h[i]? =some x)(hc:∀R,lc R p a' x y):To C n e h e (h.set i y):=λR a w hm hf=>by
 obtain⟨h1,h2⟩:=(hc R).holds (hm.heap.holds x (List.mem_of_getElem? hi));exact⟨R,Seal.le_refl R,hm.setEnt hi h2 h1,hf⟩
theorem pS {i k p sz m:Nat}{v:Value}{eT:Option TypeId}{cs:List AVal}{x y:HEnt}(f:Nat->AVal)(hi:h[i]? =some (.row v eT sz m cs))(hk:(h.eraseIdx i)[k]? =some x)
  (hf:∀j,j<m->(f j).cells=(cs.drop (j*sz)).take sz/\(f j).plain=true) (hc:∀R,bD R (.list sz m f) v->lc R p (.list sz m f) x y):To C n e h e ((h.eraseIdx i).set k y):=λR a w hm hfs=>by
 obtain⟨R',hle,hm',hr⟩:=MS.seal_row (hm.perm (fx hi)) hf;obtain⟨h1,h2⟩:=(hc R' hr).holds (hm'.heap.holds x (List.mem_of_getElem? hk));exact⟨R',hle,hm'.setEnt hk h2 h1,hfs.mono hle⟩
theorem dx {R:Seal}{j sz m:Nat}{u v:Value}{f:Nat->AVal}(hr:bD R (.list sz m f) v):aV R (.own j v) [u]->aV R (.list sz m f) [u]:=by
 rintro⟨e,_⟩;simp only[List.cons.injEq,and_true] at e;subst e;exact aR hr rfl
theorem CM {R:Seal}{j:Nat}{u:Value}:aV R (.raw (.slice none 0 0)) [u]->aV R (.own j (.slice none 0 0)) [u]:=by
 intro e;have e:[u]=[.slice none 0 0]:=e;exact⟨e,rfl⟩
theorem nk {R:Seal}{sz:Nat}{f:Nat->AVal}{u:Value}:aV R (.raw (.slice none 0 0)) [u]->aV R (.list sz 0 f) [u]:=by
 intro e;have e:[u]=[.slice none 0 0]:=e;exact⟨none,0,e,Nat.le_refl _,.inl rfl⟩
end
section
variable {P:Program} [Tab P] {C:Ctx} {n:Nat} {env:Env} {H:Heap} {Q:aK->Env->Heap->Prop} {G:Glo} {GL:List (Nat×List AVal)}
structure OJ {X:Type} (C:Ctx) (n:Nat) (I:X->Env) (J:X->Heap) (Inv:X->Prop) (μ:X->Nat) (x:X) (e:Env) (h:Heap):Prop where
 h:∃x',Inv x'/\μ x'<μ x/\To C n e h (I x') (J x')
theorem NN {X:Type}{I:X->Env}{J:X->Heap}{Inv:X->Prop}{μ:X->Nat}{x:X}{e:Env}{h:Heap}(x':X)(h1:Inv x')(h2:μ x'<μ x)(h3:To C n e h (I x') (J x')):OJ C n I J Inv μ x e h:=⟨⟨x',h1,h2,h3⟩⟩
theorem lpT {c:Code}{X:Type}(hC:C.G=G)(hGL:ab G GL)(I:X->Env)(J:X->Heap)(Inv:X->Prop)(μ:X->Nat)(x0:X)(h0:Inv x0)(hto:To C n env H (I x0) (J x0))
  (round:∀x,Inv x->eQ P C n G GL c (I x) (J x) (eM (λe h=>OJ C n I J Inv μ x e h) Q)):Lp P C n c env H Q:=by
 refine⟨λR a w hm hf=> ?_⟩;obtain⟨R0,_,hm,hf⟩:=hto R a w hm hf;refine wp_loop_ghost (λm a w=>∃x R,Inv x/\μ x=m/\MS C R (J x) w/\FS C.D n R (I x) a) (μ x0) ⟨x0,R0,h0,rfl,hm,hf⟩ ?_;rintro m a w ⟨x,R,hx,rfl,hm,hf⟩;refine wp_mono (co hC hGL _ _ _ _ (round x hx) R a w hm hf) ?_;rintro e a' w' ⟨x',en,H',R',q,er,hm',hf'⟩;cases x' with
 |normal=>
  simp only[aG] at er;subst er;obtain⟨x',hx',hlt,hto⟩:=OJ.h q;obtain⟨R2,_,hm2,hf2⟩:=hto R' a' w' hm' hf';exact⟨μ x',hlt,x',R2,hx',rfl,hm2,hf2⟩
 |exit i=>simp only[aG] at er;subst er;exact⟨.exit i,en,H',R',q,rfl,hm',hf'⟩
 |goto i=>simp only[aG] at er;subst er;exact⟨.goto i,en,H',R',q,rfl,hm',hf'⟩
 |ret=>simp only[aG] at er;subst er;exact⟨.ret,en,H',R',q,rfl,hm',hf'⟩
 |panic v=>obtain⟨y,rfl,hr⟩:=er;exact⟨.panic v,en,H',R',q,⟨y,rfl,hr⟩,hm',hf'⟩
omit [Tab P] in
theorem KM {c:Code}{e':Env}{h':Heap}(hto:To C n env H e' h')(k:Lp P C n c e' h' Q):Lp P C n c env H Q:=by
 refine⟨λR a w hm hf=> ?_⟩;obtain⟨R0,_,hm,hf⟩:=hto R a w hm hf;exact k.h R0 a w hm hf
omit [Tab P] in
theorem pi {id:Nat}{ops:Array Oper}{e':Env}{h':Heap}(hto:To C n env H e' h')(k:Dw P C n id ops e' h' Q):Dw P C n id ops env H Q:=by
 refine⟨λR a w hm hf=> ?_⟩;obtain⟨R0,_,hm,hf⟩:=hto R a w hm hf;exact k.h R0 a w hm hf
def zV (res:cK)(H:Heap)(v:AVal):Prop:=∀(C:Ctx) (R:Seal) (w:World) (e:Ending),MS C R H w->ei R res e->∃R',MS C R' [] w/\ei R' (.ret v) e
omit [Tab P] in
theorem lC {f:FuncId}{avs:List AVal}{H:Heap}{Qf:cK->Heap->Prop}{v:AVal}(h:ad P G f avs H Qf)(hq:∀r H',Qf r H'->zV r H' v):ad P G f avs H (λr H'=>r= .ret v/\H'=[]):=by
 intro R w args hG hm ha;rcases h R w args hG hm ha with⟨h1,h2⟩|⟨x,w',h1,res,H',R',q,er,hm'⟩
 ·exact .inl ⟨h1,h2.mono λe w' ⟨res,H',R',q,er,hm'⟩=>let ⟨R2,m2,e2⟩:=hq _ _ q _ _ _ _ hm' er;⟨.ret v,[],R2,⟨rfl,rfl⟩,e2,m2⟩⟩
 ·obtain⟨R2,m2,e2⟩:=hq _ _ q _ _ _ _ hm' er;exact .inr ⟨x,w',h1,.ret v,[],R2,⟨rfl,rfl⟩,e2,m2⟩
end
end
section
theorem MS.seal_cells {C:Ctx}{R:Seal}{w:World}{H:Heap}{b:Nat}{eT:Option TypeId}{cs:List AVal}(h:MS C R (.cells b eT cs::H) w):
  ∃R',R.le R'/\MS C R' H w/\bD R' (.rop cs 0) (.pointer (some ⟨b,0,none⟩)):=by
 obtain⟨Cs,el,fz,hb,hl,hfz⟩:=h.heap.holds _ (List.mem_cons_self ..);obtain⟨h1,h2⟩:=h.fixed (b:=b) rfl hb;refine⟨_,h2,h1,⟨b,0,Cs,el,fz,rfl,Nat.le_refl _,Seal.put_at _ _ _,?_⟩,rfl⟩;have hlen:=ay hl;rw[Nat.sub_self,List.drop_zero,List.take_of_length_le (by omega)];exact cI h2 _ _ hl
abbrev iC:HEnt:=.row (.slice none 0 0) none 1 0 []
section
variable {P:Program} [Tab P] {C:Ctx} {n:Nat} {G:Glo} {GL:List (Nat×List AVal)} {e:Env} {h:Heap} {env:Env} {H:Heap} {Q:aK->Env->Heap->Prop}
theorem bZ {i k j b:Nat}{eT:Option TypeId}{cs:List AVal}(hi:h[i]? =some (.cells b eT cs))(hk:Env.get e k=some (.own j (.pointer (some ⟨b,0,none⟩)))):
  To C n e h ((k,.rop cs 0)::e) (h.set i iC):=λR a w hm hf=>by
 obtain⟨R',hle,hm',hr⟩:=MS.seal_cells (hm.perm (fx hi));refine⟨R',hle,(hm'.ghost 1).perm (iW iC hi),?_⟩;have hf':=hf.mono hle;refine⟨λt x ht=> ?_,hf'.size,hf'.defers⟩;simp only[Env.get] at ht;split at ht
 ·rename_i hb
  have:=Nat.eq_of_beq_eq_true hb
  subst this
  simp only[Option.some.injEq] at ht
  subst ht
  obtain⟨y,hy,hr'⟩:=hf'.fr k _ hk
  refine⟨y,hy,?_⟩
  rw[(aQ.1 hr').1]
  exact hr
 ·exact hf'.fr t x ht
omit [Tab P] in
theorem uQ {c:Code}{e':Env}{h':Heap}(hto:To C n env H e' h')(k:bI P C n c e' h' Q):bI P C n c env H Q:=λR a w hm hf=>by
 obtain⟨R0,_,hm,hf⟩:=hto R a w hm hf;exact k R0 a w hm hf
def Jw:List (Nat×Nat×Value)->Env->Env
 |[],e=>e
 |(s,i,v)::t,e=>(s,.own i v)::Jw t e
def B8:List (Nat×Nat×Value)->Env->Prop
 |[],_=>True
 |(s,_,v)::t,e=>(Env.get (Jw t e) s=some (.raw v)/\cm v=false)/\B8 t e
theorem Da {D:List Deferred}{R:Seal}{a:Act}:∀{os:List (Nat×Nat×Value)} {e:Env},B8 os e->FS D n R e a->FS D n R (Jw os e) a
 |[],_,_,h=>h
 |(_,_,_)::_,_,⟨⟨h1,h2⟩,h3⟩,h=>wj h2 h1 (Da h3 h)
theorem gL (os:List (Nat×Nat×Value)){f:FuncId}{fn:Func}{c:Code}{avs:List AVal}{Qf:cK->Heap->Prop}{rs:List ResultVar}(hf:P.funcs[f]? =some fn)
  (hc:∀args w,(callFunc f args).run P w= .ok (.enter f args) w) (hb:fn.body=some c) (hn:fn.ntmps=n) (hrs:fn.results=rs.toArray) (hlen:Nat.ble avs.length n=true) (ho:B8 os (d8 0 avs))
  (h:∀C:Ctx,C.G=G->bI P C n c (Jw os (d8 0 avs)) H (sA P rs Qf)):ad P G f avs H Qf:=
 nA hf hb hc hn hrs hlen λw0 R0 hG=>bI.mono (BZ (λ_ _ hf=>Da ho hf) (h ⟨w0,R0,dk H,G,hG,[]⟩ rfl)) λ_ _ _ q=>ir q
end
end
section
theorem tr {R R':Seal}{a a' b:AVal}{x:Value}(hle:R.le R')(h:bD R (.tuple [a,b]) x)(ht:∀v,bD R a v->bD R' a' v):bD R' (.tuple [a',b]) x:=by
 obtain⟨⟨ws,e,u,t,e1,hu,u2,t2,e2,hu2,rfl⟩,h2⟩:=h;have k:=ht u ⟨hu.1,hu.2⟩;have k2:=gE hle (show bD R b u2 from⟨hu2.1,hu2.2⟩);exact⟨⟨ws,e,_,_,e1,⟨k.1,k.2⟩,_,_,e2,⟨k2.1,k2.2⟩,rfl⟩,h2⟩
theorem k8 {R R':Seal}{cs:List AVal}{p:Nat}{a a':AVal}{v:Value}(hle:R.le R')(h:bD R (.agg cs) v)(hp:cs[p]? =some a)(ht:∀v,aV R' a [v]->aV R' a' [v]):bD R' (.agg (cs.set p a')) v:=
 ⟨iY ht (cI hle _ _ h.1) hp,h.2⟩
section
variable {P:Program} [Tab P] {C:Ctx} {n:Nat} {env:Env} {H:Heap} {Q:List Deferred->aK->Env->Heap->Prop} {G:Glo} {GL:List (Nat×List AVal)}
theorem sj {a b:Code}{X:Type}(hC:C.G=G)(hGL:ab G GL)(I:X->Env)(J:X->Heap)(Inv:X->Prop)(h1:eQ P C n G GL a env H (eM (λe h=>Cy I J Inv e h) (Q C.D)))(h2:∀x,Inv x->fC P C n b (I x) (J x) Q):fC P C n (.seq a b) env H Q:=by
 refine lL (Is ((co hC hGL _ _ _ _ h1).mono λx e h q=> ?_));cases x with
 |normal=>
  obtain⟨y,hy,hs,rfl⟩:=q.h
  exact λR a w hm hf=>h2 y hy R a w hm (hf.sub hs)
 |exit i=>exact q
 |goto i=>exact q
 |ret=>exact q
 |panic v=>exact q
end
end
section
theorem wo {P:Program}{G:Glo}{f:FuncId}{avs avs':List AVal}{H:Heap}{Qf:cK->Heap->Prop}(h:ad P G f avs H Qf)(ha:∀R vs,cJ R avs' vs->cJ R avs vs):ad P G f avs' H Qf:=
 λR w args hG hm h2=>h R w args hG hm (ha R _ h2)
def yg (x:List UInt8×Rl):Bool:= !(Ad x).contains 124&&decide ((N5 (Ad x) 32).1=x.1)&&(Ad x).all (λc=>decide (c.toNat<128))&&decide ((Ad x).length<=60)&&
 decide (Lib.fields (Ad x)=[x.1,[gP x.2.t],[gP x.2.a],[gP x.2.b],[gP x.2.p]])&&decide (0<=x.2.t/\x.2.t<10/\0<=x.2.a/\x.2.a<10/\0<=x.2.b/\x.2.b<10/\0<=x.2.p/\x.2.p<10)
theorem pT {v:Int}(hv:v=3\/v=4):(de v).all yg=true/\(de v).length<=36/\0<(de v).length:=by
 rcases hv with rfl|rfl
 ·exact⟨by decide+kernel,by decide+kernel,by decide+kernel⟩
 ·exact⟨by decide+kernel,by decide+kernel,by decide+kernel⟩
theorem Gh {v:Int}(hv:v=3\/v=4){k:Nat}(hk:k<(de v).length):yg (de v)[k]=true:=List.all_eq_true.1 (pT hv).1 _ (List.getElem_mem hk)
theorem mW {v:Int}{k:Nat}(hk:k<(de v).length):(kj v).getD k []=Ad (de v)[k]:=by
 unfold kj;rw[List.getD_eq_getElem?_getD,List.getElem?_map,List.getElem?_eq_getElem hk];rfl
theorem ui (c:UInt8){m:Nat}:∀l:List (List UInt8),(∀x∈l,x.length<=m)->(dy c l).length<=l.length*(m+1)
 |[],_=>Nat.zero_le _
 |[x],h=>by
  have:=h x (List.mem_singleton.2 rfl);simp only[dy,List.length_cons,List.length_nil];omega
 |x::y::t,h=>by
  have h1:=h x (List.mem_cons_self ..);have ih:=ui c (m:=m) (y::t) λz hz=>h z (List.mem_cons_of_mem _ hz);simp only[dy,List.length_append,List.length_cons] at ih ⊢;rw[Nat.succ_mul];generalize (t.length+1)*(m+1)=z at*
  omega
theorem I1 {v:Int}(hv:v=3\/v=4)(k:Nat):(dy 124 ((kj v).drop k)).length<=1000000:=by
 have h1:=ui 124 (m:=60) ((kj v).drop k) λx hx=>by
  obtain⟨y,hy,rfl⟩:=List.mem_map.1 (List.mem_of_mem_drop hx);have:=List.all_eq_true.1 (pT hv).1 _ hy;simp only[yg,Bool.and_eq_true,decide_eq_true_eq] at this;exact this.1.1.2
 have h2:((kj v).drop k).length<=36:=by
  have:=(pT hv).2.1;unfold kj;rw[List.length_drop,List.length_map];omega
 have:=Nat.mul_le_mul_right (60+1) h2;omega
theorem LA {v:Int}(hv:v=3\/v=4)(k:Nat):(124:UInt8)∉(kj v).getD k []:=by
 by_cases hk:k<(de v).length
 ·rw[mW hk];have:=Gh hv hk;simp only[yg,Bool.and_eq_true,Bool.not_eq_true',List.contains_eq_mem,decide_eq_false_iff_not] at this;exact this.1.1.1.1.1
 ·rw[List.getD_eq_getElem?_getD,List.getElem?_eq_none (by unfold kj;rw[List.length_map];omega)];simp
attribute [local irreducible] bI ap aa az aW ab ad
attribute [local irreducible] fq k9 fC K9 To kj de N5
theorem yb {G:Glo}{v:Int}(hv:v=3\/v=4):an prog G 146 [.int .i64 v] (.str (LB v)):=by
 rcases hv with rfl|rfl
 ·refine aw func146 call146 λC hC hGL=> ?_;refine xw ?_;repeat' first|exact .n|apply Lc.mk
  all_goals intros
  all_goals first
   |exact absurd rfl (by assumption)
   |(apply aj;refine congrArg AVal.str ?_;decide+kernel)
 ·refine aw func146 call146 λC hC hGL=> ?_;refine xw ?_;repeat' first|exact .n|apply Lc.mk
  all_goals intros
  all_goals first
   |(apply aj;refine congrArg AVal.str ?_;decide+kernel)
end
section
def kb (G:Glo):Prop:=∀R,G.p R->∃e fz,R 0=some (.cells (Lib.asciiSpaceTab.map λz=>Value.int .u8 z).toArray e fz)
theorem LD {G:Glo}(hS:kb G){R:Seal}{w:World}(hG:G.p R)(hs:ea R w):Lib.TabIs prog w "strings.asciiSpace" .u8 Lib.asciiSpaceTab:=by
 obtain⟨e,fz,h⟩:=hS R hG
 have hb:=hs _ _ h
 unfold Lib.TabIs World.var?
 rw[show prog.globalNamed "strings.asciiSpace" =some 0 by kernel_rfl]
 simp[hb]
theorem Iw:∀d:Fin 10,Lib.atoiAll [UInt8.ofNat (48+d.val)]= .ok (d.val:Int):=by decide
attribute [local irreducible] bI ap aa az aW ab ad
theorem nQ {G:Glo}(d:Int)(h0:0<=d)(h1:d<10):an prog G 147 [.str [gP d]] (.tuple [.int .i64 d,.raw .nilIface]):=by
 have ha:=Iw ⟨d.toNat,by omega⟩;have ed:((d.toNat:Nat):Int)=d:=by omega
 simp only[ed] at ha;refine gg (.tuple #[.int .i64 d,.nilIface]) (λR=>nb (am.2 rfl) (al.2 rfl)) call147 ?_;intro R args hr w _ _;obtain⟨x,t,e',hx,rfl⟩:=hr;obtain rfl:=aF.1 hx;obtain rfl:=dN e';refine(strconv_Atoi_ok ⟨[gP d].toArray⟩ (by rw[bT];show 1<=9223372036854775806;omega) _ (by unfold gP;simpa using ha) w).mono ?_;rintro e w' ⟨rfl,hw⟩;refine⟨rfl,?_⟩;rcases hw with rfl|⟨t,rfl⟩
 ·exact Below.refl _ _
 ·exact⟨rfl,rfl,rfl,by rw[Lib.bytesWorld_size];omega,λk hk=>Lib.bytesWorld_at_old _ _ _ _ hk⟩
theorem Bv {G:Glo}(hS:kb G)(H:Heap)(s:List UInt8)(hl:s.length<100000)(ha:∀(j:Nat) (b:UInt8),s[j]? =some b->b.toNat<128):
  ad prog G 61 [.str s] H (λr H'=>∃b,r= .ret (.own H.length (.slice (some ⟨b,0,none⟩) (Lib.fields s).length (Lib.fields s).length))/\H'=H++[.row (.slice (some ⟨b,0,none⟩) (Lib.fields s).length (Lib.fields s).length) (some 9) 1 (Lib.fields s).length (aY (Lib.fields s))]):=by
 refine kO call61 (by rw[n9,Nat.mul_one]) ?_;rintro C R args ⟨x,t,e,hx,rfl⟩ w hG hm;obtain rfl:=aF.1 hx;obtain rfl:=dN e;refine(strings_Fields ⟨s.toArray⟩ w (by rw[bT];omega) (λj b hb=>ha j b (by simpa using hb)) (LD hS hG hm.sealed)).mono ?_;rintro e w' ⟨rfl,rfl⟩;refine⟨w,_,Below.refl _ _,rfl,rfl,?_,λR=> ?_⟩
 ·simp
 ·have:=ll R (Lib.fields s);simpa using this
theorem pg {G:Glo}(hS:kb G)(s:List UInt8)(hl:s.length<100000)(ha:∀(j:Nat) (b:UInt8),s[j]? =some b->b.toNat<128):an prog G 61 [.str s] (.list 1 (Lib.fields s).length (aE (Lib.fields s))):=
 p4 (λa=>a) CP (aE (Lib.fields s)) (iS _) ((Bv hS [] s hl ha).mono λ_ _ ⟨_,h1,h2⟩=>⟨_,_,h1,h2⟩)
end
section
abbrev tH (b:Nat)(r:Rl):HEnt:=.cells b (some 66) [.int .i64 r.t,.int .i64 r.a,.int .i64 r.b,.int .i64 r.p]
abbrev OI (b:Nat)(t a u p:Int):HEnt:=.cells b (some 190) [.int .i64 t,.int .i64 a,.int .i64 u,.int .i64 p]
abbrev uA (b:Nat):HEnt:=.cells b (some 38) [.raw .nilIface]
theorem tF {s:List UInt8}(h:(s.all λc=>decide (c.toNat<128))=true):∀(j:Nat) (b:UInt8),s[j]? =some b->b.toNat<128:=λj b hb=>by
 have:=List.all_eq_true.1 h b (List.mem_of_getElem? hb);simpa using this
theorem uv {s:List UInt8}:∀{l:List (List UInt8×Rl)} {k:Nat} (hk:k<l.length),(∀j (hj:j<l.length),j<k->l[j].1≠s)->l[k].1=s->dY s l=l[k].2
 |x::t,0,hk,_,h=>by
  have h:x.1=s:=h;simp only[dY,if_pos h];rfl
 |x::t,k+1,hk,h0,h=>by
  have h1:=h0 0 (by simp) (Nat.succ_pos k);have h1:x.1≠s:=h1;have ih:=uv (s:=s) (l:=t) (k:=k) (by simpa using hk) (λj hj hjk=>by
   have:=h0 (j+1) (by simpa using hj) (by omega);simpa using this) (by simpa using h)
  simp only[dY,if_neg h1,ih];rfl
theorem zh {s:List UInt8}:∀{l:List (List UInt8×Rl)},(∀j (hj:j<l.length),l[j].1≠s)->dY s l=⟨8,0,0,0⟩
 |[],_=>rfl
 |x::t,h0=>by
  have h1:x.1≠s:=h0 0 (by simp);have ih:=zh (s:=s) (l:=t) (λj hj=>by
   have:=h0 (j+1) (by simpa using hj);simpa using this)
  simp only[dY,if_neg h1,ih]
attribute [local irreducible] bI ap aa az aW ab ad
attribute [local irreducible] fq k9 fC K9 To kj de ao
theorem D1 {G:Glo}(hS:kb G){v:Int}(hv:v=3\/v=4)(s:List UInt8)(hl:s.length<=2000000):an prog G 91 [.str s,.int .i64 v] (.tuple [(dY (ao 97 122 (-32) s) (de v)).A,.raw .nilIface]):=by
 have hGL:ab G []:=aD;have hT:=yb (G:=G) hv;have hSq:=od (G:=G) (LB v) 124;have hU:=dW (G:=G) s (by omega);have hcu:=call16;have hlr:(kj v).length=(de v).length:=by unfold kj;rw[List.length_map]
 have h36:=(pT hv).2;generalize hup:ao 97 122 (-32) s=up at*
 refine OD (rs:=[.cell 4 66,.cell 5 38]) func91 call91 rfl rfl rfl rfl ?_;intro C hC hD;refine sj hC hGL (λx:Nat×Nat×Nat=>[(1,.int .i64 v),(2,.own 0 (fo x.1)),(4,.own 1 (fo x.2.1)),(5,.own 2 (fo x.2.2))]) (λx=>[dA x.1 s,tH x.2.1 Rl.z,uA x.2.2]) (λ_=>True) ?_ ?_
 ·refine Oq ?_;intro b2 b4 b5;intros;exact cy (b2,b4,b5) trivial
 rintro⟨b2,b4,b5⟩-
 dsimp only
 refine sj hC hGL (λ_:Unit=>[(1,.int .i64 v),(2,.own 0 (fo b2)),(4,.own 1 (fo b4)),(5,.own 2 (fo b5))]) (λ_=>[dA b2 s,tH b4 Rl.z,uA b5]) (λ_=>True) ?_ λ_ _=> ?_
 ·refine xn ?_;repeat' first|exact .n|apply Lc.mk
  all_goals intros
  all_goals first
   |exact cy () trivial
   |(exfalso;omega)
 refine lL (sj hC hGL (λx:Nat×Nat×Nat=>[(1,.int .i64 v),(2,.own 0 (fo b2)),(4,.own 1 (fo b4)),(5,.own 2 (fo b5)),(20,.func (.func 233) [] [.own 4 (fo x.2.1),.own 3 (fo x.1),.own 5 (fo x.2.2)])]) (λx=>[dA b2 s,tH b4 Rl.z,uA b5,dA x.1 (LB v),dA x.2.1 [124],mu x.2.2 0]) (λ_=>True) ?_ ?_)
 ·refine aT ?_;refine HZ (λx:Nat×Nat×Nat=>.func (.func 233) [] [.own 4 (fo x.2.1),.own 3 (fo x.1),.own 5 (fo x.2.2)]) hSq (λ_ _ _ h=>h) ?_;rintro⟨b0,b1,b3⟩;refine aT ?_;exact cy (b0,b1,b3) trivial
 rintro⟨b0,b1,b3⟩-
 dsimp only
 refine Ff ?_;refine Fe rfl call233 [(1,.int .i64 v),(2,.own 0 (fo b2)),(4,.own 1 (fo b4)),(5,.own 2 (fo b5))] ai rfl ?_;intro L D r hp ha hb hfs;rw[hC];have hy:∀(k:Nat) (s':List UInt8) (y:Unit),k<(kj v).length->(∀j (hj:j<(de v).length),j<k->(de v)[j].1≠up)->k9 prog G L [.str ((kj v).getD k [])] (dA b0 s'::dA b1 [124]::mu b3 0::[dA b2 s,tH b4 Rl.z,uA b5,g9 D,eW L r .ready none])
   (λb H'=>(b=true/\∃_:Unit,(∀j (hj:j<(de v).length),j<k+1->(de v)[j].1≠up)/\H'=dA b0 s'::dA b1 [124]::mu b3 0::[dA b2 s,tH b4 Rl.z,uA b5,g9 D,eW L r .ready none])\/
    (b=false/\∃T:Heap,H'=dA b0 s'::dA b1 [124]::mu b3 0::(dA b2 s::tH b4 (dY up (de v))::uA b5::g9 D::eW L r .done (some .ret)::T))):=by
  intro k s' y hk hI;have hk':k<(de v).length:=by omega
  have hro:=Gh hv hk';simp only[yg,Bool.and_eq_true,decide_eq_true_eq] at hro;have hF:=pg hS ((kj v).getD k []) (by rw[mW hk'];omega) (by rw[mW hk'];exact tF hro.1.1.1.2);rw[mW hk',hro.1.2] at hF;have hdg:=hro.2;have a1:=nQ (G:=G) (de v)[k].2.t hdg.1 hdg.2.1;have a2:=nQ (G:=G) (de v)[k].2.a hdg.2.2.1 hdg.2.2.2.1;have a3:=nQ (G:=G) (de v)[k].2.b hdg.2.2.2.2.1 hdg.2.2.2.2.2.1;have a4:=nQ (G:=G) (de v)[k].2.p hdg.2.2.2.2.2.2.1 hdg.2.2.2.2.2.2.2;have hfind:(de v)[k].1=up->dY up (de v)=(de v)[k].2:=λh=>uv hk' hI h;have hnext:(de v)[k].1≠up->∀j (hj:j<(de v).length),j<k+1->(de v)[j].1≠up:=λh j hj hjk=>by
   by_cases e:j=k
   ·subst e;exact h
   ·exact hI j hj (by omega)
  rw[mW hk'];generalize (de v)[k]=row at*
  obtain⟨nm,t,a,b,p⟩:=row;dsimp only at*
  have hperm:∀(x:HEnt) (rr:Rl) (T:Heap),(dA b2 s::tH b4 rr::uA b5::dA b0 s'::dA b1 [124]::mu b3 0::T).Perm (dA b0 s'::dA b1 [124]::mu b3 0::dA b2 s::tH b4 rr::uA b5::T):=λ_ rr T=>
   (List.perm_append_comm (l₁:=[dA b2 s,tH b4 rr,uA b5]) (l₂:=[dA b0 s',dA b1 [124],mu b3 0])).append_right T
  refine zY (Lb (H1:=[dA b2 s,tH b4 Rl.z,uA b5,dA b0 s',dA b1 [124],mu b3 0,g9 D,eW L r .ready none]) (hperm (g9 D) _ _)
   (La (i:=7) (p:=21) (Qf:=λbb H'=>(bb=true/\nm≠up/\H'=[dA b2 s,tH b4 Rl.z,uA b5,dA b0 s',dA b1 [124],mu b3 0,g9 D,eW L r .ready none])\/(bb=false/\nm=up/\∃T,H'=[dA b2 s,tH b4 ⟨t,a,b,p⟩,uA b5,dA b0 s',dA b1 [124],mu b3 0,g9 D,eW L r .done (some .ret)]++T)) rfl hp (by kernel_rfl) hfs ?_)) ?_
  ·intro C2 hC2 hD2;rw[ha];refine fU hC2 hGL (aT ?_);refine⟨rfl,7,rfl,?_⟩;rw[hb];refine oR (wJ hC2 hGL (λ_:Unit=>[(1,.int .i64 v),(2,.own 0 (fo b2)),(4,.own 1 (fo b4)),(5,.own 2 (fo b5)),(7,.list 1 5 (aE [nm,[gP t],[gP a],[gP b],[gP p]]))]) (λ_=>[dA b2 s,tH b4 Rl.z,uA b5,dA b0 s',dA b1 [124],mu b3 0,g9 D,eW L r .busy none]) (λ_=>True) ?_ λ_ _=> ?_)
   ·refine aT ?_;intros;exact cy () trivial
   refine qc (Kq mixed hC2 hGL (by kernel_rfl) ?_);refine aT ?_;refine cq hcu hU rfl ?_;refine aT ?_;refine zM rfl (λh=> ?_) (λh=> ?_)
   ·have hnu:nm=up:=dE.1 h;refine wJ hC2 hGL (λb8:Nat=>[(4,.own 1 (fo b4)),(5,.own 2 (fo b5)),(7,.list 1 5 (aE [nm,[gP t],[gP a],[gP b],[gP p]])),(8,.own 8 (fo b8))]) (λb8=>[dA b2 s,tH b4 Rl.z,uA b5,dA b0 s',dA b1 [124],mu b3 0,g9 D,eW L r .busy none,OI b8 0 0 0 0]) (λ_=>True) ?_ λb8 _=> ?_
    ·refine aT ?_;intro b8;intros;exact cy b8 trivial
    refine qc (wJ hC2 hGL (λ_:Unit=>[(4,.own 1 (fo b4)),(5,.own 2 (fo b5)),(7,.list 1 5 (aE [nm,[gP t],[gP a],[gP b],[gP p]])),(8,.own 8 (fo b8)),(30,.int .i64 0)]) (λ_=>[dA b2 s,tH b4 Rl.z,uA b5,dA b0 s',dA b1 [124],mu b3 0,g9 D,eW L r .busy none,OI b8 0 0 0 0]) (λ_=>True) ?_ λ_ _=> ?_)
    ·refine aT ?_;exact cy () trivial
    refine oR (BX 5 (Ov (fU hC2 hGL (aT ?_))));intro _;refine fU hC2 hGL (aT ?_);intro _;refine fU hC2 hGL (aT ?_);intro _;refine fU hC2 hGL (aT ?_);intro _;refine fU hC2 hGL (aT ?_);intro _;refine⟨λ_=> ?_,λh=>absurd rfl h⟩;refine fU hC2 hGL (aT ?_);exact⟨7,rfl,.inr ⟨rfl,hnu,[OI b8 t a b p],rfl⟩⟩
   ·refine fU hC2 hGL (aT ?_);refine⟨7,rfl,.inl ⟨rfl,λe=> ?_,rfl⟩⟩;have h:ca nm up=false:=h;rw[dE.2 e] at h;cases h
  ·rintro b' H' (⟨rfl,hne,rfl⟩|⟨rfl,hnu,T,rfl⟩)
   ·exact⟨_,hperm (g9 D) _ _,.inl ⟨rfl,(),hnext hne,rfl⟩⟩
   ·rw[hfind hnu];exact⟨_,hperm (g9 D) _ _,.inr ⟨rfl,T,rfl⟩⟩
 have run:=sG (G:=G) L b0 b1 b3 124 (kj v) (by omega) (LA hv) (I1 hv) (Y:=Unit) (Z:=Heap) (λ_=>[dA b2 s,tH b4 Rl.z,uA b5,g9 D,eW L r .ready none]) (λT=>dA b2 s::tH b4 (dY up (de v))::uA b5::g9 D::eW L r .done (some .ret)::T) (λk _=>∀j (hj:j<(de v).length),j<k->(de v)[j].1≠up) () (λj hj h=>absurd h (Nat.not_lt_zero _)) hy;have hperm:∀(s':List UInt8) (rr:Rl) (T:Heap),(dA b0 s'::dA b1 [124]::mu b3 0::dA b2 s::tH b4 rr::uA b5::T).Perm (dA b2 s::tH b4 rr::uA b5::dA b0 s'::dA b1 [124]::mu b3 0::T):=λs' rr T=>
  (List.perm_append_comm (l₁:=[dA b0 s',dA b1 [124],mu b3 0]) (l₂:=[dA b2 s,tH b4 rr,uA b5])).append_right T
 refine io (im (hperm _ _ _) (wo run λ_ _ h=>h)) ?_;rintro res H' ⟨rfl,s',⟨y,hI,rfl⟩|⟨T,rfl⟩⟩
 ·refine⟨_,hperm _ _ _,.tuple [],7,.ready,none,rfl,rfl,(λh=>by cases h),?_⟩;rw[zh λj hj=>hI j hj (by omega)];show fC prog _ _ _ _ _ _;refine nN (C:=withD C (oN D::C.D)) hC hGL (aT ?_);rw[show(withD C (oN D::C.D)).D=[oN D] from(by show oN D::C.D=_;rw[hD])];refine CR (i:=6) rfl (CQ ?_);exact ez
 ·refine⟨_,hperm _ _ _,.tuple [],7,.done,some .ret,rfl,rfl,(λh=>by cases h),?_⟩;show K9 _ _ _ _ _ (oN D::C.D) _ _ _;rw[hD];refine CR (i:=6) rfl (CQ ?_);exact ez
theorem yd {G:Glo}(hS:kb G)(v:Int)(s:List UInt8)(hl:s.length<=2000000):an prog G 91 [.str s,.int .i64 v] (.tuple [(bO v s).A,(fK v).A]):=by
 by_cases hv:v=3\/v=4
 ·have e1:bO v s=dY (ao 97 122 (-32) s) (de v):=by unfold bO;rw[if_pos hv]
  have e2:fK v= .none:=by unfold fK;rw[if_pos hv]
  rw[e1,e2];exact D1 hS hv s hl
 ·have e1:bO v s=Rl.z:=by unfold bO;rw[if_neg hv]
  have e2:fK v= .errno 1:=by unfold fK;rw[if_neg hv]
  rw[e1,e2];refine aw func91 call91 λC hC hGL=> ?_;refine xb ?_;repeat' first|exact .n|apply Lc.mk
  all_goals intros
  all_goals intros
  all_goals first
   |(exfalso;omega)
   |(apply aj;rfl)
end
section
def rlL (r:Rl):AVal:=.list 1 4 (df [(0,.int .i64 r.t),(1,.int .i64 r.a),(2,.int .i64 r.b),(3,.int .i64 r.p)])
def Jx:Option Rl->AVal
 |none=>.raw (.slice none 0 0)
 |some r=>rlL r
def jf (i:Nat):Kn:=KP.getD i ⟨[],none,none⟩
def JM (i:Nat):AVal:=.agg [.str (jf i).n,Jx (jf i).o,Jx (jf i).w]
def Mj:List (Nat×AVal):=(List.range 36).map λi=>(i,JM i)
theorem Mk {i:Nat}(h:i<36):df Mj i=JM i:=by
 unfold df Mj;rw[List.getElem?_map,List.getElem?_range h];rfl
theorem yR {R:Seal}{sz n:Nat}{f g:Nat->AVal}{u:Value}(h:∀i,i<n->f i=g i):bD R (.list sz n f) u->bD R (.list sz n g) u:=by
 rintro⟨⟨a,cap,e,hle,y⟩,h2⟩;refine⟨⟨a,cap,e,hle,?_⟩,h2⟩;rcases y with y|⟨b,o,C,el,fz,ha,hR,hi⟩
 ·exact .inl y
 ·exact .inr ⟨b,o,C,el,fz,ha,hR,λi hn=>by rw[<-h i hn];exact hi i hn⟩
def Nt (c:UInt8):Bool:=decide ((65<=c.toNat/\c.toNat<=90)\/c.toNat=45)
theorem Mi:(KP.all λk=>k.n.all Nt)=true:=by decide+kernel
theorem EO {c d:UInt8}(hc:Nt c=true):UInt8.ofNat (dm 65 90 32 c.toNat).toNat=UInt8.ofNat (dm 65 90 32 d.toNat).toNat↔c=UInt8.ofNat (dm 97 122 (-32) d.toNat).toNat:=by
 have hc:(65<=c.toNat/\c.toNat<=90)\/c.toNat=45:=by simpa[Nt] using hc
 have h1:=c.toNat_lt;have h2:=d.toNat_lt;rw[<-UInt8.toNat_inj,<-UInt8.toNat_inj,UInt8.toNat_ofNat',UInt8.toNat_ofNat',UInt8.toNat_ofNat'];unfold dm
 (repeat' split)<;>omega
theorem ur:∀{n s:List UInt8},n.all Nt=true->(ao 65 90 32 n=ao 65 90 32 s↔n=ao 97 122 (-32) s)
 |[],[],_=>by simp[ao]
 |[],d::s,_=>by simp[ao]
 |c::n,[],_=>by simp[ao]
 |c::n,d::s,h=>by
  rw[List.all_cons,Bool.and_eq_true] at h;have ih:=ur (n:=n) (s:=s) h.2;have hb:=EO (d:=d) h.1;unfold ao at ih ⊢;simp only[List.map_cons,List.cons.injEq];rw[ih,hb]
theorem JN (i:Nat):(jf i).n.all Nt=true:=by
 unfold jf;by_cases h:i<KP.length
 ·rw[List.getD_eq_getElem?_getD,List.getElem?_eq_getElem h];exact List.all_eq_true.1 Mi _ (List.getElem_mem h)
 ·rw[List.getD_eq_getElem?_getD,List.getElem?_eq_none (by omega)];rfl
theorem ux {v:Int}{up:List UInt8}{r:Rl}:∀{l:List Kn} {k:Nat} (hk:k<l.length),(∀j (hj:j<l.length),j<k->(l[j].of v=none\/l[j].n≠up))->l[k].of v=some r->l[k].n=up->dY up (l.filterMap λk=>(k.of v).map λr=>(k.n,r))=r
 |x::t,0,hk,_,h1,h2=>by
  have h1:x.of v=some r:=h1;have h2:x.n=up:=h2;simp only[List.filterMap_cons,h1,Option.map_some,dY,if_pos h2]
 |x::t,k+1,hk,h0,h1,h2=>by
  have ih:=ux (l:=t) (k:=k) (by simpa using hk) (λj hj hjk=>by
   have:=h0 (j+1) (by simpa using hj) (by omega);simpa using this) (by simpa using h1) (by simpa using h2)
  have h3:x.of v=none\/x.n≠up:=h0 0 (by simp) (Nat.succ_pos k);cases hx:x.of v with
  |none=>simp only[List.filterMap_cons,hx,Option.map_none,ih]
  |some r'=>
   rw[hx] at h3;have h3:x.n≠up:=by rcases h3 with h|h;cases h;exact h
   simp only[List.filterMap_cons,hx,Option.map_some,dY,if_neg h3,ih]
theorem zj {v:Int}{up:List UInt8}:∀{l:List Kn},(∀j (hj:j<l.length),(l[j].of v=none\/l[j].n≠up))->dY up (l.filterMap λk=>(k.of v).map λr=>(k.n,r))=⟨8,0,0,0⟩
 |[],_=>rfl
 |x::t,h0=>by
  have ih:=zj (v:=v) (up:=up) (l:=t) (λj hj=>by
   have:=h0 (j+1) (by simpa using hj);simpa using this)
  have h3:x.of v=none\/x.n≠up:=h0 0 (by simp);cases hx:x.of v with
  |none=>simp only[List.filterMap_cons,hx,Option.map_none,ih]
  |some r'=>
   rw[hx] at h3;have h3:x.n≠up:=by rcases h3 with h|h;cases h;exact h
   simp only[List.filterMap_cons,hx,Option.map_some,dY,if_neg h3,ih]
theorem ru {i:Nat}(h:i<KP.length):jf i=KP[i]:=by
 unfold jf;rw[List.getD_eq_getElem?_getD,List.getElem?_eq_getElem h];rfl
theorem vX:KP.length=36:=rfl
attribute [local irreducible] bI ap aa az aW ab ad
theorem AR {G:Glo}:an prog G 59 [] (.list 3 36 (df Mj)):=by
 refine aw func59 call59 λC hC hGL=> ?_;exact bK
theorem Ef {G:Glo}:an prog G 59 [] (.list 3 36 JM):=
 lC AR λr H h=>by
  obtain⟨rfl,rfl⟩:=h;rintro C R w e hm ⟨x,rfl,hx⟩;exact⟨R,hm,x,rfl,yR (λi h=>Mk h) hx⟩
theorem gH {G:Glo}(s t:List UInt8)(hl:s.length<=9223372036854775807)(hm:t.length<=9223372036854775807):an prog G 32 [.str s,.str t] (.bool (ca (ao 65 90 32 s) (ao 65 90 32 t))):=by
 have h1:=gx (G:=G) s hl;have h2:=gx (G:=G) t hm;refine aw func32 call32 λC hC hGL=> ?_;exact bK
end
section
theorem Et {R:Seal}{sz n:Nat}{f g:Nat->AVal}{u:Value}(h:∀i,i<n->∀vs,aV R (f i) vs->aV R (g i) vs):aV R (.list sz n f) [u]->aV R (.list sz n g) [u]:=by
 rintro⟨a,cap,e,hle,y⟩;refine⟨a,cap,e,hle,?_⟩;rcases y with y|⟨b,o,C,el,fz,ha,hR,hi⟩
 ·exact .inl y
 ·exact .inr ⟨b,o,C,el,fz,ha,hR,λi hn=>h i hn _ (hi i hn)⟩
structure OM {X:Type} (C:Ctx) (n:Nat) (I:X->Env) (J:X->Heap) (Inv:X->Prop) (e:Env) (h:Heap):Prop where
 h:∃x,Inv x/\To C n e h (I x) (J x)
section
variable {P:Program} [Tab P] {C:Ctx} {n:Nat} {env:Env} {H:Heap} {Q:aK->Env->Heap->Prop}
omit [Tab P] in
theorem IS {X:Type}{I:X->Env}{J:X->Heap}{Inv:X->Prop}{e:Env}{h:Heap}(x:X)(hp:Inv x)(ht:To C n e h (I x) (J x)):OM C n I J Inv e h:=⟨⟨x,hp,ht⟩⟩
theorem EZ {a b:Code}{X:Type}(I:X->Env)(J:X->Heap)(Inv:X->Prop)(h1:bI P C n a env H (eM (λe h=>OM C n I J Inv e h) Q))(h2:∀x,Inv x->bI P C n b (I x) (J x) Q):bI P C n (.seq a b) env H Q:=
 dZ (h1.mono λx e h q=>by
  cases x with
  |normal=>
   obtain⟨y,hy,ht⟩:=OM.h q;exact uQ ht (h2 y hy)
  |exit i=>exact q
  |goto i=>exact q
  |ret=>exact q
  |panic v=>exact q)
variable {G:Glo} {GL:List (Nat×List AVal)}
theorem lpA {c:Code}{X:Type}(_:C.G=G)(_:ab G GL)(I:X->Env)(J:X->Heap)(Inv:X->Prop)(μ:X->Nat)(x0:X)(h0:Inv x0)(hs:Env.sub env (I x0))(hH:H=J x0)
  (round:∀x,Inv x->bI P C n c (I x) (J x) (eM (λe h=>Nq I J Inv μ x e h) Q)):Lp P C n c env H Q:=
 ⟨nO I J Inv μ x0 h0 hs (hH▸List.Sublist.refl _) λx hx=>(round x hx).mono λex e h q=>by
  cases ex with
  |normal=>exact Nq.h q
  |exit i=>exact q
  |goto i=>exact q
  |ret=>exact q
  |panic v=>exact q⟩
end
section
variable {P:Program} [Tab P] {C:Ctx} {H:Heap} {env:Env}
theorem jC {sz m:Nat}{f:Nat->AVal}{x:Operand}{T ty e:TypeId}{xT:TI}(hx:ae env x=some (.list sz (m+1) f))(h1:aS P T=some xT)(h2:xT.desc= .slice e):bn P C H env (.binOp .neq T x (.const (.slice none 0 0)) ty) (.bool true):=by
 intro R ρ w hm hf dst t p af g;refine⟨_,?_,aN.2 rfl⟩;obtain⟨a,cap,e1,_,y⟩:=aR (hf _ _ hx) rfl;have e1:ρ x= .slice a (m+1) cap:=(List.cons.inj e1).1;obtain⟨b,o,C0,el,fz,rfl,_⟩:=y.resolve_left (Nat.succ_ne_zero m)
 have hc:ρ (.const (.slice none 0 0))= .slice none 0 0:=al.1 (hf (.const (.slice none 0 0)) _ (dB env (.slice none 0 0)))
 obtain⟨h3,h4,h5⟩:=lI (R:=R) (x:=x) (w:=w) (av:=.raw (ρ x)) (c:=false) (z:=.slice none 0 0) (al.2 rfl) h1 (by rw[h2,e1];rfl) (by rw[h2];rfl)
 have h6:=h5 .neq (.inr rfl)
 rw[if_neg (by decide)] at h6
 simp only[execOp,hc,Sem.run_bind,h4,Result.andThen_ok,h6,h3,Sem.run_pure,Bool.not_false]
end
end
section
abbrev KQ (b:Nat)(r:Rl):HEnt:=.cells b (some 66) [.int .i64 r.t,.int .i64 r.a,.int .i64 r.b,.int .i64 r.p]
abbrev KR (b:Nat):Value:=.pointer (some ⟨b,0,none⟩)
attribute [local irreducible] bI ap aa az aW ab ad
attribute [local irreducible] ao jf KP de To
theorem Eh {G:Glo}{v:Int}(hv:v=3\/v=4)(s:List UInt8)(hl:s.length<=2000000):an prog G 23 [.str s,.int .i64 v] (.tuple [(dY (ao 97 122 (-32) s) (de v)).A,.int .i64 0]):=by
 have hGL:ab G []:=aD;have hK:=Ef (G:=G);generalize hup:ao 97 122 (-32) s=up at*
 have hsame:∀k,k<36->an prog G 32 [.str (jf k).n,.str s] (.bool (ca (jf k).n up)):=λk hk=>by
  have h:=gH (G:=G) (jf k).n s (by
   have:∀j,j<36->(jf j).n.length<=100:=by decide+kernel
   have:=this k hk;omega) (by omega)
  have e:ca (ao 65 90 32 (jf k).n) (ao 65 90 32 s)=ca (jf k).n up:=by
   rw[Bool.eq_iff_iff,dE,dE,ur (JN k),hup]
  rwa [e] at h
 refine My func23 call23 rfl rfl rfl rfl ?_;intro C hC;refine ka hC hGL (λb4:Nat=>[(0,.str s),(1,.int .i64 v),(4,.own 0 (KR b4))]) (λb4=>[KQ b4 Rl.z]) (λ_=>True) ?_ λb4 _=> ?_
 ·refine Oq ?_;intro b4;intros;exact cy b4 trivial
 refine cut hC hGL [(0,.str s),(1,.int .i64 v),(4,.own 0 (KR b4))] [KQ b4 Rl.z] True ?_ λ_=> ?_
 ·refine xn ?_;repeat' first|exact .n|apply Lc.mk
  all_goals intros
  all_goals first
   |exact Ct.w
   |(exfalso;omega)
 refine dZ (cut hC hGL [(0,.str s),(1,.int .i64 v),(4,.own 0 (KR b4)),(16,.list 3 36 JM),(17,.int .i64 (36:Nat)),(18,.int .i64 (0:Nat))] [KQ b4 Rl.z] True ez λ_=> ?_);refine jl (nO (X:=Nat) (λk=>[(0,.str s),(1,.int .i64 v),(4,.own 0 (KR b4)),(16,.list 3 36 JM),(17,.int .i64 (36:Nat)),(18,.int .i64 (k:Nat))]) (λ_=>[KQ b4 Rl.z]) (λk=>k<=36/\∀j,j<k->((jf j).of v=none\/(jf j).n≠up)) (λk=>36-k) 0 ⟨Nat.zero_le _,λj h=>absurd h (Nat.not_lt_zero _)⟩ ai (List.Sublist.refl _) ?_);rintro k ⟨hk,hI⟩;have hk:k<=36:=hk;by_cases hlt:k<36
 ·have hs1:=hsame k hlt;refine cut hC hGL [(0,.str s),(1,.int .i64 v),(4,.own 0 (KR b4)),(16,.list 3 36 JM),(17,.int .i64 (36:Nat)),(18,.int .i64 (k:Nat)),(19,.bool (lP (k:Int) (36:Nat)))] [KQ b4 Rl.z] True ez λ_=> ?_;refine cut hC hGL [(0,.str s),(1,.int .i64 v),(4,.own 0 (KR b4)),(16,.list 3 36 JM),(17,.int .i64 (36:Nat)),(18,.int .i64 (k:Nat))] [KQ b4 Rl.z] True ?_ λ_=> ?_
  ·refine xn ?_;repeat' first|exact .n|apply Lc.mk
   all_goals intros
   all_goals first
    |(intros;exact Ct.w)
    |(intros;exfalso;omega)
  rcases hkn:jf k with⟨n,o,w⟩
  have hkF:JM k= .agg [.str n,Jx o,Jx w]:=by unfold JM;rw[hkn]
  rw[hkn] at hs1;dsimp only at hs1;have hnx:((jf k).of v=none\/n≠up)->∀j,j<k+1->((jf j).of v=none\/(jf j).n≠up):=λh j hj=>by
   by_cases e:j=k
   ·subst e;rw[hkn] at h ⊢;exact h
   ·exact hI j (by omega)
  rw[hkn] at hnx;have hfound:∀r,(⟨n,o,w⟩:Kn).of v=some r->n=up->dY up (de v)=r:=λr h1 h2=>by
   have e:=ru (i:=k) (by rw[vX];exact hlt);rw[hkn] at e;unfold de;exact ux (k:=k) (by rw[vX];exact hlt) (λj hj hjk=>by have:=hI j hjk;rwa [ru hj] at this) (by rw[<-e];exact h1) (by rw[<-e];exact h2)
  rcases hv with rfl|rfl
  ·rcases o with _|o<;>rcases w with _|w
   all_goals
    refine aI hC hGL ?_
    (conv=>whnf)
    refine Ix.w ?_;rw[hkF];refine xn ?_;repeat' first|exact .n|apply Lc.mk
    all_goals intros
    all_goals intros
    all_goals try exact⟨k+1,⟨by show k+1<=36;omega,hnx (.inl rfl)⟩,by show 36-(k+1)<36-k;omega,ai,aH⟩
    all_goals try exact⟨k+1,⟨by show k+1<=36;omega,hnx (.inr (by assumption))⟩,by show 36-(k+1)<36-k;omega,ai,aH⟩
   all_goals
    have hfd:=hfound o rfl (by assumption);refine aO hC hGL (jC (m:=3) rfl rfl rfl) rfl rfl ?_;refine aT ?_;refine dz mixed hC hGL false (λ(_:HEnt)=>[(4,.own 0 (KR b4)),(5,.int .i64 0)]) (λy=>[KQ b4 o,y]) .p2 (by kernel_rfl) xu ?_;intro y;refine aT ?_;rw[hfd];exact aj rfl
  ·rcases o with _|o<;>rcases w with _|w
   all_goals
    refine aI hC hGL ?_
    (conv=>whnf)
    refine Ix.w ?_;rw[hkF];refine xn ?_;repeat' first|exact .n|apply Lc.mk
    all_goals intros
    all_goals intros
    all_goals try exact⟨k+1,⟨by show k+1<=36;omega,hnx (.inl rfl)⟩,by show 36-(k+1)<36-k;omega,ai,aH⟩
    all_goals try exact⟨k+1,⟨by show k+1<=36;omega,hnx (.inr (by assumption))⟩,by show 36-(k+1)<36-k;omega,ai,aH⟩
   all_goals
    have hfd:=hfound w rfl (by assumption);refine aO hC hGL (jC (m:=3) rfl rfl rfl) rfl rfl ?_;refine aT ?_;refine dz mixed hC hGL false (λ(_:HEnt)=>[(4,.own 0 (KR b4)),(5,.int .i64 0)]) (λy=>[KQ b4 w,y]) .p2 (by kernel_rfl) xu ?_;intro y;refine aT ?_;rw[hfd];exact aj rfl
 ·obtain rfl:k=36:=by omega
  have hno:dY up (de v)=⟨8,0,0,0⟩:=by
   unfold de;exact zj λj hj=>by have:=hI j (by rw[vX] at hj;exact hj);rwa [ru hj] at this
  refine aI hC hGL (aT ?_);intro _;refine⟨λ_=> ?_,λh=>absurd rfl h⟩;refine aI hC hGL (aT ?_);rw[hno];exact aj rfl
theorem qN {G:Glo}(v:Int)(s:List UInt8)(hl:s.length<=2000000):an prog G 23 [.str s,.int .i64 v] (.tuple [(bO v s).A,.int .i64 (fK v).e]):=by
 by_cases hv:v=3\/v=4
 ·have e1:bO v s=dY (ao 97 122 (-32) s) (de v):=by unfold bO;rw[if_pos hv]
  have e2:fK v= .none:=by unfold fK;rw[if_pos hv]
  rw[e1,e2];exact Eh hv s hl
 ·have e1:bO v s=Rl.z:=by unfold bO;rw[if_neg hv]
  have e2:fK v= .errno 1:=by unfold fK;rw[if_neg hv]
  rw[e1,e2];refine aw func23 call23 λC hC hGL=> ?_;refine xb ?_;repeat' first|exact .n|apply Lc.mk
  all_goals intros
  all_goals intros
  all_goals first
   |(exfalso;omega)
   |(apply aj;rfl)
end
section
section
variable {P:Program} [Tab P] {C:Ctx} {n:Nat} {H:Heap} {env:Env} {x y:Operand} {T:TypeId} {xT:TI} {e:TypeId} {xe:TI}
theorem du {len i:Nat}{k0:IntKind}{cs:List AVal}{av:AVal}(hx:ae env x=some (.agg cs))(hy:ae env y=some (.int k0 (i:Int)))(h1:aS P T=some xT)(h2:xT.desc= .array len e)(h3:aS P e=some xe)(h4:xe.size=1)(h5:bL xe.desc=false)(hi:i<len)(hc:cs[i]? =some av)(ha:av.isAgg=false):
  bn P C H env (.index T x y) av:=by
 intro R ρ w hm hf dst t p af g;have hr:=hf _ _ hx;obtain⟨vs,hvs⟩:∃vs,ρ x= .agg vs:=by
  have:=hr.2;cases hv:ρ x<;>rw[hv] at this<;>simp[AVal.isAgg,cm] at this
  exact⟨_,rfl⟩
 rw[hvs] at hr;obtain⟨v,hv,hrv⟩:=dv (R:=R) (cs:=cs) (vs:=vs.toList) hr.1 hc;refine⟨v,?_,cC hrv ha⟩;have hv':vs[i]? =some v:=by simpa using hv
 have hn:(0:Int)<=i/\(i:Int)<len:=⟨by omega,by omega⟩;have hil:i<vs.size:=by
  rcases Nat.lt_or_ge i vs.size with h|h
  ·exact h
  ·rw[Array.getElem?_eq_none h] at hv';cases hv'
 simp only[execOp,hvs,am.1 (hf _ _ hy),Instr.index,asIntOf,Sem.run_bind,Sem.run_pure,Result.andThen_ok,ak h1,h2,hn,part,Int.toNat_natCast];simp[aB h3,cG h3,h5,h4,hv']
end
end
section
def valN:List UInt8:=[86,65,76,85,69]
def cD (s:List UInt8):List Pr->Nat->Int
 |[],_=> -1
 |q::l,i=>if ao 97 122 (-32) q.n=ao 97 122 (-32) s then(i:Int) else cD s l (i+1)
def Nv (t:Int)(x:List UInt8):Int:=if x=[116,101,120,116] then(if t=2\/t=3 then t else 1)
 else if x=[117,114,105] then 4
 else if x=[100,97,116,101,45,97,110,100,45,111,114,45,116,105,109,101] then 5
 else if x=[100,97,116,101] then 5
 else if x=[100,97,116,101,45,116,105,109,101] then 5
 else if x=[116,105,109,101,115,116,97,109,112] then 5
 else if x=[117,116,99,45,111,102,102,115,101,116] then 6
 else if x=[108,97,110,103,117,97,103,101,45,116,97,103] then 7
 else 8
def lW (t:Int)(l:List Pr):Int:=if cD valN l 0<0\/(l.getD (cD valN l 0).toNat Pr.z).vs.length=0 then t else Nv t (ao 65 90 32 ((l.getD (cD valN l 0).toNat Pr.z).vs.getD 0 []))
def eK (v:Int)(s:List UInt8)(l:List Pr):Int:=if v=3\/v=4 then lW (bO v s).t l else 0
def jV (k:Int):List UInt8:=if k<1\/9<=k then[] else if k=4 then[117,114,105] else if k=5 then[100,97,116,101,45,97,110,100,45,111,114,45,116,105,109,101] else if k=6 then[117,116,99,45,111,102,102,115,101,116] else if k=7 then[108,97,110,103,117,97,103,101,45,116,97,103] else if k=8 then[117,110,107,110,111,119,110] else[116,101,120,116]
theorem kQ {s:List UInt8}:∀{l:List Pr} {k:Nat} (i:Nat),k<l.length->(∀j,j<k->ao 97 122 (-32) (l.getD j Pr.z).n≠ao 97 122 (-32) s)->ao 97 122 (-32) (l.getD k Pr.z).n=ao 97 122 (-32) s->cD s l i=((i+k:Nat):Int)
 |[],k,i,h,_,_=>absurd h (Nat.not_lt_zero _)
 |q::l,0,i,_,_,h=>by
  have h:ao 97 122 (-32) q.n=ao 97 122 (-32) s:=h;simp only[cD,if_pos h,Nat.add_zero]
 |q::l,k+1,i,hk,h0,h=>by
  have h1:ao 97 122 (-32) q.n≠ao 97 122 (-32) s:=h0 0 (Nat.succ_pos k);have ih:=kQ (s:=s) (l:=l) (k:=k) (i+1) (by simpa using hk) (λj hj=>by simpa using h0 (j+1) (by omega)) (by simpa using h);simp only[cD,if_neg h1,ih];omega
theorem nC {s:List UInt8}:∀{l:List Pr} (i:Nat),(∀j,j<l.length->ao 97 122 (-32) (l.getD j Pr.z).n≠ao 97 122 (-32) s)->cD s l i= -1
 |[],_,_=>rfl
 |q::l,i,h0=>by
  have h1:ao 97 122 (-32) q.n≠ao 97 122 (-32) s:=h0 0 (by simp);have ih:=nC (s:=s) (l:=l) (i+1) (λj hj=>by simpa using h0 (j+1) (by simpa using hj));simp only[cD,if_neg h1,ih]
theorem kP (s:List UInt8):∀(l:List Pr) (i:Nat),cD s l i= -1\/∃k,k<l.length/\cD s l i=((i+k:Nat):Int)
 |[],_=>.inl rfl
 |q::l,i=>by
  by_cases h:ao 97 122 (-32) q.n=ao 97 122 (-32) s
  ·exact .inr ⟨0,by simp,by simp only[cD,if_pos h,Nat.add_zero]⟩
  ·rcases kP s l (i+1) with h1|⟨k,h1,h2⟩
   ·exact .inl (by simp only[cD,if_neg h,h1])
   ·exact .inr ⟨k+1,by simpa using h1,by simp only[cD,if_neg h,h2];omega⟩
theorem HA {c d:UInt8}:UInt8.ofNat (dm 65 90 32 c.toNat).toNat=UInt8.ofNat (dm 65 90 32 d.toNat).toNat↔UInt8.ofNat (dm 97 122 (-32) c.toNat).toNat=UInt8.ofNat (dm 97 122 (-32) d.toNat).toNat:=by
 have h1:=c.toNat_lt
 have h2:=d.toNat_lt;rw[<-UInt8.toNat_inj,<-UInt8.toNat_inj,UInt8.toNat_ofNat',UInt8.toNat_ofNat',UInt8.toNat_ofNat',UInt8.toNat_ofNat'];unfold dm
 (repeat' split)<;>omega
theorem zd:∀{n s:List UInt8},(ao 65 90 32 n=ao 65 90 32 s↔ao 97 122 (-32) n=ao 97 122 (-32) s)
 |[],[]=>by simp[ao]
 |[],d::s=>by simp[ao]
 |c::n,[]=>by simp[ao]
 |c::n,d::s=>by
  have ih:=zd (n:=n) (s:=s);have hb:=HA (c:=c) (d:=d);unfold ao at ih ⊢;simp only[List.map_cons,List.cons.injEq];rw[ih,hb]
theorem jh (n s:List UInt8):ca (ao 65 90 32 n) (ao 65 90 32 s)=ca (ao 97 122 (-32) n) (ao 97 122 (-32) s):=by
 rw[Bool.eq_iff_iff,dE,dE];exact zd
attribute [local irreducible] bI ap aa az aW ab ad
attribute [local irreducible] ao cD Nv
theorem qG {G:Glo}(l:List Pr)(s:List UInt8)(hl:l.length<=9223372036854775807)(hn:∀k,(l.getD k Pr.z).n.length<=9223372036854775807)(hs:s.length<=2000000):an prog G 89 [.list 2 l.length (dM l),.str s] (.int .i64 (cD s l 0)):=by
 have h1:=λk=>tT (G:=G) (l.getD k Pr.z).n s (by have:=hn k;omega) (by omega);refine aw func89 call89 λC hC hGL=> ?_;refine aZ ?_;intros;refine lp hC hGL (λ(k:Nat)=>[(1,.str s),(7,.list 2 l.length (dM l)),(8,.int .i64 (l.length:Nat)),(9,.int .i64 (k:Nat))]) (λ_=>[]) (λk=>k<=l.length/\∀j,j<k->ao 97 122 (-32) (l.getD j Pr.z).n≠ao 97 122 (-32) s) (λk=>l.length-k) 0 ⟨Nat.zero_le _,λj h=>absurd h (Nat.not_lt_zero _)⟩ ai rfl ?_;rintro k ⟨hk,hI⟩;have h2:=h1 k;refine xw ?_;repeat' first|exact .n|apply Lc.mk
 all_goals intros
 all_goals intros
 ·apply aj;rw[kQ 0 (by omega) hI (by assumption),Nat.zero_add]
 ·exact eg (k+1) ⟨by omega,dl hI (by assumption)⟩ (by omega) ai aH
 ·apply aj;rw[nC 0 λj hj=>hI j (by omega)];rfl
theorem Gx {G:Glo}(l:List Pr)(s:List UInt8)(hl:l.length<=9223372036854775807)(hn:∀k,(l.getD k Pr.z).n.length<=9223372036854775807)(hs:s.length<=2000000):an prog G 73 [.list 2 l.length (dM l),.str s] (.int .i64 (cD s l 0)):=by
 have h1:=λk=>gH (G:=G) (l.getD k Pr.z).n s (by have:=hn k;omega) (by omega);refine aw func73 call73 λC hC hGL=> ?_;refine aZ ?_;intros;refine lp hC hGL (λ(k:Nat)=>[(0,.list 2 l.length (dM l)),(1,.str s),(7,.int .i64 (l.length:Nat)),(8,.int .i64 (k:Nat))]) (λ_=>[]) (λk=>k<=l.length/\∀j,j<k->ao 97 122 (-32) (l.getD j Pr.z).n≠ao 97 122 (-32) s) (λk=>l.length-k) 0 ⟨Nat.zero_le _,λj h=>absurd h (Nat.not_lt_zero _)⟩ ai rfl ?_;rintro k ⟨hk,hI⟩;have h2:=h1 k;rw[jh] at h2;refine xw ?_;repeat' first|exact .n|apply Lc.mk
 all_goals intros
 all_goals intros
 ·apply aj;rw[kQ 0 (by omega) hI (by assumption),Nat.zero_add]
 ·exact eg (k+1) ⟨by omega,dl hI (by assumption)⟩ (by omega) ai aH
 ·apply aj;rw[nC 0 λj hj=>hI j (by omega)];rfl
theorem AH {G:Glo}(k:Int):an prog G 46 [.int .i64 k] (.str (jV k)):=by
 by_cases hk:k<1\/9<=k
 ·have e:jV k=[]:=by unfold jV;rw[if_pos hk]
  rw[e];refine aw func46 call46 λC hC hGL=> ?_;refine xw ?_;repeat' first|exact .n|apply Lc.mk
  all_goals intros
  all_goals first
   |(apply aj;rfl)
   |(exfalso;omega)
 ·rcases(show k=1\/k=2\/k=3\/k=4\/k=5\/k=6\/k=7\/k=8 by omega) with rfl|rfl|rfl|rfl|rfl|rfl|rfl|rfl
  ·refine aw func46 call46 λC hC hGL=> ?_;refine aZ ?_;intros;refine aO hC hGL (du (len:=9) (i:=1) rfl rfl rfl rfl rfl rfl rfl (Nat.le_of_ble_eq_true rfl) rfl rfl) rfl rfl ?_;exact bK
  ·refine aw func46 call46 λC hC hGL=> ?_;refine aZ ?_;intros;refine aO hC hGL (du (len:=9) (i:=2) rfl rfl rfl rfl rfl rfl rfl (Nat.le_of_ble_eq_true rfl) rfl rfl) rfl rfl ?_;exact bK
  ·refine aw func46 call46 λC hC hGL=> ?_;refine aZ ?_;intros;refine aO hC hGL (du (len:=9) (i:=3) rfl rfl rfl rfl rfl rfl rfl (Nat.le_of_ble_eq_true rfl) rfl rfl) rfl rfl ?_;exact bK
  ·refine aw func46 call46 λC hC hGL=> ?_;refine aZ ?_;intros;refine aO hC hGL (du (len:=9) (i:=4) rfl rfl rfl rfl rfl rfl rfl (Nat.le_of_ble_eq_true rfl) rfl rfl) rfl rfl ?_;exact bK
  ·refine aw func46 call46 λC hC hGL=> ?_;refine aZ ?_;intros;refine aO hC hGL (du (len:=9) (i:=5) rfl rfl rfl rfl rfl rfl rfl (Nat.le_of_ble_eq_true rfl) rfl rfl) rfl rfl ?_;exact bK
  ·refine aw func46 call46 λC hC hGL=> ?_;refine aZ ?_;intros;refine aO hC hGL (du (len:=9) (i:=6) rfl rfl rfl rfl rfl rfl rfl (Nat.le_of_ble_eq_true rfl) rfl rfl) rfl rfl ?_;exact bK
  ·refine aw func46 call46 λC hC hGL=> ?_;refine aZ ?_;intros;refine aO hC hGL (du (len:=9) (i:=7) rfl rfl rfl rfl rfl rfl rfl (Nat.le_of_ble_eq_true rfl) rfl rfl) rfl rfl ?_;exact bK
  ·refine aw func46 call46 λC hC hGL=> ?_;refine aZ ?_;intros;refine aO hC hGL (du (len:=9) (i:=8) rfl rfl rfl rfl rfl rfl rfl (Nat.le_of_ble_eq_true rfl) rfl rfl) rfl rfl ?_;exact bK
theorem yV:Lib.fields [116,101,120,116,32,116,101,120,116,32,116,101,120,116,32,117,114,105,32,100,97,116,101,45,97,110,100,45,111,114,45,116,105,109,101,32,117,116,99,45,111,102,102,115,101,116,32,108,97,110,103,117,97,103,101,45,116,97,103,32,117,110,107,110,111,119,110]=[[116,101,120,116],[116,101,120,116],[116,101,120,116],[117,114,105],[100,97,116,101,45,97,110,100,45,111,114,45,116,105,109,101],[117,116,99,45,111,102,102,115,101,116],[108,97,110,103,117,97,103,101,45,116,97,103],[117,110,107,110,111,119,110]]:=by decide+kernel
theorem Gu {G:Glo}(hS:kb G)(k:Int):an prog G 24 [.int .i64 k] (.str (jV k)):=by
 have hw:=dV (G:=G) k 1 8;have hf:=pg hS [116,101,120,116,32,116,101,120,116,32,116,101,120,116,32,117,114,105,32,100,97,116,101,45,97,110,100,45,111,114,45,116,105,109,101,32,117,116,99,45,111,102,102,115,101,116,32,108,97,110,103,117,97,103,101,45,116,97,103,32,117,110,107,110,111,119,110] (by decide) (tF (by decide+kernel));rw[yV] at hf;by_cases hk:k<1\/9<=k
 ·have e:jV k=[]:=by unfold jV;rw[if_pos hk]
  have e2:(decide (1<=k)&&decide (k<=8))=false:=by rw[Bool.and_eq_false_iff,decide_eq_false_iff_not,decide_eq_false_iff_not];omega
  rw[e2] at hw;rw[e];refine aw func24 call24 λC hC hGL=> ?_;exact bK
 ·have e2:(decide (1<=k)&&decide (k<=8))=true:=by rw[Bool.and_eq_true,decide_eq_true_eq,decide_eq_true_eq];omega
  rw[e2] at hw;rcases(show k=1\/k=2\/k=3\/k=4\/k=5\/k=6\/k=7\/k=8 by omega) with rfl|rfl|rfl|rfl|rfl|rfl|rfl|rfl
  all_goals
   refine aw func24 call24 λC hC hGL=> ?_;exact bK
end
section
def eu (m:Nat)(s:List UInt8):Bool:=(List.range m).any λi=>decide (Lib.decDigits (i+1)=s)
theorem BG {m:Nat}{s:List UInt8}:eu m s=true↔∃n,1<=n/\n<=m/\Lib.decDigits n=s:=by
 unfold eu;rw[List.any_eq_true];constructor
 ·rintro⟨i,hi,h⟩;exact⟨i+1,by omega,by have:=List.mem_range.1 hi;omega,of_decide_eq_true h⟩
 ·rintro⟨n,h1,h2,h3⟩;exact⟨n-1,List.mem_range.2 (by omega),decide_eq_true (by rw[show n-1+1=n by omega];exact h3)⟩
theorem rY {m:Nat}{s:List UInt8}:eu m s=false↔∀n,1<=n->n<=m->Lib.decDigits n≠s:=by
 rw[<-Bool.not_eq_true,BG];exact⟨λh n h1 h2 h3=>h ⟨n,h1,h2,h3⟩,λh ⟨n,h1,h2,h3⟩=>h n h1 h2 h3⟩
def kF (v:List UInt8):Bool:=eu 999 (Lib.cut v [46]).1&&(!(Lib.cut v [46]).2.2||eu 999 (Lib.cut v [46]).2.1)
def mL (n:List UInt8)(vs:List (List UInt8)):Bool:=
 if n=[86,65,76,85,69]\/n=[65,76,84,73,68]\/n=[77,69,68,73,65,84,89,80,69]\/n=[69,78,67,79,68,73,78,71] then decide (vs.length=1)
 else if n=[76,65,78,71,85,65,71,69] then decide (vs.length=1)&&(bM (vs.getD 0 [])).isNone
 else if n=[80,82,69,70] then decide (vs.length=1)&&eu 100 (vs.getD 0 [])
 else if n=[84,89,80,69] then vs.all isS&&decide (0<vs.length)
 else if n=[80,73,68] then vs.all kF&&decide (0<vs.length)
 else decide (0<vs.length)
def Pr.fit (q:Pr):Bool:=mL (ao 97 122 (-32) q.n) q.vs
def Oj (s:List UInt8)(a:AVal):Prop:=(∃n,a= .tuple [.int .i64 n,.raw .nilIface]/\Lib.atoiAll s= .ok n)\/(∃n t v,a= .tuple [.int .i64 n,.iface t (.raw v)]/\∀k,Lib.atoiAll s≠ .ok k)
def uU (g:Nat)(R:Seal):Prop:=∃t v e fz,R g=some (.cells #[.iface t v] e fz)
def mn (G:Glo):Prop:=∀R,G.p R->uU 8 R/\uU 9 R
theorem wn {P:Program}{G:Glo}{f:FuncId}{avs:List AVal}{Qf:AVal->Prop}(hc:∀args w,(callFunc f args).run P w= .ok (.enter f args) w)
  (h:∀R args,cJ R avs args.toList->∀w,G.p R->ea R w->Calls P f args w λe w'=>(∃u a,e= .returned u/\Qf a/\∀R,bD R a u)/\Below w.heap.size w w'):ad P G f avs [] (λr H=>(∃v,r= .ret v/\Qf v)/\H=[]):=by
 intro R w args hG hm ha;refine .inl ⟨hc args w,(h R args ha w hG hm.sealed).mono ?_⟩;rintro e w' ⟨⟨u,a,rfl,hq,hr⟩,hb⟩;refine⟨.ret a,[],R,⟨⟨a,rfl,hq⟩,rfl⟩,⟨_,rfl,hr R⟩,?_⟩;refine⟨?_,Seal.le_refl R,λ_ hb=>.inl hb,⟨λ_ h=>absurd h List.not_mem_nil,List.nodup_nil,λ_ h=>absurd h List.not_mem_nil⟩,λ_ h=>absurd h List.not_mem_nil,
  ⟨hb.os,hb.tape,hb.output,hb.size,λb hlt _=>hb.block b hlt⟩⟩
 intro b o ho;have h1:=hm.sealed b o ho;have hlt:b<w.heap.size:=(Array.getElem?_eq_some_iff.1 h1).1;rw[hb.block b hlt,h1]
theorem zm {g:Nat}{R:Seal}{w:World}(h:uU g R)(hs:ea R w):∃t v,w.cell? ⟨g,0,none⟩=some (.iface t v):=by
 obtain⟨t,v,e,fz,h⟩:=h;refine⟨t,v,?_⟩;unfold World.cell?;simp[hs _ _ h]
theorem uY {G:Glo}(hE:mn G)(s:List UInt8)(hl:s.length<=1000000):ad prog G 147 [.str s] [] (λr H=>(∃v,r= .ret v/\Oj s v)/\H=[]):=by
 refine wn call147 ?_;intro R args hr w hG hs;obtain⟨x,t,e',hx,rfl⟩:=hr;obtain rfl:=aF.1 hx;obtain rfl:=dN e';have hsz:(⟨s.toArray⟩:ByteArray).size<=1000000:=by rw[bT];exact hl
 obtain⟨⟨t1,v1,c1⟩,t2,v2,c2⟩:(∃t v,w.cell? ⟨8,0,none⟩=some (.iface t v))/\∃t v,w.cell? ⟨9,0,none⟩=some (.iface t v):=⟨zm (hE R hG).1 hs,zm (hE R hG).2 hs⟩;cases ha:Lib.atoiAll s
 ·rename_i n;refine(strconv_Atoi_ok ⟨s.toArray⟩ (by omega) n (by simpa using ha) w).mono ?_;rintro e w' ⟨rfl,hw⟩;refine⟨⟨_,_,rfl,.inl ⟨n,rfl,ha⟩,λR=>nb (am.2 rfl) (al.2 rfl)⟩,?_⟩;rcases hw with rfl|⟨t,rfl⟩
  ·exact Below.refl _ _
  ·exact⟨rfl,rfl,rfl,by rw[Lib.bytesWorld_size];omega,λk hk=>Lib.bytesWorld_at_old _ _ _ _ hk⟩
 ·refine(strconv_Atoi_syntax ⟨s.toArray⟩ (by omega) (by simpa using ha) _ w c1 (.inr ⟨_,_,rfl⟩)).mono ?_;rintro e w' ⟨N,rfl,_,_,hb⟩;exact⟨⟨_,_,rfl,.inr ⟨0,_,_,rfl,λk h=>by rw[ha] at h;cases h⟩,λR=>nb (am.2 rfl) ⟨⟨_,rfl,rfl,rfl⟩,rfl⟩⟩,hb⟩
 ·refine(strconv_Atoi_range ⟨s.toArray⟩ (by omega) (by simpa using ha) _ w c2 (.inr ⟨_,_,rfl⟩)).mono ?_;rintro e w' ⟨N,rfl,_,_,hb⟩;exact⟨⟨_,_,rfl,.inr ⟨_,_,_,rfl,λk h=>by rw[ha] at h;cases h⟩,λR=>nb (am.2 rfl) ⟨⟨_,rfl,rfl,rfl⟩,rfl⟩⟩,hb⟩
theorem sm:∀k:Fin 1000,Lib.atoiAll (Lib.decDigits k.val)= .ok (k.val:Int):=by decide+kernel
attribute [local irreducible] bI ap aa az aW ab ad
theorem jD {G:Glo}(hE:mn G)(hP:ew G)(s:List UInt8)(m:Nat)(hl:s.length<=1000000)(hm:m<=999):an prog G 137 [.str s,.int .i64 (m:Int)] (.bool (eu m s)):=by
 have hA:=uY hE s hl;have hI:=λn h=>strconv_Itoa (G:=G) hP n h;refine aw func137 call137 λC hC hGL=> ?_;refine aZ ?_;intros;refine rU hA ?_;rintro a (⟨n,rfl,h⟩|⟨n,t,v,rfl,h⟩)
 ·by_cases hn:1<=n/\n<=m
  ·obtain⟨k,rfl⟩:∃k:Nat,n=k:=⟨n.toNat,by omega⟩;have hI:=hI k (by omega);have e:ca (Lib.decDigits k) s=eu m s:=by
    cases hc:eu m s with
    |true=>
     obtain⟨j,h1,h2,h3⟩:=BG.1 hc;have:=sm ⟨j,by omega⟩;rw[h3,h] at this;have e:(k:Int)=j:=by simpa using this
     rw[Int.ofNat.inj e,h3];exact dE.2 rfl
    |false=>exact kq.2 (rY.1 hc k (by omega) (by omega))
   rw[<-e]
   exact bK
  ·have e:eu m s=false:=by
    refine rY.2 λj h1 h2 h3=>hn ?_
    have:=sm ⟨j,by omega⟩
    rw[h3,h] at this
    have e:n=j:=by simpa using this
    omega
   rw[e]
   exact bK
 ·have e:eu m s=false:=by
   refine rY.2 λj h1 h2 h3=>h (j:Int) ?_
   have:=sm ⟨j,by omega⟩
   rwa [h3] at this
  rw[e]
  exact bK
end
section
abbrev prA (q:Pr):AVal:=.agg [.str q.n,.list 1 q.vs.length (aE q.vs)]
abbrev GQ:List UInt8:=[86,65,76,85,69]
abbrev GT:List UInt8:=[65,76,84,73,68]
abbrev GR:List UInt8:=[77,69,68,73,65,84,89,80,69]
abbrev GS:List UInt8:=[69,78,67,79,68,73,78,71]
abbrev nLAN:List UInt8:=[76,65,78,71,85,65,71,69]
abbrev nPRE:List UInt8:=[80,82,69,70]
abbrev nTYP:List UInt8:=[84,89,80,69]
abbrev sT:List UInt8:=[80,73,68]
inductive NmC (n:List UInt8):Prop
 |one (h:n=GQ\/n=GT\/n=GR\/n=GS)
 |lan (h:n=nLAN)
 |pre (h:n=nPRE)
 |typ (h:n=nTYP)
 |pid (h:n=sT)
 |els (h1:n≠GQ) (h2:n≠GT) (h3:n≠GR) (h4:n≠GS) (h5:n≠nLAN) (h6:n≠nPRE) (h7:n≠nTYP) (h8:n≠sT)
theorem Ox (n:List UInt8):NmC n:=by
 by_cases h:n=GQ\/n=GT\/n=GR\/n=GS
 ·exact .one h
 simp only[not_or] at h;obtain⟨h1,h2,h3,h4⟩:=h;by_cases h5:n=nLAN
 ·exact .lan h5
 by_cases h6:n=nPRE
 ·exact .pre h6
 by_cases h7:n=nTYP
 ·exact .typ h7
 by_cases h8:n=sT
 ·exact .pid h8
 exact .els h1 h2 h3 h4 h5 h6 h7 h8
theorem su {p:List UInt8->Bool}{l:List (List UInt8)}(h:∀k,k<l.length->p (l.getD k [])=true):l.all p=true:=by
 rw[List.all_eq_true];intro x hx;obtain⟨i,hi,rfl⟩:=List.getElem_of_mem hx;have:=h i hi;rwa [List.getD_eq_getElem?_getD,List.getElem?_eq_getElem hi] at this
theorem qe {p:List UInt8->Bool}{l:List (List UInt8)}{k:Nat}(hk:k<l.length)(h:p (l.getD k [])=false):l.all p=false:=by
 rw[List.all_eq_false];refine⟨l[k],List.getElem_mem hk,?_⟩;rw[List.getD_eq_getElem?_getD,List.getElem?_eq_getElem hk] at h;simpa using h
theorem H6 (s:List UInt8)(c:UInt8):(Lib.cut s [c]).1.length<=s.length/\(Lib.cut s [c]).2.1.length<=s.length:=by
 unfold Lib.cut;split
 ·exact⟨List.length_take_le' ..,by dsimp only;rw[List.length_drop];omega⟩
 ·exact⟨Nat.le_refl _,Nat.zero_le _⟩
attribute [local irreducible] bI ap aa az aW ab ad
attribute [local irreducible] eu bM isS kF Lib.cut
theorem AI {G:Glo}{m:Int}(hE:mn G)(hP:ew G)(hM:ab G (cw m))(q:Pr)(h0:q.n.length<=2000000)(h1:q.vs.length<=1000000)(h2:∀k,(q.vs.getD k []).length<=90000):an prog G 87 [prA q] (.bool q.fit):=by
 have hU:=dW (G:=G) q.n (by omega);unfold Pr.fit;obtain⟨nm,vs⟩:=q;dsimp only at h0 h1 h2 hU ⊢;generalize ao 97 122 (-32) nm=n at*
 cases Ox n with
 |one h=>
  have e:mL n vs=cY (vs.length:Int) 1:=by
   unfold mL;rw[if_pos h];unfold cY;exact decide_eq_decide.2 (by omega)
  rw[e];rcases h with rfl|rfl|rfl|rfl
  all_goals
   refine aw func87 call87 λC hC hGL=> ?_;exact bK
 |lan h=>
  subst h;have hR:=mF (G:=G) (vs.getD 0 []) (by have:=h2 0;omega);have e:mL nLAN vs=(decide (vs.length=1)&&(bM (vs.getD 0 [])).isNone):=rfl;rw[e];by_cases hv:vs.length=1
  ·rw[decide_eq_true hv];rcases hx:bM (vs.getD 0 []) with _|e|⟨e,p⟩
   all_goals
    rw[hx] at hR;refine aw func87 call87 λC hC hGL=> ?_;exact bK
  ·rw[decide_eq_false hv];refine aw func87 call87 λC hC hGL=> ?_;exact bK
 |pre h=>
  subst h;have hR:=jD hE hP (vs.getD 0 []) 100 (by have:=h2 0;omega) (by decide);have e:mL nPRE vs=(decide (vs.length=1)&&eu 100 (vs.getD 0 [])):=rfl;rw[e];by_cases hv:vs.length=1
  ·rw[decide_eq_true hv];refine aw func87 call87 λC hC hGL=> ?_;exact bK
  ·rw[decide_eq_false hv];refine aw func87 call87 λC hC hGL=> ?_;exact bK
 |typ h=>
  subst h;have e:mL nTYP vs=(vs.all isS&&lP 0 (vs.length:Int)):=by
   unfold lP;rw[show decide ((0:Int)<(vs.length:Int))=decide (0<vs.length) from decide_eq_decide.2 (by omega)];rfl
  rw[e];refine aw func87 call87 λC hC hGL=> ?_;refine aZ ?_;intros;refine lp hC hGL (λk:Nat=>[(1,.rop [.str nm,.list 1 vs.length (aE vs)] 0),(48,.list 1 vs.length (aE vs)),(49,.int .i64 (vs.length:Int)),(50,.int .i64 (k:Int))]) (λ_=>[]) (λk=>k<=vs.length/\∀j,j<k->isS (vs.getD j [])=true) (λk=>vs.length-k) 0 ⟨Nat.zero_le _,λj h=>absurd h (Nat.not_lt_zero _)⟩ ai rfl ?_;rintro k ⟨hk1,hk2⟩;by_cases hk:k<vs.length
  ·have hI:=np (G:=G) (vs.getD k []) (by have:=h2 k;omega);cases hs:isS (vs.getD k []) with
   |true=>
    rw[hs] at hI;refine aZ ?_;intros;refine db (k+1) ⟨by omega,λj hj=> ?_⟩ (by omega) ai rfl;rcases Nat.lt_or_eq_of_le (Nat.le_of_lt_succ hj) with h|rfl
    ·exact hk2 j h
    ·exact hs
   |false=>
    rw[hs] at hI;rw[qe hk hs];exact bK
  ·rw[su λj hj=>hk2 j (by omega)];exact bK
 |pid h=>
  subst h;have e:mL sT vs=(vs.all kF&&lP 0 (vs.length:Int)):=by
   unfold lP;rw[show decide ((0:Int)<(vs.length:Int))=decide (0<vs.length) from decide_eq_decide.2 (by omega)];rfl
  rw[e];refine aw func87 call87 λC hC hGL=> ?_;refine aZ ?_;intros;refine lp hC hGL (λk:Nat=>[(1,.rop [.str nm,.list 1 vs.length (aE vs)] 0),(61,.list 1 vs.length (aE vs)),(62,.int .i64 (vs.length:Int)),(63,.int .i64 (k:Int))]) (λ_=>[]) (λk=>k<=vs.length/\∀j,j<k->kF (vs.getD j [])=true) (λk=>vs.length-k) 0 ⟨Nat.zero_le _,λj h=>absurd h (Nat.not_lt_zero _)⟩ ai rfl ?_;rintro k ⟨hk1,hk2⟩;by_cases hk:k<vs.length
  ·have hl:=h2 k;have hcut:=xy (G:=G) hM (vs.getD k []) 46 (by omega);have hcl:=H6 (vs.getD k []) 46;have hp:kF (vs.getD k [])=(eu 999 (Lib.cut (vs.getD k []) [46]).1&&(!(Lib.cut (vs.getD k []) [46]).2.2||eu 999 (Lib.cut (vs.getD k []) [46]).2.1)):=by unfold kF;rfl
   generalize Lib.cut (vs.getD k []) [46]=cu at*
   obtain⟨a,b,tw⟩:=cu;dsimp only at hcut hcl hp;have hA:=jD hE hP a 999 (by omega) (by decide);have hB:=jD hE hP b 999 (by omega) (by decide);have go:kF (vs.getD k [])=true->k+1<=vs.length/\∀j,j<k+1->kF (vs.getD j [])=true:=λhs=>⟨by omega,λj hj=>by
    rcases Nat.lt_or_eq_of_le (Nat.le_of_lt_succ hj) with h|rfl
    ·exact hk2 j h
    ·exact hs⟩
   cases ha:eu 999 a with
   |false=>
    rw[ha] at hA hp;rw[qe hk hp];exact bK
   |true=>
    rw[ha] at hA hp;cases tw with
    |false=>
     refine aZ ?_;intros;exact db (k+1) (go hp) (by omega) ai rfl
    |true=>
     cases hb:eu 999 b with
     |true=>
      rw[hb] at hB hp;refine aZ ?_;intros;exact db (k+1) (go hp) (by omega) ai rfl
     |false=>
      rw[hb] at hB hp;rw[qe hk hp];exact bK
  ·rw[su λj hj=>hk2 j (by omega)];exact bK
 |els h3 h4 h5 h6 h7 h8 h9 h10=>
  have e:mL n vs=lP 0 (vs.length:Int):=by
   unfold mL;rw[if_neg (by simp[*]),if_neg h7,if_neg h8,if_neg h9,if_neg h10];unfold lP;exact decide_eq_decide.2 (by omega)
  rw[e];refine aw func87 call87 λC hC hGL=> ?_;exact bK
end
section
theorem Hj {c:Nat}(h:c<256):isS (bw [(c:Int)])=bY c:=by
 have hb:aa (bw [(c:Int)]) 0=c:=by
  unfold bw aa;simp;omega
 rw[Bool.eq_iff_iff,isS];have hl:(bw [(c:Int)]).length=1:=rfl;rw[hl];simp only[Bool.and_eq_true,sx,hl,decide_eq_true_eq];constructor
 ·intro h;have:=h.1 0 (by omega);rwa [hb] at this
 ·intro h;exact⟨λj hj=>by rw[show j=0 by omega,hb];exact h,by omega,by omega⟩
theorem A7 {c:Int}(h:bY c=true)(hc:c≠45):(48<=c/\c<=57)↔c<=57:=by
 rw[oD] at h;omega
theorem mG {b:Bool}{a:Nat}{x:List UInt8}{xs:List (List UInt8)}:dp b a (x::xs)=if(cQ b a x).isNone then dp false (a+x.length+1) xs else cQ b a x:=by rw[dp]
theorem vT {x:List UInt8}(h:(45:UInt8)∉x){j:Nat}(hj:j<x.length):aa x j≠45:=by
 intro e;rw[bU hj] at e;exact h (by rw[<-show x[j]=45 from UInt8.toNat_inj.1 (by rw[e];rfl)];exact List.getElem_mem hj)
theorem q8 {first:Bool}{a:Nat}{x:List UInt8}{i:Nat}(hi:i<x.length)(hb:pX first (aa x i:Int)=false)(h0:∀j,j<i->pX first (aa x j:Int)=true):cQ first a x= .at 3 ((a:Int)+i):=by
 have hf:fP (λc=> !pX first c) x=i:=jN hi (by rw[hb];rfl) (λj hj=>by rw[h0 j hj];rfl);unfold cQ;rw[hf,if_pos (by omega)]
theorem kE {first:Bool}{a:Nat}{x:List UInt8}(h0:∀j,j<x.length->pX first (aa x j:Int)=true):cQ first a x=if x.length=0 then .at 7 a else if 8<x.length then .at 4 a else .none:=by
 have hf:fP (λc=> !pX first c) x= -1:=fA (λj hj=>by rw[h0 j hj];rfl);unfold cQ;rw[hf,if_neg (by omega)]
theorem gv (c:UInt8):∀s:List UInt8,(bq c s).length<=s.length+1/\∀p,p∈bq c s->p.length<=s.length
 |[]=>⟨Nat.le_refl _,λp h=>by simp[bq] at h;subst h;exact Nat.le_refl _⟩
 |x::t=>by
  obtain⟨h1,h2⟩:=gv c t;by_cases hx:x=c
  ·rw[bq,if_pos hx];refine⟨by simp only[List.length_cons];omega,λp hp=> ?_⟩;rcases List.mem_cons.1 hp with rfl|hp
   ·simp
   ·have:=h2 p hp;simp only[List.length_cons];omega
  ·rw[bq,if_neg hx];cases h3:bq c t with
   |nil=>exact absurd h3 (mZ c t)
   |cons q qs=>
    rw[h3] at h1 h2;refine⟨by simp only[List.length_cons] at*;omega,λp hp=> ?_⟩;rcases List.mem_cons.1 hp with rfl|hp
    ·have:=h2 q (by simp);simp only[List.length_cons];omega
    ·have:=h2 p (by simp[hp]);simp only[List.length_cons];omega
attribute [local irreducible] bI ap aa az aW ab ad
attribute [local irreducible] bq dp pX isS bY cQ
theorem iB {G:Glo}{m:Int}(hM:ab G (cw m))(s:List UInt8)(hl:s.length<=10000):an prog G 57 [.str s] (.agg [.int .i64 (bM s).e,.int .i64 (bM s).p]):=by
 have h1:=mv (G:=G) hM s 45 (by omega);have hgd:=i7 (G:=G);have hmem:∀k,k<(bq 45 s).length->(45:UInt8)∉(bq 45 s).getD k []:=λk hk=>by
  rw[List.getD_eq_getElem?_getD,List.getElem?_eq_getElem hk];exact m0 (List.getElem_mem hk)
 have hX:bM s=dp true 0 (bq 45 s):=rfl;have hlen:∀p,p∈bq 45 s->p.length<=10000:=λp hp=>Nat.le_trans ((gv 45 s).2 p hp) hl;have hPl:(bq 45 s).length<=10001:=by have:=(gv 45 s).1;omega
 generalize bq 45 s=P at*
 refine aw func57 call57 λC hC hGL=> ?_;refine aZ ?_;intros;rename Nat=>bl0
 refine lp hC hGL (λ(x:Nat×Nat)=>[(2,.own 0 (.pointer (some ⟨bl0,0,none⟩))),(3,.int .i64 x.2),(9,.list 1 P.length (aE P)),(10,.int .i64 P.length),(11,.int .i64 x.1)]) (λ_=>[.cells bl0 (some 59) [.int .i64 0,.int .i64 0]]) (λx=>x.1<=P.length/\x.2<=4000*x.1/\bM s=dp (decide (x.1=0)) x.2 (P.drop x.1)) (λx=>P.length-x.1) (0,0) ?_ ai rfl ?_
 ·exact⟨Nat.zero_le _,Nat.zero_le _,hX⟩
 rintro⟨k,a⟩ ⟨g1,g2,g3⟩;dsimp only at g1 g2 g3 ⊢;by_cases hk:k<P.length
 ·have hx:∃x,P.getD k []=x/\P.drop k=x::P.drop (k+1)/\(45:UInt8)∉x/\x.length<=10000:=by
   refine⟨P.getD k [],rfl,?_,hmem k hk,?_⟩
   ·rw[List.drop_eq_getElem_cons hk,List.getD_eq_getElem?_getD,List.getElem?_eq_getElem hk];rfl
   ·rw[List.getD_eq_getElem?_getD,List.getElem?_eq_getElem hk];exact hlen _ (List.getElem_mem hk)
  obtain⟨x,hx,hd,hm,hxl⟩:=hx;have hxe:aE P k= .str x:=by unfold aE;rw[hx]
  rw[hd,mG] at g3;have hkl:k<=4000*k:=by omega
  repeat' (first|(conv=>whnf);first|refine .w ?_|refine .v ?_|refine bu ?_ ?_<;>(intro hb;try exact dd hb)|apply au|apply aM|(apply a6<;>intro hb)|(apply ba;intro hbd)|(apply aJ;exact hgd)|(apply ax (i:=0) rfl;exact hgd)|(apply bc;intro bl)|(apply bh;intro va vk vc hva)|(apply bg;intro v)|(apply bj;intro bl cap hcap)|apply bx|(apply bf<;>intro hnx)|apply ct mixed hC hGL (by kernel_rfl)|(apply cq;assumption;exact hgd;exact rfl)|(show Rt _ _ _;exact a7)|fail)
  all_goals try conv=>whnf
  rw[hx] at*
  rw[hxe] at*
  refine lp hC hGL (λ(i:Nat)=>[(2,.own 0 (.pointer (some ⟨bl0,0,none⟩))),(3,.int .i64 a),(4,.int .i64 k),(5,.str x),(9,.list 1 P.length (aE P)),(10,.int .i64 P.length),(11,.int .i64 k),(17,.own 1 (.slice (some ⟨bl,0,none⟩) x.length cap)),(18,.int .i64 x.length),(19,.int .i64 i)]) (λ_=>[.cells bl0 (some 59) [.int .i64 0,.int .i64 0],.buf bl x cap]) (λi=>i<=x.length/\∀j,j<i->pX (decide (k=0)) (aa x j:Int)=true) (λi=>x.length-i) 0 ?_ ai rfl ?_
  ·exact⟨Nat.zero_le _,by intro j hj;omega⟩
  rintro i ⟨hi,hb0⟩;have hI:i<x.length->an prog G 67 [.str (bw [(aa x i:Int)])] (.bool (bY (aa x i))):=λh=>by
   have:=qO (G:=G) (bw [(aa x i:Int)]) (by show 1<=_;omega);rwa [Hj (bG _ _)] at this
  have hW:=dV (G:=G) (aa x i:Int) 48 57;refine xw ?_;repeat' first|exact .n|apply Lc.mk
  all_goals intros
  ·refine aO hC hGL (cb [_] rfl (by intro v hv;simp only[List.mem_cons,List.not_mem_nil,or_false] at hv;omega) rfl rfl rfl rfl rfl rfl) rfl rfl ?_;repeat' (first|(conv=>whnf);first|refine .w ?_|refine .v ?_|refine bu ?_ ?_<;>(intro hb;try exact dd hb)|apply au|apply aM|(apply a6<;>intro hb)|(apply ba;intro hbd)|(apply aJ;first|exact hI (by omega)|exact hW)|(apply ax (i:=0) rfl;first|exact hI (by omega)|exact hW)|(apply bc;intro bl)|(apply bh;intro va vk vc hva)|(apply bg;intro v)|(apply bj;intro bl cap hcap)|apply bx|(apply bf<;>intro hnx)|apply ct mixed hC hGL (by kernel_rfl)|(apply cq;assumption;(first|exact hI (by omega)|exact hW);exact rfl)|(show Rt _ _ _;exact a7)|fail)
   all_goals try conv=>whnf
   ·apply aj;rw[Bool.and_eq_true,decide_eq_true_eq,decide_eq_true_eq] at hb;rw[g3,q8 (by omega) (CV.2 (.inr ⟨by simp;omega,by omega⟩)) hb0];rfl
   ·rw[Bool.and_eq_false_iff,decide_eq_false_iff_not,decide_eq_false_iff_not] at hb;refine db (i+1) ?_ ?_ ai rfl
    ·refine⟨by omega,cB hb0 (CU.2 ⟨by assumption,λ_=> ?_⟩)⟩;have:=(A7 (c:=(aa x i:Int)) (by assumption) (by have:=vT hm (j:=i) (by omega);omega));omega
    ·omega
   ·refine db (i+1) ?_ ?_ ai rfl
    ·exact⟨by omega,cB hb0 (CU.2 ⟨by assumption,λh=>by simp at h;omega⟩)⟩
    ·omega
   ·apply aj;rw[g3,q8 (by omega) (CV.2 (.inl hb)) hb0];rfl
  ·apply aj;have hp:=kE (first:=decide (k=0)) (a:=a) (x:=x) (λj hj=>hb0 j (by omega));rw[if_pos (by omega)] at hp;rw[g3,hp];rfl
  ·apply aj;have hp:=kE (first:=decide (k=0)) (a:=a) (x:=x) (λj hj=>hb0 j (by omega));rw[if_neg (by omega),if_pos (by omega)] at hp;rw[g3,hp];rfl
  ·have hp:=kE (first:=decide (k=0)) (a:=a) (x:=x) (λj hj=>hb0 j (by omega));rw[if_neg (by omega),if_neg (by omega)] at hp;rw[hp,if_pos (show Err.none.isNone=true from rfl)] at g3;refine eg (k+1,a+x.length+1) ⟨by omega,by dsimp only;omega,?_⟩ (by dsimp only;omega) ⟨rfl,?_,rfl,rfl,rfl,trivial⟩ aH
   ·dsimp only
    rw[g3];simp
   ·exact congrArg (λz=>some (AVal.int .i64 z)) (by dsimp only;omega)
 ·refine aZ ?_;intros;apply aj;rw[g3,List.drop_eq_nil_of_le (by omega),dp];rfl
end
section
theorem xC (c:UInt8)(s:List UInt8):bq c s=if(Lib.cut s [c]).2.2 then(Lib.cut s [c]).1::bq c (Lib.cut s [c]).2.1 else[s]:=by
 have h:=js c s;rcases Lib.index_spec s [c] with⟨h2,_⟩|⟨i,h2,_⟩
 ·rw[Lib.count_miss h2] at h;have e:Lib.cut s [c]=(s,[],false):=by unfold Lib.cut;rw[if_neg (by omega)]
  rw[e,if_neg Bool.false_ne_true,<-h];rfl
 ·have e:Lib.cut s [c]=(s.take i,s.drop (i+1),true):=by unfold Lib.cut;rw[if_pos (by omega),h2];rfl
  rw[Lib.count_hit (by simp) h2,Nat.add_comm,jt h2] at h;rw[e,if_pos rfl,<-h];congr 1
  exact js c _
theorem EW:∀k:Fin 1000,(46:UInt8)∉Lib.decDigits k.val:=by decide+kernel
theorem E0 {m:Nat}{s:List UInt8}(hm:m<=999)(h:(46:UInt8)∈s):eu m s=false:=by
 refine rY.2 λn h1 h2 h3=> ?_;subst h3;exact EW ⟨n,by omega⟩ h
theorem MQ {s:List UInt8}{c:UInt8}(h:(Lib.cut s [c]).2.2=true):c∈s:=by
 unfold Lib.cut at h;split at h
 ·rename_i hi;rw[Lib.index_one] at hi;rcases Classical.em (c∈s) with g|g
  ·exact g
  ·exfalso;have:Lib.indexByte s c= -1:=by
    have:=Lib.index_spec s [c];rcases this with⟨h1,_⟩|⟨i,h1,h2,h3,_⟩
    ·rwa [Lib.index_one] at h1
    ·exfalso;apply g;unfold Lib.occAt at h3;cases hd:s.drop i with
     |nil=>rw[hd] at h3;simp at h3
     |cons x t=>
      rw[hd] at h3;have:c=x:=by simpa[List.isPrefixOf] using h3
      rw[this];exact List.mem_of_mem_drop (by rw[hd];exact List.mem_cons_self ..)
   omega
 ·cases h
def Jv (l:List (List UInt8)):Bool:=decide (l.length<=2)&&l.all (eu 999)
theorem Ju (v:List UInt8):Jv (bq 46 v)=kF v:=by
 rw[xC];unfold kF Jv;cases ht:(Lib.cut v [46]).2.2 with
 |false=>
  have e:(Lib.cut v [46]).1=v:=by
   unfold Lib.cut at ht ⊢;split at ht
   ·cases ht
   ·rename_i h;rw[if_neg h]
  rw[e];simp
 |true=>
  rw[if_pos rfl,xC];cases ht2:(Lib.cut (Lib.cut v [46]).2.1 [46]).2.2 with
  |false=>simp
  |true=>
   have h1:=E0 (m:=999) (Nat.le_refl _) (MQ ht2);rw[h1,if_pos rfl];have h3:=mZ 46 (Lib.cut (Lib.cut v [46]).2.1 [46]).2.1;have h4:0<(bq 46 (Lib.cut (Lib.cut v [46]).2.1 [46]).2.1).length:=List.length_pos_iff.2 h3;rw[decide_eq_false (by simp only[List.length_cons];omega)];simp
abbrev xH:List UInt8:=[32,86,65,76,85,69,32,65,76,84,73,68,32,77,69,68,73,65,84,89,80,69,32,69,78,67,79,68,73,78,71,32,76,65,78,71,85,65,71,69,32,80,82,69,70,32]
def jw (n:List UInt8):Bool:=decide (n=GQ\/n=GT\/n=GR\/n=GS\/n=nLAN\/n=nPRE)
theorem yu:∀{n L:List UInt8},(n++[32]).isPrefixOf L=true->(32:UInt8)∉n->n=L.takeWhile (· != 32)
 |[],[],h,_=>by simp at h
 |[],x::L,h,_=>by
  simp only[List.nil_append,List.isPrefixOf,Bool.and_true,beq_iff_eq] at h;subst h;simp
 |a::n,[],h,_=>by simp at h
 |a::n,x::L,h,hn=>by
  simp only[List.cons_append,List.isPrefixOf,Bool.and_eq_true,beq_iff_eq] at h;obtain⟨rfl,h⟩:=h;have ha:a≠32:=λe=>hn (by rw[e];exact List.mem_cons_self ..);have:=yu h (λe=>hn (List.mem_cons_of_mem _ e));rw[List.takeWhile_cons,if_pos (by simpa using ha),<-this]
theorem DM:∀i:Fin 47,∀L,xH.drop i.val=32::L->L.takeWhile (· != 32)=[]\/jw (L.takeWhile (· != 32))=true:=by
 have h:∀i:Fin 47,(match xH.drop i.val with|x::L=>x != 32||((L.takeWhile (· != 32)).isEmpty||jw (L.takeWhile (· != 32)))|[]=>true)=true:=by decide+kernel
 intro i L hL;have:=h i;rw[hL] at this;replace this:((32:UInt8) != 32||((L.takeWhile (· != 32)).isEmpty||jw (L.takeWhile (· != 32))))=true:=this;generalize L.takeWhile (· != 32)=u at*
 rw[show((32:UInt8) != 32)=false by decide,Bool.false_or,Bool.or_eq_true,List.isEmpty_iff] at this;exact this
theorem LG {n:List UInt8}(h:jw n=true):Lib.contains xH (32::n++[32])=true:=by
 have h:n=GQ\/n=GT\/n=GR\/n=GS\/n=nLAN\/n=nPRE:=of_decide_eq_true h;rcases h with rfl|rfl|rfl|rfl|rfl|rfl<;>decide+kernel
theorem LH {n:List UInt8}(h0:n≠[])(hn:(32:UInt8)∉n):Lib.contains xH (32::n++[32])=jw n:=by
 cases hb:jw n with
 |true=>exact LG hb
 |false=>
  unfold Lib.contains;rcases Lib.index_spec xH (32::n++[32]) with⟨h1,_⟩|⟨i,h1,h2,h3,_⟩
  ·rw[h1];rfl
  ·exfalso;unfold Lib.occAt at h3;cases hd:xH.drop i with
   |nil=>rw[hd] at h3;simp at h3
   |cons x L=>
    rw[hd] at h3;simp only[List.cons_append,List.isPrefixOf,Bool.and_eq_true,beq_iff_eq] at h3;obtain⟨rfl,h3⟩:=h3;have e:=yu h3 hn;rcases DM ⟨i,by have:xH.length=46:=rfl;omega⟩ L hd with h|h
    ·exact h0 (e.trans h)
    ·rw[<-e,hb] at h;cases h
theorem vV {s:List UInt8}(h:isS s=true):ao 97 122 (-32) s≠[]/\(32:UInt8)∉ao 97 122 (-32) s:=by
 unfold isS at h;simp only[Bool.and_eq_true,decide_eq_true_eq] at h;obtain⟨h1,h2,_⟩:=h;refine⟨λe=>h2 ?_,λhm=> ?_⟩
 ·have:=congrArg List.length e;unfold ao at this;rwa [List.length_map] at this
 ·unfold ao at hm;rw[List.mem_map] at hm;obtain⟨c,hc,e⟩:=hm;unfold B6 at h1;have hl:=List.all_eq_true.1 h1 c hc;unfold bY at hl;have hl:=of_decide_eq_true hl;have e:=congrArg UInt8.toNat e;rw[UInt8.toNat_ofNat'] at e;have hlt:=UInt8.toNat_lt c;unfold dm at e;have e32:(32:UInt8).toNat=32:=rfl;rw[e32] at e;split at e<;>omega
end
section
theorem iT {G:Glo}{m:Int}(hU:ab G (cw m))(s t:List UInt8)(hl:s.length<100000):an prog G 71 [.str s,.str t] (.bool (Lib.contains s t)):=by
 refine cj rfl call71 ?_;rintro R args ⟨x,u,e,hx,y,u',e',hy,rfl⟩ w hG hs;obtain rfl:=aF.1 hx;obtain rfl:=aF.1 hy;subst e';obtain rfl:=dN e;refine(strings_Contains ⟨s.toArray⟩ ⟨t.toArray⟩ m w (by show s.toArray.size<_;simp;omega) (rk hU hG hs)).mono ?_;rintro e w' ⟨rfl,rfl⟩;exact⟨by simp[AVal.conc],Below.refl _ _⟩
end
section
attribute [local irreducible] bI ap aa az aW ab ad
attribute [local irreducible] gZ Lv fC To
theorem jE {G:Glo}(e p:Int):an prog G 31 [.agg [.int .i64 e,.int .i64 p]] (.bool (cY e 0)):=by
 refine aw func31 call31 λC hC hGL=> ?_;exact bK
end
section
def tQ (n:List UInt8)(v:List UInt8):Bool:=if n=nLAN then(bM v).isNone else if n=nPRE then eu 100 v else if n=nTYP then isS v else if n=sT then kF v else true
theorem Mz (n:List UInt8)(vs:List (List UInt8)):mL n vs=(decide (vs.length≠0)&&((!jw n||decide (vs.length=1))&&vs.all (tQ n))):=by
 have one:∀{p:List UInt8->Bool},vs.length=1->vs.all p=p (vs.getD 0 []):=λh=>by
  obtain⟨v,rfl⟩:=List.length_eq_one_iff.1 h
  simp
 cases Ox n with
 |one h=>
  have e:∀v,tQ n v=true:=λv=>by
   unfold tQ
   rcases h with rfl|rfl|rfl|rfl<;>rfl
  have e2:vs.all (tQ n)=true:=List.all_eq_true.2 λv _=>e v
  have e3:jw n=true:=by rcases h with rfl|rfl|rfl|rfl<;>rfl
  unfold mL
  rw[if_pos h,e2,e3]
  by_cases hv:vs.length=1
  ·simp[hv]
  ·simp[hv]
 |lan h=>
  subst h
  show(decide (vs.length=1)&&(bM (vs.getD 0 [])).isNone)=_
  rw[show jw nLAN=true from rfl]
  by_cases hv:vs.length=1
  ·rw[one hv];simp[hv,tQ]
  ·simp[hv]
 |pre h=>
  subst h
  show(decide (vs.length=1)&&eu 100 (vs.getD 0 []))=_
  rw[show jw nPRE=true from rfl]
  by_cases hv:vs.length=1
  ·rw[one hv];simp[hv,tQ]
  ·simp[hv]
 |typ h=>
  subst h
  show(vs.all isS&&decide (0<vs.length))=_
  rw[show jw nTYP=false from rfl,show tQ nTYP=isS from rfl]
  by_cases hv:vs.length=0
  ·simp[hv]
  ·simp[hv,Nat.pos_of_ne_zero hv]
 |pid h=>
  subst h
  show(vs.all kF&&decide (0<vs.length))=_
  rw[show jw sT=false from rfl,show tQ sT=kF from rfl]
  by_cases hv:vs.length=0
  ·simp[hv]
  ·simp[hv,Nat.pos_of_ne_zero hv]
 |els h1 h2 h3 h4 h5 h6 h7 h8=>
  have e:∀v,tQ n v=true:=λv=>by
   unfold tQ
   rw[if_neg h5,if_neg h6,if_neg h7,if_neg h8]
  have e2:vs.all (tQ n)=true:=List.all_eq_true.2 λv _=>e v
  have e3:jw n=false:=by
   unfold jw
   exact decide_eq_false (by simp only[not_or];exact⟨h1,h2,h3,h4,h5,h6⟩)
  unfold mL
  rw[if_neg (by simp only[not_or];exact⟨h1,h2,h3,h4⟩),if_neg h5,if_neg h6,if_neg h7,if_neg h8,e2,e3]
  by_cases hv:vs.length=0
  ·simp[hv]
  ·simp[hv,Nat.pos_of_ne_zero hv]
theorem ub:∀(b:Bool) (a:Nat) (l:List (List UInt8)),(dp b a l).isNone=cY (dp b a l).e 0
 |b,a,[]=>by unfold dp;exact(fh.2 rfl).symm
 |b,a,x::l=>by
  unfold dp;have ih:=ub false (a+x.length+1) l;have hp:cQ b a x= .none\/∃e p,cQ b a x= .at e p/\e≠0:=by
   unfold cQ;split
   ·exact .inr ⟨_,_,rfl,by decide⟩
   ·split
    ·exact .inr ⟨_,_,rfl,by decide⟩
    ·split
     ·exact .inr ⟨_,_,rfl,by decide⟩
     ·exact .inl rfl
  rcases hp with h|⟨e,p,h,he⟩
  ·rw[h];exact ih
  ·rw[h];exact(rQ.2 he).symm
theorem EA (s:List UInt8):(bM s).isNone=cY (bM s).e 0:=ub true 0 (bq 45 s)
attribute [local irreducible] bI ap aa az aW ab ad
attribute [local irreducible] eu bM isS kF bq tQ jw
theorem oZ {G:Glo}(hP:ew G)(s:List UInt8)(m:Nat)(hm:m<=999):an prog G 72 [.str s,.int .i64 (m:Int)] (.bool (eu m s)):=by
 refine aw func72 call72 λC hC hGL=> ?_
 refine aZ ?_;intros;refine lp hC hGL (λk:Nat=>[(0,.str s),(1,.int .i64 (m:Int)),(5,.int .i64 (k:Int))]) (λ_=>[]) (λk=>1<=k/\k<=m+1/\∀n,1<=n->n<k->Lib.decDigits n≠s) (λk=>m+1-k) 1 ⟨Nat.le_refl _,by omega,λn h1 h2=>by omega⟩ ai rfl ?_;rintro k ⟨h1,h2,h3⟩;by_cases hk:k<=m
 ·have hI:=strconv_Itoa (G:=G) hP k (by omega);by_cases he:Lib.decDigits k=s
  ·rw[BG.2 ⟨k,h1,hk,he⟩];exact bK
  ·refine aZ ?_;intros;refine db (k+1) ⟨by omega,by omega,λn g1 g2=> ?_⟩ (by omega) ai rfl;rcases Nat.lt_or_eq_of_le (Nat.le_of_lt_succ g2) with h|rfl
   ·exact h3 n g1 h
   ·exact he
 ·rw[rY.2 λn g1 g2=>h3 n g1 (by omega)]
  exact bK
theorem Gw {G:Glo}{m:Int}(hP:ew G)(hM:ab G (cw m))(q:Pr)(hq:isS q.n=true)(h0:q.n.length<=2000000)(h1:q.vs.length<=1000000)(h2:∀k,(q.vs.getD k []).length<=10000):an prog G 33 [prA q] (.bool q.fit):=by
 have hU:=i6 (G:=G) q.n (by omega);obtain⟨hb1,hb2⟩:=vV hq;unfold Pr.fit;rw[Mz];obtain⟨nm,vs⟩:=q;dsimp only at h0 h1 h2 hU hb1 hb2 ⊢;have hnl:(ao 97 122 (-32) nm).length<=2000000:=by unfold ao;rw[List.length_map];exact h0
 clear hq;generalize ao 97 122 (-32) nm=n at*
 have hS:=iT (G:=G) hM xH (32::n++[32]) (by decide);rw[LH hb1 hb2] at hS;by_cases hv:vs.length=0
 ·rw[decide_eq_false (by omega)];refine aw func33 call33 λC hC hGL=> ?_;exact bK
 rw[decide_eq_true hv];by_cases hs:jw n=true/\vs.length≠1
 ·rw[hs.1] at hS ⊢;rw[decide_eq_false hs.2];refine aw func33 call33 λC hC hGL=> ?_;exact bK
 have e1:(!jw n||decide (vs.length=1))=true:=by
  rcases Bool.eq_false_or_eq_true (jw n) with h|h
  ·rw[h,decide_eq_true (Classical.not_not.1 λg=>hs ⟨h,g⟩)];rfl
  ·rw[h];rfl
 rw[e1,Bool.true_and,Bool.true_and];have ok1:∀{k:Nat},k<vs.length->tQ n (vs.getD k [])=true->(∀j,j<k->tQ n (vs.getD j [])=true)->∀j,j<k+1->tQ n (vs.getD j [])=true:=λhk h g j hj=>by
  rcases Nat.lt_or_eq_of_le (Nat.le_of_lt_succ hj) with h'|rfl
  ·exact g j h'
  ·exact h
 refine jZ func33 call33 λC hC hGL=> ?_;refine cut hC hGL [(1,.rop [.str nm,.list 1 vs.length (aE vs)] 0)] [] True ?_ λ_=> ?_
 ·exact bK
 refine cut hC hGL [(1,.rop [.str nm,.list 1 vs.length (aE vs)] 0)] [] True ?_ λ_=> ?_
 ·exact bK
 refine cut hC hGL [(1,.rop [.str nm,.list 1 vs.length (aE vs)] 0),(3,.str n)] [] True ?_ λ_=> ?_
 ·exact bK
 refine cut hC hGL [(1,.rop [.str nm,.list 1 vs.length (aE vs)] 0),(3,.str n)] [] True ?_ λ_=> ?_
 ·cases h6:jw n with
  |true=>
   rw[h6] at hS hs;have hl1:vs.length=1:=Classical.not_not.1 λg=>hs ⟨rfl,g⟩;exact bK
  |false=>
   rw[h6] at hS;exact bK
 refine aI hC hGL (aZ ?_);intros;refine lp hC hGL (λk:Nat=>[(3,.str n),(28,.list 1 vs.length (aE vs)),(29,.int .i64 (vs.length:Int)),(30,.int .i64 (k:Int))]) (λ_=>[]) (λk=>k<=vs.length/\∀j,j<k->tQ n (vs.getD j [])=true) (λk=>vs.length-k) 0 ⟨Nat.zero_le _,λj h=>absurd h (Nat.not_lt_zero _)⟩ ai rfl ?_;rintro k ⟨hk1,hk2⟩;by_cases hk:k<vs.length
 ·have hl:=h2 k;have ok2:=λh=>ok1 hk h hk2;have bad:tQ n (vs.getD k [])=false->vs.all (tQ n)=false:=qe hk;have hLR:=iB hM (vs.getD k []) hl;have hFI:=jE (G:=G) (bM (vs.getD k [])).e (bM (vs.getD k [])).p;have hCN:=oZ hP (vs.getD k []) 100 (by decide);have hIS:=qO (G:=G) (vs.getD k []) (by omega);have hSP:=mv (G:=G) hM (vs.getD k []) 46 (by omega);have hCT:=λx=>oZ hP x 999 (Nat.le_refl _);have hlE:=EA (vs.getD k []);have hpE:=Ju (vs.getD k []);have hd:tQ n (vs.getD k [])=(if n=nLAN then(bM (vs.getD k [])).isNone else if n=nPRE then eu 100 (vs.getD k []) else if n=nTYP then isS (vs.getD k []) else if n=sT then kF (vs.getD k []) else true):=by unfold tQ;rfl
  cases Ox n with
  |one h=>
   have e:(if n=nLAN then(bM (vs.getD k [])).isNone else if n=nPRE then eu 100 (vs.getD k []) else if n=nTYP then isS (vs.getD k []) else if n=sT then kF (vs.getD k []) else true)=true:=by rcases h with rfl|rfl|rfl|rfl<;>rfl
   have e:=ok2 (hd.trans e);rcases h with rfl|rfl|rfl|rfl
   all_goals
    refine aZ ?_;intros;exact db (k+1) ⟨by omega,e⟩ (by omega) ai rfl
  |lan h=>
   subst h;cases hc:(bM (vs.getD k [])).isNone with
   |true=>
    rw[hc] at hlE;rw[<-hlE] at hFI;refine aZ ?_;intros;exact db (k+1) ⟨by omega,ok2 (by rw[hd];exact hc)⟩ (by omega) ai rfl
   |false=>
    rw[hc] at hlE;rw[<-hlE] at hFI;rw[bad (by rw[hd];exact hc)];exact bK
  |pre h=>
   subst h;cases hc:eu 100 (vs.getD k []) with
   |true=>
    rw[hc] at hCN;refine aZ ?_;intros;exact db (k+1) ⟨by omega,ok2 (by rw[hd];exact hc)⟩ (by omega) ai rfl
   |false=>
    rw[hc] at hCN;rw[bad (by rw[hd];exact hc)];exact bK
  |typ h=>
   subst h;cases hc:isS (vs.getD k []) with
   |true=>
    rw[hc] at hIS;refine aZ ?_;intros;exact db (k+1) ⟨by omega,ok2 (by rw[hd];exact hc)⟩ (by omega) ai rfl
   |false=>
    rw[hc] at hIS;rw[bad (by rw[hd];exact hc)];exact bK
  |pid h=>
   subst h;have hln:=gv 46 (vs.getD k []);have hpd:Jv (bq 46 (vs.getD k []))=(decide ((bq 46 (vs.getD k [])).length<=2)&&(bq 46 (vs.getD k [])).all (eu 999)):=by unfold Jv;rfl
   rw[hpE] at hpd;generalize bq 46 (vs.getD k [])=l at hln hpd hSP;refine aZ ?_;intros;refine lp hC hGL (λj:Nat=>[(3,.str sT),(6,.bool (decide (l.length<=2)&&(l.take j).all (eu 999))),(28,.list 1 vs.length (aE vs)),(29,.int .i64 (vs.length:Int)),(30,.int .i64 (k:Int)),(55,.list 1 l.length (aE l)),(56,.int .i64 (l.length:Int)),(57,.int .i64 (j:Int))]) (λ_=>[]) (λj=>j<=l.length) (λj=>l.length-j) 0 (Nat.zero_le _) ⟨rfl,?_,rfl,rfl,rfl,rfl,rfl,rfl,trivial⟩ rfl ?_
   ·show Env.get _ 6=_;rw[List.take_zero,List.all_nil,Bool.and_true];exact congrArg (λz=>some (AVal.bool z)) (by unfold lP;rw[<-decide_not];exact decide_eq_decide.2 (by omega))
   intro j hj;by_cases hjl:j<l.length
   ·have hC1:=hCT (l.getD j []);have e2:(l.take (j+1)).all (eu 999)=((l.take j).all (eu 999)&&eu 999 (l.getD j [])):=by
     rw[List.take_succ_eq_append_getElem hjl,List.all_append,List.getD_eq_getElem?_getD,List.getElem?_eq_getElem hjl];simp
    cases hb:(decide (l.length<=2)&&(l.take j).all (eu 999)) with
    |true=>
     refine aZ ?_;intros;refine db (j+1) (by omega) (by omega) ⟨rfl,?_,rfl,rfl,rfl,rfl,rfl,rfl,trivial⟩ rfl;rw[e2,<-Bool.and_assoc,hb];rfl
    |false=>
     refine aZ ?_;intros;refine db (j+1) (by omega) (by omega) ⟨rfl,?_,rfl,rfl,rfl,rfl,rfl,rfl,trivial⟩ rfl;rw[e2,<-Bool.and_assoc,hb];rfl
   ·obtain rfl:j=l.length:=by omega
    rw[List.take_length,<-hpd];cases hc:kF (vs.getD k []) with
    |true=>
     refine aZ ?_;intros;exact db (k+1) ⟨by omega,ok2 (by rw[hd];exact hc)⟩ (by omega) ai rfl
    |false=>
     rw[bad (by rw[hd];exact hc)];exact bK
  |els h3 h4 h5 h6 h7 h8 h9 h10=>
   have e:=ok2 (by rw[hd,if_neg h7,if_neg h8,if_neg h9,if_neg h10]);refine aZ ?_;intros;exact db (k+1) ⟨by omega,e⟩ (by omega) ai rfl
 ·rw[su λj hj=>hk2 j (by omega)];exact bK
end
end Go.Proofs.YtmdhmodenkjmdaaGreatDoor
