/- Parts of the proof of jcardTells_card: Rub, Deh, Slc, Dfx, Ruc, Rud, Rue, Ruf, Rug, Rva, Ruj, Fta, Ftb, Lao. -/
import Derived.Lib.LaidTab
import Derived.Lib.AtoiAll
import Derived.Test.YtdpbejofgemloaaGreatDoorBag
import Derived.Test.YtdpbejofgemloaaGreatDoorBae
import Derived.Test.YtdpbejofgemloaaGreatDoorBaf
import Derived.Test.YtdpbejofgemloaaGreatDoorBad
set_option linter.unusedVariables false
set_option linter.unusedSimpArgs false
set_option linter.unusedSectionVars false
namespace Go.Proofs.YtdpbejofgemloaaGreatDoor
set_option maxRecDepth 20000
set_option maxHeartbeats 4000000
section
open Go Go.RowKit
theorem uX {s:List UInt8}{j:Nat}{c:UInt8}(hj:j<s.length)(h:c∉s):(aa s j:Int)≠(c.toNat:Int):=by
 intro e
 apply h
 have e1:aa s j=(s[j]).toNat:=by simp[aa,List.getD,hj]
 have e2:(s[j]).toNat=c.toNat:=by rw[←e1];omega
 rw[←UInt8.toNat_inj.1 e2]
 exact List.getElem_mem hj
theorem Cl {r t:List UInt8}{c:UInt8}(h:c∉r):idxB (r++c::t) (c.toNat:Int)=(r.length:Nat):=by
 refine rT (by simp) ?_ fun j hj=> ?_
 ·simp[aa,List.getD]
 ·have:=uX hj h
  rwa [show aa (r++c::t) j=aa r j by simp[aa,List.getD,List.getElem?_append_left hj]]
theorem Ea {r:List UInt8}{c:UInt8}(h:c∉r):idxB r (c.toNat:Int)= -1:=qp fun j hj=>uX hj h
/-! ## Yields in another order of what is owned -/
theorem qQ {P:Program}{G:Glo}{L:Nat}{avs:List AVal}{H:Heap}{Q Q':Bool→Heap→Prop}(h:ij P G L avs H Q)(hq:∀b H',Q b H'→∃H2,H'.Perm H2∧Q' b H2):ij P G L avs H Q':=by
 intro R w args hG hm ha
 obtain⟨fn,tm,ag,bd,hy,hr⟩:=h R w args hG hm ha
 exact⟨fn,tm,ag,bd,hy,hr.mono fun e w' ⟨b,H',R',q,er,hm'⟩=>let ⟨H2,hp,q'⟩:=hq _ _ q;⟨b,H2,R',q',er,hm'.perm hp⟩⟩
theorem AI {P:Program}[Tab P]{G:Glo}{L:Nat}{avs:List AVal}{H1 H2:Heap}{Q:Bool→Heap→Prop}(hp:H1.Perm H2)(h:ij P G L avs H1 Q):ij P G L avs H2 Q:=by
 have hb:∀k,k∈blks H2↔k∈blks H1:=fun k=>by
  have:=(hp.filterMap HEnt.blk).mem_iff (a:=k)
  exact this.symm
 intro R w args hG hm ha
 obtain⟨fn,tm,ag,bd,hy,hr⟩:=h R w args hG ((hm.perm hp.symm).blks_iff hb) ha
 exact⟨fn,tm,ag,bd,hy,hr.mono fun e w' ⟨b,H',R',q,er,hm'⟩=>⟨b,H',R',q,er,hm'.blks_iff fun k=>(hb k).symm⟩⟩
theorem Gg {P:Program}[Tab P]{G:Glo}{f:FuncId}{avs:List AVal}(H:Heap){X:Type}{N:X→Heap}{v v':X→AVal}(hs:ah P G f avs [] (fun r H'=>∃x,r= .ret (v x)∧H'=N x))(hv:∀x R u,Rel R (v x) u→Rel R (v' x) u):
  ah P G f avs H (fun r H'=>∃x,r= .ret (v' x)∧H'=H++N x):=by
 intro R w args hG hm ha
 rcases fe H hs R w args hG hm ha with⟨h1,h2⟩|⟨u,w',h1,res,H',R',⟨H1,⟨x,rfl,rfl⟩,rfl⟩,er,hm'⟩
 ·refine .inl ⟨h1,h2.mono ?_⟩
  rintro e w' ⟨res,H',R',⟨H1,⟨x,rfl,rfl⟩,rfl⟩,⟨y,e1,hr⟩,hm'⟩
  exact⟨.ret (v' x),_,R',⟨x,rfl,rfl⟩,⟨y,e1,hv x R' y hr⟩,hm'.perm List.perm_append_comm⟩
 ·obtain⟨y,e1,hr⟩:=er
  exact .inr ⟨u,w',h1,.ret (v' x),_,R',⟨x,rfl,rfl⟩,⟨y,e1,hv x R' y hr⟩,hm'.perm List.perm_append_comm⟩
theorem xh {P:Program}[Tab P]{G:Glo}{f:FuncId}{avs:List AVal}{H:Heap}{K Kp:AVal→Heap→Prop}{X:Type}{N:X→Heap}{v:X→AVal}(v':X→AVal)(hs:ah P G f avs [] (fun r H'=>∃x,r= .ret (v x)∧H'=N x))(hv:∀x R u,Rel R (v x) u→Rel R (v' x) u)(k:∀x,K (v' x) (H++N x)):Cx P G f avs H K Kp:=by
 refine .mk _ (Gg H hs hv) ?_ ?_
 ·rintro u H' ⟨x,e,rfl⟩;cases e;exact k x
 ·rintro u H' ⟨x,e,rfl⟩;cases e
abbrev sqS (b:Nat)(s:List UInt8):HEnt:=.cells b (some 9) [.str s]
abbrev sqI (b:Nat)(m:Int):HEnt:=.cells b (some 3) [.int .i64 m]
abbrev sqP (b:Nat):Value:=.pointer (some ⟨b,0,none⟩)
attribute [local irreducible] AWp AOps aa aA OrOk ad ah
attribute [local irreducible] AWpR ij
theorem mI {G:Glo}(s:List UInt8)(c:UInt8):FnIs Tryz.prog G 155 [.str s,.str [c]] (.int .i64 (idxB s (c.toNat:Int))):=by
 have k1:=kA (G:=G) s c
 have hGL:ad G []:=ab
 refine fn_x Tryz.func155 Tryz.call155 rfl rfl rfl rfl hGL ?_
 intro C hC
 exact xw0
theorem lE {G:Glo}(s:List UInt8)(c:UInt8):ah Tryz.prog G 134 [.str s,.str [c],.int .i64 0] []
  (fun r H=>∃x:Nat×Nat×Nat,r= .ret (.func (.func 168) [] [.own 1 (sqP x.2.1),.own 0 (sqP x.1),.own 2 (sqP x.2.2)])∧H=[sqS x.1 s,sqS x.2.1 [c],sqI x.2.2 0]):=by
 have hGL:ad G []:=ab
 refine fn_x Tryz.func134 Tryz.call134 rfl rfl rfl rfl hGL ?_
 intro C hC
 refine xb1 ?_
 intro b0 b1 b2
 intros
 exact⟨_,List.Sublist.refl _,(b0,b1,b2),rfl,rfl⟩
theorem f4 {G:Glo}(s:List UInt8)(c:UInt8):ah Tryz.prog G 82 [.str s,.str [c]] []
  (fun r H=>∃x:Nat×Nat×Nat,r= .ret (.func (.func 168) [] [.own 1 (sqP x.2.1),.own 0 (sqP x.1),.own 2 (sqP x.2.2)])∧H=[sqS x.1 s,sqS x.2.1 [c],sqI x.2.2 0]):=by
 have h1:=lE (G:=G) s c
 have hGL:ad G []:=ab
 refine fn_x Tryz.func82 Tryz.call82 rfl rfl rfl rfl hGL ?_
 intro C hC
 refine xn1 ?_
 refine xh (fun x:Nat×Nat×Nat=>.func (.func 168) [] [.own 1 (sqP x.2.1),.own 0 (sqP x.1),.own 2 (sqP x.2.2)]) h1 (fun _ _ _ h=>h) ?_
 rintro⟨b0,b1,b2⟩
 refine xn1 ?_
 exact⟨_,List.Sublist.refl _,(b0,b1,b2),rfl,rfl⟩
theorem jy {G:Glo}(L b0 b1 b2:Nat)(c:UInt8)(rows:List (List UInt8))(hne:0<rows.length)(hno:∀k,c∉rows.getD k [])(hlen:∀k,(cj c (rows.drop k)).length≤1000000){Y Z:Type}(J:Y→Heap)(E:Z→Heap)(Inv:Nat→Y→Prop)(y0:Y)(h0:Inv 0 y0)
  (hy:∀(k:Nat) (s':List UInt8) (y:Y),k<rows.length→Inv k y→ij Tryz.prog G L [.str (rows.getD k [])] (sqS b0 s'::sqS b1 [c]::sqI b2 0::J y) (fun b H'=>(b=true∧∃y',Inv (k+1) y'∧H'=sqS b0 s'::sqS b1 [c]::sqI b2 0::J y')∨(b=false∧∃z,H'=sqS b0 s'::sqS b1 [c]::sqI b2 0::E z))):
  ah Tryz.prog G 168 [.func (.yield L) [] [],.own 1 (sqP b1),.own 0 (sqP b0),.own 2 (sqP b2)] (sqS b0 (cj c rows)::sqS b1 [c]::sqI b2 0::J y0)
   (fun r H'=>r= .ret (.tuple [])∧∃s',(∃y,Inv rows.length y∧H'=sqS b0 s'::sqS b1 [c]::sqI b2 0::J y)∨∃z,H'=sqS b0 s'::sqS b1 [c]::sqI b2 0::E z):=by
 have k1:=fun s=>mI (G:=G) s c
 have hGL:ad G []:=ab
 refine fn_a Tryz.func168 Tryz.call168 rfl rfl rfl rfl ?_
 intro C hC
 refine cut hC hGL [(0,.func (.yield L) [] []),(1,.own 1 (sqP b1)),(2,.own 0 (sqP b0)),(3,.own 2 (sqP b2))] (sqS b0 (cj c rows)::sqS b1 [c]::sqI b2 0::J y0) True xn0 fun _=> ?_
 refine bq (cX (iR (X:=Nat×Y) (fun x=>[(0,.func (.yield L) [] []),(1,.own 1 (sqP b1)),(2,.own 0 (sqP b0)),(3,.own 2 (sqP b2))]) (fun x=>sqS b0 (cj c (rows.drop x.1))::sqS b1 [c]::sqI b2 0::J x.2) (fun x=>x.1<rows.length∧Inv x.1 x.2) (fun x=>rows.length-x.1) (0,y0) ⟨hne,h0⟩ ae (List.Sublist.refl _) ?_))
 rintro⟨k,y⟩ ⟨hk,hI⟩
 dsimp only at hk hI ⊢
 refine cX ?_
 by_cases hl:k+1<rows.length
 ·have e1:=wB (c:=c) hl
  have hi:=Cl (r:=rows.getD k []) (t:=cj c (rows.drop (k+1))) (hno k)
  have hln:=hlen k
  rw[←e1] at hi
  have k2:=k1 (cj c (rows.drop k))
  rw[hi] at k2
  have hy1:=hy k (cj c (rows.drop k)) y hk hI
  have e3:(cj c (rows.drop k)).take (rows.getD k []).length=rows.getD k []:=by rw[e1,List.take_left]
  have e4:(cj c (rows.drop k)).drop ((rows.getD k []).length+1)=cj c (rows.drop (k+1)):=by
   rw[e1,←List.drop_drop,List.drop_left];rfl
  have e5:(rows.getD k []).length+1≤(cj c (rows.drop k)).length:=by rw[e1];simp
  generalize hsr:cj c (rows.drop k)=s at*
  generalize hr:rows.getD k []=r at*
  refine cut hC hGL [(0,.func (.yield L) [] []),(1,.own 1 (sqP b1)),(2,.own 0 (sqP b0)),(3,.own 2 (sqP b2)),(7,.int .i64 (r.length:Nat))] (sqS b0 s::sqS b1 [c]::sqI b2 0::J y) True xn0 fun _=> ?_
  refine cut hC hGL [(0,.func (.yield L) [] []),(1,.own 1 (sqP b1)),(2,.own 0 (sqP b0)),(3,.own 2 (sqP b2)),(7,.int .i64 (r.length:Nat))] (sqS b0 s::sqS b1 [c]::sqI b2 0::J y) True xn0 fun _=> ?_
  refine cut hC hGL [(0,.func (.yield L) [] []),(1,.own 1 (sqP b1)),(2,.own 0 (sqP b0)),(3,.own 2 (sqP b2)),(7,.int .i64 (r.length:Nat)),(8,.str (s.take r.length))] (sqS b0 s::sqS b1 [c]::sqI b2 0::J y) True xn0 fun _=> ?_
  rw[e3]
  refine bq (bq (vj 2 hC hGL rfl rfl (by kernel_rfl) ?_))
  refine xn1 ?_
  refine⟨L,_,rfl,rfl,qQ hy1 ?_⟩
  rintro b H' (⟨rfl,y',hy',rfl⟩|⟨rfl,z,rfl⟩)
  ·refine⟨_,List.Perm.refl _,?_⟩
   refine xn1 ?_
   refine ap hC hGL (xn1 ?_)
   refine ap hC hGL (xn1 ?_)
   rw[aR]
   refine⟨(k+1,y'),⟨hl,hy'⟩,by show rows.length-(k+1)<rows.length-k;omega,ae,?_⟩
   show List.Sublist (sqS b0 (cj c (rows.drop (k+1)))::sqS b1 [c]::sqI b2 0::J y') _
   rw[←e4]
   exact List.Sublist.refl _
  ·refine⟨_,List.Perm.refl _,?_⟩
   refine xn1 ?_
   refine ap hC hGL (xn1 ?_)
   exact⟨_,List.Sublist.refl _,rfl,s,.inr ⟨z,rfl⟩⟩
 ·have e1:=wA (c:=c) (l:=rows) (k:=k) (by omega)
  have hi:=Ea (hno k)
  rw[←e1] at hi
  have k2:=k1 (cj c (rows.drop k))
  rw[hi] at k2
  have hy1:=hy k (cj c (rows.drop k)) y hk hI
  rw[←e1] at hy1
  have hkl:k+1=rows.length:=by omega
  generalize cj c (rows.drop k)=s at*
  refine cut hC hGL [(0,.func (.yield L) [] []),(1,.own 1 (sqP b1)),(2,.own 0 (sqP b0)),(3,.own 2 (sqP b2)),(7,.int .i64 (-1))] (sqS b0 s::sqS b1 [c]::sqI b2 0::J y) True xn0 fun _=> ?_
  refine ap hC hGL (xn1 ?_)
  intro _
  refine⟨fun h=>absurd h (by decide),fun _=>⟨fun _=> ?_,fun h=>absurd rfl h⟩⟩
  refine vj 2 hC hGL rfl rfl (by kernel_rfl) ?_
  refine xn1 ?_
  refine⟨L,_,rfl,rfl,qQ hy1 ?_⟩
  rintro b H' (⟨rfl,y',hy',rfl⟩|⟨rfl,z,rfl⟩)
  ·refine⟨_,List.Perm.refl _,?_⟩
   refine xn1 ?_
   rw[hkl] at hy'
   exact⟨_,List.Sublist.refl _,rfl,s,.inl ⟨y',hy',rfl⟩⟩
  ·refine⟨_,List.Perm.refl _,?_⟩
   refine xn1 ?_
   exact⟨_,List.Sublist.refl _,rfl,s,.inr ⟨z,rfl⟩⟩
end
section
open Go Go.RowKit
theorem jK {α β:Type}{f:α→Option β}{x y:α}(hf:f y=f x):∀{h:List α} {i:Nat},h[i]? =some x→(h.set i y).filterMap f=h.filterMap f
 |[],i,e=>by simp at e
 |z::h,0,e=>by
  simp only[List.getElem?_cons_zero,Option.some.injEq] at e
  subst e
  simp[List.filterMap_cons,hf]
 |z::h,i+1,e=>by
  simp only[List.getElem?_cons_succ] at e
  simp only[List.set_cons_succ,List.filterMap_cons,jK hf e]
theorem MS.setEnt {C:Ctx}{R:Seal}{H:Heap}{w:World}{i:Nat}{x y:HEnt}(h:MS C R H w)(hi:H[i]? =some x)(hb:y.blk=x.blk)(hy:y.holds R w):MS C R (H.set i y) w:=by
 have hx:x∈H:=List.mem_of_getElem? hi
 have hm:∀z,z∈H.set i y→z∈H∨z=y:=fun z hz=>List.mem_or_eq_of_mem_set hz
 refine⟨h.sealed,h.ge,h.fresh,⟨fun z hz=> ?_,?_,fun z hz b hzb=> ?_⟩,fun z hz b hzb=> ?_,h.ext⟩
 ·rcases hm z hz with h1|rfl
  ·exact h.heap.holds z h1
  ·exact hy
 ·rw[jK hb hi];exact h.heap.nodup
 ·rcases hm z hz with h1|rfl
  ·exact h.heap.apart z h1 b hzb
  ·exact h.heap.apart x hx b (by rw[←hb];exact hzb)
 ·rcases hm z hz with h1|rfl
  ·exact h.own z h1 b hzb
  ·exact h.own x hx b (by rw[←hb];exact hzb)
theorem f7 {R:Seal}{a a':AVal}(ht:∀v,RelC R a [v]→RelC R a' [v]):∀{cs:List AVal} {vs:List Value} {p:Nat},RelL R cs vs→cs[p]? =some a→RelL R (cs.set p a') vs
 |[],_,_,_,e=>by simp at e
 |c::cs,_,0,⟨v,t,rfl,h1,h2⟩,e=>by
  simp only[List.getElem?_cons_zero,Option.some.injEq] at e
  subst e
  exact⟨v,t,rfl,ht v h1,h2⟩
 |c::cs,_,p+1,⟨v,t,rfl,h1,h2⟩,e=>by
  simp only[List.getElem?_cons_succ] at e
  exact⟨v,t,rfl,h1,f7 ht h2 e⟩
inductive CellTo (R:Seal) (p:Nat) (a':AVal):HEnt→HEnt→Prop
 |cells {b eT cs a} (hp:cs[p]? =some a) (ht:∀v,RelC R a [v]→RelC R a' [v]):CellTo R p a' (.cells b eT cs) (.cells b eT (cs.set p a'))
 |row {v eT sz n cs a} (hp:cs[p]? =some a) (ht:∀v,RelC R a [v]→RelC R a' [v]):CellTo R p a' (.row v eT sz n cs) (.row v eT sz n (cs.set p a'))
theorem CellTo.holds {R:Seal}{p:Nat}{a':AVal}{x y:HEnt}{w:World}(h:CellTo R p a' x y)(hx:x.holds R w):y.holds R w∧y.blk=x.blk:=by
 cases h with
 |cells hp ht=>
  obtain⟨C,e,fz,hb,hl,hf⟩:=hx
  exact⟨⟨C,e,fz,hb,f7 ht hl hp,hf⟩,rfl⟩
 |row hp ht=>
  rename_i v eT sz n cs a
  obtain⟨hlen,y⟩:=hx
  refine⟨⟨by rw[List.length_set];exact hlen,?_⟩,by cases v with|slice a l c=>cases a<;>rfl|_=>rfl⟩
  rcases y with⟨h1,h2⟩|⟨b,cap,C,e,fz,rfl,hb,hs,hn,hl,hf⟩
  ·exact .inl ⟨h1,h2⟩
  ·exact .inr ⟨b,cap,C,e,fz,rfl,hb,hs,hn,f7 ht hl hp,hf⟩
def To (C:Ctx)(n:Nat)(e:Env)(h:Heap)(e':Env)(h':Heap):Prop:=
 ∀R a w,MS C R h w→FS C.D n R e a→∃R',R.le R'∧MS C R' h' w∧FS C.D n R' e' a
section
variable {C:Ctx} {n:Nat} {e e' e'':Env} {h h' h'':Heap}
theorem aM (a:To C n e h e' h')(b:To C n e' h' e'' h''):To C n e h e'' h'':=fun R x w hm hf=>
 let ⟨R1,l1,m1,f1⟩:=a R x w hm hf
 let ⟨R2,l2,m2,f2⟩:=b R1 x w m1 f1
 ⟨R2,Seal.le_trans l1 l2,m2,f2⟩
theorem bm (hs:Env.sub e e')(hh:h'.Sublist h):To C n e h e' h':=fun R _ _ hm hf=>⟨R,Seal.le_refl R,hm.drop hh,hf.sub hs⟩
theorem Fs {k i:Nat}{v:Value}(hv:vAgg v=false)(hk:Env.get e k=some (.raw v)):To C n e h ((k,.own i v)::e) h:=fun R _ _ hm hf=>⟨R,Seal.le_refl R,hm,oD hv hk hf⟩
theorem d8 (sz:Nat):To C n e h e (h++[.row (.slice none 0 0) none sz 0 []]):=fun R a w hm hf=>by
 refine⟨R,Seal.le_refl R,MS.perm (H:=.row (.slice none 0 0) none sz 0 []::h) ?_ (List.perm_append_singleton _ h).symm,hf⟩
 refine⟨hm.sealed,hm.ge,hm.fresh,⟨fun z hz=> ?_,hm.heap.nodup,fun z hz b hb=> ?_⟩,fun z hz b hb=> ?_,hm.ext⟩
 ·rcases List.mem_cons.1 hz with rfl|hz
  ·exact⟨by simp,.inl ⟨rfl,rfl⟩⟩
  ·exact hm.heap.holds z hz
 ·rcases List.mem_cons.1 hz with rfl|hz
  ·cases hb
  ·exact hm.heap.apart z hz b hb
 ·rcases List.mem_cons.1 hz with rfl|hz
  ·cases hb
  ·exact hm.own z hz b hb
theorem cK {i p:Nat}{a':AVal}{x y:HEnt}(hi:h[i]? =some x)(hc:∀R,CellTo R p a' x y):To C n e h e (h.set i y):=fun R a w hm hf=>by
 obtain⟨h1,h2⟩:=(hc R).holds (hm.heap.holds x (List.mem_of_getElem? hi))
 exact⟨R,Seal.le_refl R,hm.setEnt hi h2 h1,hf⟩
theorem ft {i k p sz m:Nat}{v:Value}{eT:Option TypeId}{cs:List AVal}{x y:HEnt}(f:Nat→AVal)(hi:h[i]? =some (.row v eT sz m cs))(hk:(h.eraseIdx i)[k]? =some x)
  (hf:∀j,j<m→(f j).cells=(cs.drop (j*sz)).take sz∧(f j).plain=true) (hc:∀R,Rel R (.list sz m f) v→CellTo R p (.list sz m f) x y):To C n e h e ((h.eraseIdx i).set k y):=fun R a w hm hfs=>by
 obtain⟨R',hle,hm',hr⟩:=MS.seal_row (hm.perm (dJ hi)) hf
 obtain⟨h1,h2⟩:=(hc R' hr).holds (hm'.heap.holds x (List.mem_of_getElem? hk))
 exact⟨R',hle,hm'.setEnt hk h2 h1,hfs.mono hle⟩
theorem eg {R:Seal}{j sz m:Nat}{u v:Value}{f:Nat→AVal}(hr:Rel R (.list sz m f) v):RelC R (.own j v) [u]→RelC R (.list sz m f) [u]:=by
 rintro⟨e,_⟩
 simp only[List.cons.injEq,and_true] at e
 subst e
 exact aP hr rfl
theorem gI {R:Seal}{j:Nat}{u:Value}:RelC R (.raw (.slice none 0 0)) [u]→RelC R (.own j (.slice none 0 0)) [u]:=by
 intro e
 have e:[u]=[.slice none 0 0]:=e
 exact⟨e,rfl⟩
theorem eh {R:Seal}{sz:Nat}{f:Nat→AVal}{u:Value}:RelC R (.raw (.slice none 0 0)) [u]→RelC R (.list sz 0 f) [u]:=by
 intro e
 have e:[u]=[.slice none 0 0]:=e
 exact⟨none,0,e,Nat.le_refl _,.inl rfl⟩
end
section
variable {P:Program} [Tab P] {C:Ctx} {n:Nat} {env:Env} {H:Heap} {Q:AExit→Env→Heap→Prop} {G:Glo} {GL:List (Nat×List AVal)}
omit [Tab P] in
theorem B1 {c:Code}{e':Env}{h':Heap}(hto:To C n env H e' h')(k:Lp P C n c e' h' Q):Lp P C n c env H Q:=by
 refine⟨fun R a w hm hf=> ?_⟩
 obtain⟨R0,_,hm,hf⟩:=hto R a w hm hf
 exact k.h R0 a w hm hf
omit [Tab P] in
theorem ig {id:Nat}{ops:Array Oper}{e':Env}{h':Heap}(hto:To C n env H e' h')(k:Dw P C n id ops e' h' Q):Dw P C n id ops env H Q:=by
 refine⟨fun R a w hm hf=> ?_⟩
 obtain⟨R0,_,hm,hf⟩:=hto R a w hm hf
 exact k.h R0 a w hm hf
def Fi (res:ARes)(H:Heap)(v:AVal):Prop:=∀(C:Ctx) (R:Seal) (w:World) (e:Ending),MS C R H w→fT R res e→∃R',MS C R' [] w∧fT R' (.ret v) e
omit [Tab P] in
theorem gO {f:FuncId}{avs:List AVal}{H:Heap}{Qf:ARes→Heap→Prop}{v:AVal}(h:ah P G f avs H Qf)(hq:∀r H',Qf r H'→Fi r H' v):ah P G f avs H (fun r H'=>r= .ret v∧H'=[]):=by
 intro R w args hG hm ha
 rcases h R w args hG hm ha with⟨h1,h2⟩|⟨x,w',h1,res,H',R',q,er,hm'⟩
 ·exact .inl ⟨h1,h2.mono fun e w' ⟨res,H',R',q,er,hm'⟩=>let ⟨R2,m2,e2⟩:=hq _ _ q _ _ _ _ hm' er;⟨.ret v,[],R2,⟨rfl,rfl⟩,e2,m2⟩⟩
 ·obtain⟨R2,m2,e2⟩:=hq _ _ q _ _ _ _ hm' er
  exact .inr ⟨x,w',h1,.ret v,[],R2,⟨rfl,rfl⟩,e2,m2⟩
end
end
section
open Go Go.RowKit
theorem MS.seal_cells {C:Ctx}{R:Seal}{w:World}{H:Heap}{b:Nat}{eT:Option TypeId}{cs:List AVal}(h:MS C R (.cells b eT cs::H) w):
  ∃R',R.le R'∧MS C R' H w∧Rel R' (.rop cs 0) (.pointer (some ⟨b,0,none⟩)):=by
 obtain⟨Cs,el,fz,hb,hl,hfz⟩:=h.heap.holds _ (List.mem_cons_self ..)
 obtain⟨h1,h2⟩:=h.fixed (b:=b) rfl hb
 refine⟨_,h2,h1,⟨b,0,Cs,el,fz,rfl,Nat.le_refl _,Seal.put_at _ _ _,?_⟩,rfl⟩
 have hlen:=ay hl
 rw[Nat.sub_self,List.drop_zero,List.take_of_length_le (by omega)]
 exact bT h2 _ _ hl
abbrev ck:HEnt:=.row (.slice none 0 0) none 1 0 []
section
variable {P:Program} [Tab P] {C:Ctx} {n:Nat} {G:Glo} {GL:List (Nat×List AVal)} {e:Env} {h:Heap} {env:Env} {H:Heap} {Q:AExit→Env→Heap→Prop}
theorem bn {i k j b:Nat}{eT:Option TypeId}{cs:List AVal}(hi:h[i]? =some (.cells b eT cs))(hk:Env.get e k=some (.own j (.pointer (some ⟨b,0,none⟩)))):
  To C n e h ((k,.rop cs 0)::e) (h.set i ck):=fun R a w hm hf=>by
 obtain⟨R',hle,hm',hr⟩:=MS.seal_cells (hm.perm (dJ hi))
 refine⟨R',hle,(hm'.ghost 1).perm (eY ck hi),?_⟩
 have hf':=hf.mono hle
 refine⟨fun t x ht=> ?_,hf'.size,hf'.defers⟩
 simp only[Env.get] at ht
 split at ht
 ·rename_i hb
  have:=Nat.eq_of_beq_eq_true hb
  subst this
  simp only[Option.some.injEq] at ht
  subst ht
  obtain⟨y,hy,hr'⟩:=hf'.fr k _ hk
  refine⟨y,hy,?_⟩
  rw[(aL.1 hr').1]
  exact hr
 ·exact hf'.fr t x ht
omit [Tab P] in
theorem fp {c:Code}{e':Env}{h':Heap}(hto:To C n env H e' h')(k:AWp P C n c e' h' Q):AWp P C n c env H Q:=fun R a w hm hf=>by
 obtain⟨R0,_,hm,hf⟩:=hto R a w hm hf
 exact k R0 a w hm hf
def owns:List (Nat×Nat×Value)→Env→Env
 |[],e=>e
 |(s,i,v)::t,e=>(s,.own i v)::owns t e
def xI:List (Nat×Nat×Value)→Env→Prop
 |[],_=>True
 |(s,_,v)::t,e=>(Env.get (owns t e) s=some (.raw v)∧vAgg v=false)∧xI t e
theorem yJ {D:List Deferred}{R:Seal}{a:Act}:∀{os:List (Nat×Nat×Value)} {e:Env},xI os e→FS D n R e a→FS D n R (owns os e) a
 |[],_,_,h=>h
 |(_,_,_)::_,_,⟨⟨h1,h2⟩,h3⟩,h=>oD h2 h1 (yJ h3 h)
theorem Gf (os:List (Nat×Nat×Value)){f:FuncId}{fn:Func}{c:Code}{avs:List AVal}{Qf:ARes→Heap→Prop}{rs:List ResultVar}(hf:P.funcs[f]? =some fn)
  (hc:∀args w,(callFunc f args).run P w= .ok (.enter f args) w) (hb:fn.body=some c) (hn:fn.ntmps=n) (hrs:fn.results=rs.toArray) (hlen:Nat.ble avs.length n=true) (ho:xI os (di 0 avs))
  (h:∀C:Ctx,C.G=G→AWp P C n c (owns os (di 0 avs)) H (RetX P rs Qf)):ah P G f avs H Qf:=
 k8 hf hb hc hn hrs hlen fun w0 R0 hG=>AWp.mono (xD (fun _ _ hf=>yJ ho hf) (h ⟨w0,R0,blks H,G,hG,[]⟩ rfl)) fun _ _ _ q=>fI q
end
end
section
open Go Go.RowKit
def p6:List Nat→Heap→Heap
 |[],_=>[]
 |i::is,H=>match H[i]? with
  |some x=>x::p6 is (H.eraseIdx i)
  |none=>[]
def mt:List Nat→Heap→Heap
 |[],H=>H
 |i::is,H=>match H[i]? with
  |some _=>mt is (H.eraseIdx i)
  |none=>H
theorem i7:∀(is:List Nat) (H:Heap),H.Perm (p6 is H++mt is H)
 |[],H=>List.Perm.refl _
 |i::is,H=>by
  unfold p6 mt
  cases h:H[i]? with
  |none=>exact List.Perm.refl _
  |some x=>
   have h1:=dJ h
   exact h1.trans ((i7 is (H.eraseIdx i)).cons x)
theorem Ev (is:List Nat){P:Program}[Tab P]{G:Glo}{f:FuncId}{avs:List AVal}{H H1:Heap}{K Kp:AVal→Heap→Prop}{Qf:ARes→Heap→Prop}(hs:ah P G f avs H1 Qf)(e1:p6 is H=H1)
  (kr:∀v H1',Qf (.ret v) H1'→∃H2,p6 is H2=H1'∧mt is H2=mt is H∧K v H2) (kp:∀v H1',Qf (.panic v) H1'→∃H2,p6 is H2=H1'∧mt is H2=mt is H∧Kp v H2):Cx P G f avs H K Kp:=by
 subst e1
 have h1:=dV (i7 is H).symm (fe (mt is H) hs)
 refine⟨fun r H'=>match r with|.ret v=>K v H'|.panic v=>Kp v H',dW h1 ?_,fun v H' h=>h,fun v H' h=>h⟩
 rintro r H' ⟨H1',q,rfl⟩
 cases r with
 |ret v=>
  obtain⟨H2,g1,g2,k⟩:=kr v H1' q
  refine⟨H2,?_,k⟩
  have:=i7 is H2
  rw[g1,g2] at this
  exact this.symm
 |panic v=>
  obtain⟨H2,g1,g2,k⟩:=kp v H1' q
  refine⟨H2,?_,k⟩
  have:=i7 is H2
  rw[g1,g2] at this
  exact this.symm
theorem lB {R R':Seal}{a a' b:AVal}{x:Value}(hle:R.le R')(h:Rel R (.tuple [a,b]) x)(ht:∀v,Rel R a v→Rel R' a' v):Rel R' (.tuple [a',b]) x:=by
 obtain⟨⟨ws,e,u,t,e1,hu,u2,t2,e2,hu2,rfl⟩,h2⟩:=h
 have k:=ht u ⟨hu.1,hu.2⟩
 have k2:=eb hle (show Rel R b u2 from⟨hu2.1,hu2.2⟩)
 exact⟨⟨ws,e,_,_,e1,⟨k.1,k.2⟩,_,_,e2,⟨k2.1,k2.2⟩,rfl⟩,h2⟩
theorem o9 {R R':Seal}{cs:List AVal}{p:Nat}{a a':AVal}{v:Value}(hle:R.le R')(h:Rel R (.agg cs) v)(hp:cs[p]? =some a)(ht:∀v,RelC R' a [v]→RelC R' a' [v]):Rel R' (.agg (cs.set p a')) v:=
 ⟨f7 ht (bT hle _ _ h.1) hp,h.2⟩
section
variable {P:Program} [Tab P] {C:Ctx} {n:Nat} {env:Env} {H:Heap} {Q:List Deferred→AExit→Env→Heap→Prop} {G:Glo} {GL:List (Nat×List AVal)}
theorem fo {a b:Code}{X:Type}(hC:C.G=G)(hGL:ad G GL)(I:X→Env)(J:X→Heap)(Inv:X→Prop)(h1:dG P C n G GL a env H (cR (fun e h=>Cy I J Inv e h) (Q C.D)))(h2:∀x,Inv x→AWpD P C n b (I x) (J x) Q):AWpD P C n (.seq a b) env H Q:=by
 refine gT (C6 ((bI hC hGL _ _ _ _ h1).mono fun x e h q=> ?_))
 cases x with
 |normal=>
  obtain⟨y,hy,hs,rfl⟩:=q.h
  exact fun R a w hm hf=>h2 y hy R a w hm (hf.sub hs)
 |exit i=>exact q
 |goto i=>exact q
 |ret=>exact q
 |panic v=>exact q
end
end
section
open Go Go.RowKit
theorem Gx {P:Program}{C:Ctx}{n:Nat}{c:Code}{env env':Env}{H H':Heap}{Q:List Deferred→AExit→Env→Heap→Prop}(hto:To C n env H env' H')(h:AWpD P C n c env' H' Q):AWpD P C n c env H Q:=fun R a w hm hf=>by
 obtain⟨R',hle,hm',hf'⟩:=hto R a w hm hf
 exact h R' a w hm' hf'
theorem k9 {P:Program}{G:Glo}{f:FuncId}{avs avs':List AVal}{H:Heap}{Qf:ARes→Heap→Prop}(h:ah P G f avs H Qf)(ha:∀R vs,RelV R avs' vs→RelV R avs vs):ah P G f avs' H Qf:=
 fun R w args hG hm h2=>h R w args hG hm (ha R _ h2)
def pX (x:List UInt8×Rl):Bool:= !(txtR x).contains 124&&decide ((cutB (txtR x) 32).1=x.1)&&(txtR x).all (fun c=>decide (c.toNat<128))&&decide ((txtR x).length≤60)&&
 decide (Lib.fields (txtR x)=[x.1,[digC x.2.t],[digC x.2.a],[digC x.2.b],[digC x.2.p]])&&decide (0≤x.2.t∧x.2.t<10∧0≤x.2.a∧x.2.a<10∧0≤x.2.b∧x.2.b<10∧0≤x.2.p∧x.2.p<10)
theorem kH {v:Int}(hv:v=3∨v=4):(rowV v).all pX=true∧(rowV v).length≤36∧0<(rowV v).length:=by
 rcases hv with rfl|rfl
 ·exact⟨by decide+kernel,by decide+kernel,by decide+kernel⟩
 ·exact⟨by decide+kernel,by decide+kernel,by decide+kernel⟩
theorem vV {v:Int}(hv:v=3∨v=4){k:Nat}(hk:k<(rowV v).length):pX (rowV v)[k]=true:=List.all_eq_true.1 (kH hv).1 _ (List.getElem_mem hk)
theorem gu {v:Int}{k:Nat}(hk:k<(rowV v).length):(tabR v).getD k []=txtR (rowV v)[k]:=by
 unfold tabR
 rw[List.getD_eq_getElem?_getD,List.getElem?_map,List.getElem?_eq_getElem hk]
 rfl
theorem ql (c:UInt8){m:Nat}:∀l:List (List UInt8),(∀x∈l,x.length≤m)→(cj c l).length≤l.length*(m+1)
 |[],_=>Nat.zero_le _
 |[x],h=>by
  have:=h x (List.mem_singleton.2 rfl)
  simp only[cj,List.length_cons,List.length_nil]
  omega
 |x::y::t,h=>by
  have h1:=h x (List.mem_cons_self ..)
  have ih:=ql c (m:=m) (y::t) fun z hz=>h z (List.mem_cons_of_mem _ hz)
  simp only[cj,List.length_append,List.length_cons] at ih ⊢
  rw[Nat.succ_mul]
  generalize (t.length+1)*(m+1)=z at*
  omega
theorem xV {v:Int}(hv:v=3∨v=4)(k:Nat):(cj 124 ((tabR v).drop k)).length≤1000000:=by
 have h1:=ql 124 (m:=60) ((tabR v).drop k) fun x hx=>by
  obtain⟨y,hy,rfl⟩:=List.mem_map.1 (List.mem_of_mem_drop hx)
  have:=List.all_eq_true.1 (kH hv).1 _ hy
  simp only[pX,Bool.and_eq_true,decide_eq_true_eq] at this
  exact this.1.1.2
 have h2:((tabR v).drop k).length≤36:=by
  have:=(kH hv).2.1
  unfold tabR
  rw[List.length_drop,List.length_map]
  omega
 have:=Nat.mul_le_mul_right (60+1) h2
 omega
theorem A0 {v:Int}(hv:v=3∨v=4)(k:Nat):(124:UInt8)∉(tabR v).getD k []:=by
 by_cases hk:k<(rowV v).length
 ·rw[gu hk]
  have:=vV hv hk
  simp only[pX,Bool.and_eq_true,Bool.not_eq_true',List.contains_eq_mem,decide_eq_false_iff_not] at this
  exact this.1.1.1.1.1
 ·rw[List.getD_eq_getElem?_getD,List.getElem?_eq_none (by unfold tabR;rw[List.length_map];omega)]
  simp
def nmV (v:Int):List (List UInt8):=(rowV v).map (·.1)
theorem DR {v:Int}{k:Nat}(hk:k<(rowV v).length):(nmV v).take (k+1)=(nmV v).take k++[(rowV v)[k].1]:=by
 unfold nmV
 rw[List.take_add_one,List.getElem?_map,List.getElem?_eq_getElem hk]
 rfl
abbrev nmB (b:Nat)(i:Nat)(v:Value):HEnt:=.cells b (some 26) [.own i v]
attribute [local irreducible] AWp AOps aa aA OrOk ad ah
attribute [local irreducible] AWpR ij AWpD LvM To tabR rowV nmV cutB
theorem mr {G:Glo}{v:Int}(hv:v=3∨v=4):FnIs Tryz.prog G 83 [.int .i64 v] (.str (tabS v)):=by
 rcases hv with rfl|rfl
 ·have hGL:ad G []:=ab
  refine fn_x Tryz.func83 Tryz.call83 rfl rfl rfl rfl hGL ?_
  intro C hC
  refine xw ?_
  repeat' (first|exact Le.n|refine Lc.mk ?_ ?_)
  all_goals intros
  all_goals first
   |exact absurd rfl (by assumption)
   |(apply ak;refine congrArg AVal.str ?_;decide+kernel)
 ·have hGL:ad G []:=ab
  refine fn_x Tryz.func83 Tryz.call83 rfl rfl rfl rfl hGL ?_
  intro C hC
  refine xw ?_
  repeat' (first|exact Le.n|refine Lc.mk ?_ ?_)
  all_goals intros
  all_goals first
   |(apply ak;refine congrArg AVal.str ?_;decide+kernel)
theorem rk {G:Glo}{v:Int}(hv:v=3∨v=4):ah Tryz.prog G 46 [.int .i64 v] [] (fun r H=>∃va,r= .ret (.tuple [.own 4 va,.raw .nilIface])∧H=[.row va none 1 (nmV v).length (aS (nmV v))]):=by
 have hGL:ad G []:=ab
 have hT:=mr (G:=G) hv
 have hS:=f4 (G:=G) (tabS v) 124
 have hlen:(nmV v).length=(tabR v).length:=by unfold nmV tabR;rw[List.length_map,List.length_map]
 have hlr:(tabR v).length=(rowV v).length:=by unfold tabR;rw[List.length_map]
 have h36:=(kH hv).2
 refine fn_m (rs:=[.tmp 2,.tmp 3]) Tryz.func46 Tryz.call46 rfl rfl rfl rfl ?_
 intro C hC hD
 refine fo hC hGL (fun _:Unit=>[(0,.int .i64 v)]) (fun _=>[]) (fun _=>True) ?_ fun _ _=> ?_
 ·refine xn1 ?_
  exact cy () trivial
 refine fo hC hGL (fun _:Unit=>[(0,.int .i64 v)]) (fun _=>[]) (fun _=>True) ?_ fun _ _=> ?_
 ·refine xn ?_
  repeat' (first|exact Le.n|refine Lc.mk ?_ ?_)
  all_goals intros
  all_goals first
   |exact cy () trivial
   |(exfalso;omega)
 refine fo hC hGL (fun bo:Nat=>[(0,.int .i64 v),(4,.own 0 (sqP bo))]) (fun bo=>[.cells bo (some 26) [.raw (.slice none 0 0)]]) (fun _=>True) ?_ fun bo _=> ?_
 ·refine xn1 ?_
  intro bo
  intros
  exact cy bo trivial
 refine gT (fo hC hGL (fun x:Nat×Nat×Nat=>[(0,.int .i64 v),(4,.own 0 (sqP bo)),(18,.func (.func 168) [] [.own 2 (sqP x.2.1),.own 1 (sqP x.1),.own 3 (sqP x.2.2)])]) (fun x=>[.cells bo (some 26) [.raw (.slice none 0 0)],sqS x.1 (tabS v),sqS x.2.1 [124],sqI x.2.2 0]) (fun _=>True) ?_ ?_)
 ·refine xn1 ?_
  refine xh (fun x:Nat×Nat×Nat=>.func (.func 168) [] [.own 2 (sqP x.2.1),.own 1 (sqP x.1),.own 3 (sqP x.2.2)]) hS (fun _ _ _ h=>h) ?_
  rintro⟨b0,b1,b2⟩
  refine xn1 ?_
  exact cy (b0,b1,b2) trivial
 rintro⟨b0,b1,b2⟩-
 dsimp only
 refine qM (Gx (aM (d8 1) (cK (i:=0) (p:=0) (a':=.own 4 (.slice none 0 0)) rfl (fun R=>.cells rfl fun _=>gI))) ?_)
 refine qK rfl Tryz.call168 [(0,.int .i64 v),(4,.own 0 (sqP bo))] ae rfl ?_
 intro L D r hp ha hb hfs
 rw[hC]
 have hy:∀(k:Nat) (s':List UInt8) (y:List (List UInt8)×Value),k<(tabR v).length→y.1=(nmV v).take k→ij Tryz.prog G L [.str ((tabR v).getD k [])] (sqS b0 s'::sqS b1 [124]::sqI b2 0::[nmB bo 4 y.2,.row y.2 none 1 y.1.length (aS y.1),objD D,objL L r .ready none])
   (fun b H'=>(b=true∧∃y':List (List UInt8)×Value,y'.1=(nmV v).take (k+1)∧H'=sqS b0 s'::sqS b1 [124]::sqI b2 0::[nmB bo 4 y'.2,.row y'.2 none 1 y'.1.length (aS y'.1),objD D,objL L r .ready none])∨(b=false∧∃z:Empty,H'=sqS b0 s'::sqS b1 [124]::sqI b2 0::[])):=by
  rintro k s' ⟨ns,w⟩ hk hI
  dsimp only at hI ⊢
  have hk':k<(rowV v).length:=by omega
  have hro:=vV hv hk'
  simp only[pX,Bool.and_eq_true,decide_eq_true_eq] at hro
  have hcut:=mJ (G:=G) ((tabR v).getD k []) 32 (by rw[gu hk'];omega)
  have e1:(cutB ((tabR v).getD k []) 32).1=(rowV v)[k].1:=by rw[gu hk'];exact hro.1.1.1.1.2
  have hcut:FnIs Tryz.prog G 84 [.str ((tabR v).getD k []),.str [32]] (.tuple [.str (rowV v)[k].1,.str (cutB ((tabR v).getD k []) 32).2.1,.bool (cutB ((tabR v).getD k []) 32).2.2]):=by rw[←e1];exact hcut
  have hns:ns.length≤36:=by rw[hI,List.length_take];omega
  have e2:=DR hk'
  refine qQ (AI (H1:=[nmB bo 4 w,sqS b0 s',sqS b1 [124],sqI b2 0,.row w none 1 ns.length (aS ns),objD D,objL L r .ready none]) (List.perm_middle (l₁:=[sqS b0 s',sqS b1 [124],sqI b2 0]) (a:=nmB bo 4 w)).symm
   (AH (i:=6) (p:=19) (Qf:=fun b H'=>b=true∧∃w',H'=[nmB bo 4 w',sqS b0 s',sqS b1 [124],sqI b2 0,.row w' none 1 (ns++[(rowV v)[k].1]).length (aS (ns++[(rowV v)[k].1])),objD D,objL L r .ready none]) rfl hp (by kernel_rfl) hfs ?_)) ?_
  ·intro C2 hC2 hD2
   rw[ha]
   refine cV hC2 hGL (xn1 ?_)
   refine⟨rfl,6,rfl,?_⟩
   rw[hb]
   generalize (rowV v)[k].1=nm at*
   refine cV hC2 hGL (xn1 ?_)
   intro wa wk wc _
   refine⟨6,rfl,rfl,.slice wa wk wc,?_⟩
   rw[←co,List.length_append]
   rfl
  ·rintro b H' ⟨rfl,w',rfl⟩
   refine⟨_,(List.perm_middle (l₁:=[sqS b0 s',sqS b1 [124],sqI b2 0]) (a:=nmB bo 4 w')).symm,.inl ⟨rfl,(ns++[(rowV v)[k].1],w'),?_,rfl⟩⟩
   rw[e2,hI]
 have run:=jy (G:=G) L b0 b1 b2 124 (tabR v) (by omega) (A0 hv) (xV hv) (Y:=List (List UInt8)×Value) (Z:=Empty) (fun y=>[nmB bo 4 y.2,.row y.2 none 1 y.1.length (aS y.1),objD D,objL L r .ready none]) (fun _=>[]) (fun k y=>y.1=(nmV v).take k) ([],.slice none 0 0) rfl hy
 refine dW (dV (List.perm_middle (l₁:=[sqS b0 (tabS v),sqS b1 [124],sqI b2 0]) (a:=nmB bo 4 (.slice none 0 0))) (k9 run fun _ _ h=>h)) ?_
 rintro res H' ⟨rfl,s',⟨⟨ns,w⟩,hI,rfl⟩|⟨z,_⟩⟩
 ·refine⟨_,List.perm_middle (l₁:=[sqS b0 s',sqS b1 [124],sqI b2 0]) (a:=nmB bo 4 w),.tuple [],6,.ready,none,rfl,rfl,(fun h=>by cases h),?_⟩
  dsimp only at hI ⊢
  rw[←hlen,List.take_length] at hI
  subst hI
  show AWpD Tryz.prog _ _ _ _ _ _
  refine iQ (C:=withD C (colD D::C.D)) hC hGL (xn1 ?_)
  rw[show(withD C (colD D::C.D)).D=[colD D] from(by show colD D::C.D=_;rw[hD])]
  refine rN (i:=5) rfl (rM ?_)
  refine xn1 ?_
  exact⟨_,.cons _ (.cons _ (.cons _ (.cons _ (.cons_cons _ (List.nil_sublist _))))),w,rfl,rfl⟩
 ·exact z.elim
theorem tq {G:Glo}(v:Int):FnIs Tryz.prog G 46 [.int .i64 v] (.tuple [.list 1 (ar v).length (aq (ar v)),(verE v).A]):=by
 by_cases hv:v=3∨v=4
 ·have e1:ar v=nmV v:=by unfold ar nmV;rw[if_pos hv]
  have e2:verE v= .none:=by unfold verE;rw[if_pos hv]
  rw[e1,e2]
  exact ng (fun a=>.tuple [a,Err.none.A]) (BT _) (aq (nmV v)) (ea _) (cs:=aS (nmV v)) (eT:=none) ((rk hv).mono fun r H ⟨va,h1,h2⟩=>⟨_,va,h1,h2⟩)
 ·have e1:ar v=[]:=by unfold ar;rw[if_neg hv]
  have e2:verE v= .errno 1:=by unfold verE;rw[if_neg hv]
  rw[e1,e2]
  refine gO (H:=[]) (Qf:=fun r H=>r= .ret (.tuple [.raw (.slice none 0 0),(Err.errno 1).A])∧H=[]) ?_ (fun r H h=>by
   obtain⟨rfl,rfl⟩:=h
   rintro C R w e hm ⟨x,rfl,hx⟩
   exact⟨R,hm,x,rfl,lB (Seal.le_refl R) hx fun u hu=>by
    obtain rfl:=an.1 (show Rel R (.raw (.slice none 0 0)) u from hu)
    exact⟨⟨none,0,rfl,Nat.le_refl _,.inl rfl⟩,rfl⟩⟩)
  have hGL:ad G []:=ab
  refine fn_x Tryz.func46 Tryz.call46 rfl rfl rfl rfl hGL ?_
  intro C hC
  refine xw ?_
  repeat' (first|exact Le.n|refine Lc.mk ?_ ?_)
  all_goals intros
  all_goals first
   |(exfalso;omega)
   |(apply ak;rfl)
end
section
open Go Go.RowKit
def SpIs (G:Glo):Prop:=∀R,G.p R→∃e fz,R 0=some (.cells (Lib.asciiSpaceTab.map fun z=>Value.int .u8 z).toArray e fz)
theorem Ft {G:Glo}(hS:SpIs G){R:Seal}{w:World}(hG:G.p R)(hs:cJ R w):Lib.TabIs Tryz.prog w "strings.asciiSpace" .u8 Lib.asciiSpaceTab:=by
 obtain⟨e,fz,h⟩:=hS R hG
 have hb:=hs _ _ h
 unfold Lib.TabIs World.var?
 rw[show Tryz.prog.globalNamed "strings.asciiSpace" =some 0 by kernel_rfl]
 simp[hb]
theorem C9:∀d:Fin 10,Lib.atoiAll [UInt8.ofNat (48+d.val)]= .ok (d.val:Int):=by decide
attribute [local irreducible] AWp AOps aa aA OrOk ad ah
theorem lu {G:Glo}(d:Int)(h0:0≤d)(h1:d<10):FnIs Tryz.prog G 92 [.str [digC d]] (.tuple [.int .i64 d,.raw .nilIface]):=by
 have ha:=C9 ⟨d.toNat,by omega⟩
 have ed:((d.toNat:Nat):Int)=d:=by omega
 simp only[ed] at ha
 refine ia (.tuple #[.int .i64 d,.nilIface]) (fun R=>kJ (am.2 rfl) (an.2 rfl)) Tryz.call92 ?_
 intro R args hr w _ _
 obtain⟨x,t,e',hx,rfl⟩:=hr
 obtain rfl:=aE.1 hx
 obtain rfl:=eA e'
 refine(Tryz.strconv_Atoi_ok ⟨[digC d].toArray⟩ (by rw[ba];show 1≤9223372036854775806;omega) _ (by unfold digC;simpa using ha) w).mono ?_
 rintro e w' ⟨rfl,hw⟩
 refine⟨rfl,?_⟩
 rcases hw with rfl|⟨t,rfl⟩
 ·exact Below.refl _ _
 ·exact⟨rfl,rfl,rfl,by rw[Lib.bytesWorld_size];omega,fun k hk=>Lib.bytesWorld_at_old _ _ _ _ hk⟩
theorem wS {G:Glo}(hS:SpIs G)(H:Heap)(s:List UInt8)(hl:s.length<100000)(ha:∀(j:Nat) (b:UInt8),s[j]? =some b→b.toNat<128):
  ah Tryz.prog G 40 [.str s] H (fun r H'=>∃b,r= .ret (.own H.length (.slice (some ⟨b,0,none⟩) (Lib.fields s).length (Lib.fields s).length))∧H'=H++[.row (.slice (some ⟨b,0,none⟩) (Lib.fields s).length (Lib.fields s).length) (some 9) 1 (Lib.fields s).length (aS (Lib.fields s))]):=by
 refine iI Tryz.call40 (by rw[pQ,Nat.mul_one]) ?_
 rintro C R args ⟨x,t,e,hx,rfl⟩ w hG hm
 obtain rfl:=aE.1 hx
 obtain rfl:=eA e
 refine(Tryz.strings_Fields ⟨s.toArray⟩ w (by rw[ba];omega) (fun j b hb=>ha j b (by simpa using hb)) (Ft hS hG hm.sealed)).mono ?_
 rintro e w' ⟨rfl,rfl⟩
 refine⟨w,_,Below.refl _ _,rfl,rfl,?_,fun R=> ?_⟩
 ·simp
 ·have:=lP R (Lib.fields s)
  simpa using this
theorem mE {G:Glo}(hS:SpIs G)(s:List UInt8)(hl:s.length<100000)(ha:∀(j:Nat) (b:UInt8),s[j]? =some b→b.toNat<128):FnIs Tryz.prog G 40 [.str s] (.list 1 (Lib.fields s).length (aq (Lib.fields s))):=
 ng (fun a=>a) EY (aq (Lib.fields s)) (ea _) ((wS hS [] s hl ha).mono fun _ _ ⟨_,h1,h2⟩=>⟨_,_,h1,h2⟩)
end
section
open Go Go.RowKit
abbrev rlC (b:Nat)(r:Rl):HEnt:=.cells b (some 82) [.int .i64 r.t,.int .i64 r.a,.int .i64 r.b,.int .i64 r.p]
abbrev arC (b:Nat)(t a u p:Int):HEnt:=.cells b (some 153) [.int .i64 t,.int .i64 a,.int .i64 u,.int .i64 p]
abbrev erV (b:Nat):HEnt:=.cells b (some 36) [.raw .nilIface]
theorem pW {s:List UInt8}(h:(s.all fun c=>decide (c.toNat<128))=true):∀(j:Nat) (b:UInt8),s[j]? =some b→b.toNat<128:=fun j b hb=>by
 have:=List.all_eq_true.1 h b (List.mem_of_getElem? hb)
 simpa using this
theorem qx {s:List UInt8}:∀{l:List (List UInt8×Rl)} {k:Nat} (hk:k<l.length),(∀j (hj:j<l.length),j<k→l[j].1≠s)→l[k].1=s→cG s l=l[k].2
 |x::t,0,hk,_,h=>by
  have h:x.1=s:=h
  simp only[cG,if_pos h]
  rfl
 |x::t,k+1,hk,h0,h=>by
  have h1:=h0 0 (by simp) (Nat.succ_pos k)
  have h1:x.1≠s:=h1
  have ih:=qx (s:=s) (l:=t) (k:=k) (by simpa using hk) (fun j hj hjk=>by
   have:=h0 (j+1) (by simpa using hj) (by omega)
   simpa using this) (by simpa using h)
  simp only[cG,if_neg h1,ih]
  rfl
theorem uD {s:List UInt8}:∀{l:List (List UInt8×Rl)},(∀j (hj:j<l.length),l[j].1≠s)→cG s l=⟨8,0,0,0⟩
 |[],_=>rfl
 |x::t,h0=>by
  have h1:x.1≠s:=h0 0 (by simp)
  have ih:=uD (s:=s) (l:=t) (fun j hj=>by
   have:=h0 (j+1) (by simpa using hj)
   simpa using this)
  simp only[cG,if_neg h1,ih]
attribute [local irreducible] AWp AOps aa aA OrOk ad ah
attribute [local irreducible] AWpR ij AWpD LvM To tabR rowV nmV aj
theorem zq {G:Glo}(hS:SpIs G){v:Int}(hv:v=3∨v=4)(s:List UInt8)(hl:s.length≤1000000):FnIs Tryz.prog G 49 [.str s,.int .i64 v] (.tuple [(cG (aj 97 122 (-32) s) (rowV v)).A,.raw .nilIface]):=by
 have hGL:ad G []:=ab
 have hT:=mr (G:=G) hv
 have hSq:=f4 (G:=G) (tabS v) 124
 have hU:=dN (G:=G) s (by omega)
 have hcu:=Tryz.call48
 have hlr:(tabR v).length=(rowV v).length:=by unfold tabR;rw[List.length_map]
 have h36:=(kH hv).2
 generalize hup:aj 97 122 (-32) s=up at*
 refine fn_m (rs:=[.cell 4 82,.cell 5 36]) Tryz.func49 Tryz.call49 rfl rfl rfl rfl ?_
 intro C hC hD
 refine fo hC hGL (fun x:Nat×Nat×Nat=>[(1,.int .i64 v),(2,.own 0 (sqP x.1)),(4,.own 1 (sqP x.2.1)),(5,.own 2 (sqP x.2.2))]) (fun x=>[sqS x.1 s,rlC x.2.1 Rl.z,erV x.2.2]) (fun _=>True) ?_ ?_
 ·refine xb1 ?_
  intro b2 b4 b5
  intros
  exact cy (b2,b4,b5) trivial
 rintro⟨b2,b4,b5⟩-
 dsimp only
 refine fo hC hGL (fun _:Unit=>[(1,.int .i64 v),(2,.own 0 (sqP b2)),(4,.own 1 (sqP b4)),(5,.own 2 (sqP b5))]) (fun _=>[sqS b2 s,rlC b4 Rl.z,erV b5]) (fun _=>True) ?_ fun _ _=> ?_
 ·refine xn ?_
  repeat' (first|exact Le.n|refine Lc.mk ?_ ?_)
  all_goals intros
  all_goals first
   |exact cy () trivial
   |(exfalso;omega)
 refine gT (fo hC hGL (fun x:Nat×Nat×Nat=>[(1,.int .i64 v),(2,.own 0 (sqP b2)),(4,.own 1 (sqP b4)),(5,.own 2 (sqP b5)),(20,.func (.func 168) [] [.own 4 (sqP x.2.1),.own 3 (sqP x.1),.own 5 (sqP x.2.2)])]) (fun x=>[sqS b2 s,rlC b4 Rl.z,erV b5,sqS x.1 (tabS v),sqS x.2.1 [124],sqI x.2.2 0]) (fun _=>True) ?_ ?_)
 ·refine xn1 ?_
  refine xh (fun x:Nat×Nat×Nat=>.func (.func 168) [] [.own 4 (sqP x.2.1),.own 3 (sqP x.1),.own 5 (sqP x.2.2)]) hSq (fun _ _ _ h=>h) ?_
  rintro⟨b0,b1,b3⟩
  refine xn1 ?_
  exact cy (b0,b1,b3) trivial
 rintro⟨b0,b1,b3⟩-
 dsimp only
 refine qM ?_
 refine qK rfl Tryz.call168 [(1,.int .i64 v),(2,.own 0 (sqP b2)),(4,.own 1 (sqP b4)),(5,.own 2 (sqP b5))] ae rfl ?_
 intro L D r hp ha hb hfs
 rw[hC]
 have hy:∀(k:Nat) (s':List UInt8) (y:Unit),k<(tabR v).length→(∀j (hj:j<(rowV v).length),j<k→(rowV v)[j].1≠up)→ij Tryz.prog G L [.str ((tabR v).getD k [])] (sqS b0 s'::sqS b1 [124]::sqI b3 0::[sqS b2 s,rlC b4 Rl.z,erV b5,objD D,objL L r .ready none])
   (fun b H'=>(b=true∧∃_:Unit,(∀j (hj:j<(rowV v).length),j<k+1→(rowV v)[j].1≠up)∧H'=sqS b0 s'::sqS b1 [124]::sqI b3 0::[sqS b2 s,rlC b4 Rl.z,erV b5,objD D,objL L r .ready none])∨
    (b=false∧∃T:Heap,H'=sqS b0 s'::sqS b1 [124]::sqI b3 0::(sqS b2 s::rlC b4 (cG up (rowV v))::erV b5::objD D::objL L r .done (some .ret)::T))):=by
  intro k s' y hk hI
  have hk':k<(rowV v).length:=by omega
  have hro:=vV hv hk'
  simp only[pX,Bool.and_eq_true,decide_eq_true_eq] at hro
  have hF:=mE hS ((tabR v).getD k []) (by rw[gu hk'];omega) (by rw[gu hk'];exact pW hro.1.1.1.2)
  rw[gu hk',hro.1.2] at hF
  have hdg:=hro.2
  have a1:=lu (G:=G) (rowV v)[k].2.t hdg.1 hdg.2.1
  have a2:=lu (G:=G) (rowV v)[k].2.a hdg.2.2.1 hdg.2.2.2.1
  have a3:=lu (G:=G) (rowV v)[k].2.b hdg.2.2.2.2.1 hdg.2.2.2.2.2.1
  have a4:=lu (G:=G) (rowV v)[k].2.p hdg.2.2.2.2.2.2.1 hdg.2.2.2.2.2.2.2
  have hfind:(rowV v)[k].1=up→cG up (rowV v)=(rowV v)[k].2:=fun h=>qx hk' hI h
  have hnext:(rowV v)[k].1≠up→∀j (hj:j<(rowV v).length),j<k+1→(rowV v)[j].1≠up:=fun h j hj hjk=>by
   by_cases e:j=k
   ·subst e;exact h
   ·exact hI j hj (by omega)
  rw[gu hk']
  generalize (rowV v)[k]=row at*
  obtain⟨nm,t,a,b,p⟩:=row
  dsimp only at*
  have hperm:∀(x:HEnt) (rr:Rl) (T:Heap),(sqS b2 s::rlC b4 rr::erV b5::sqS b0 s'::sqS b1 [124]::sqI b3 0::T).Perm (sqS b0 s'::sqS b1 [124]::sqI b3 0::sqS b2 s::rlC b4 rr::erV b5::T):=fun _ rr T=>
   (List.perm_append_comm (l₁:=[sqS b2 s,rlC b4 rr,erV b5]) (l₂:=[sqS b0 s',sqS b1 [124],sqI b3 0])).append_right T
  refine qQ (AI (H1:=[sqS b2 s,rlC b4 Rl.z,erV b5,sqS b0 s',sqS b1 [124],sqI b3 0,objD D,objL L r .ready none]) (hperm (objD D) _ _)
   (AH (i:=7) (p:=21) (Qf:=fun bb H'=>(bb=true∧nm≠up∧H'=[sqS b2 s,rlC b4 Rl.z,erV b5,sqS b0 s',sqS b1 [124],sqI b3 0,objD D,objL L r .ready none])∨(bb=false∧nm=up∧∃T,H'=[sqS b2 s,rlC b4 ⟨t,a,b,p⟩,erV b5,sqS b0 s',sqS b1 [124],sqI b3 0,objD D,objL L r .done (some .ret)]++T)) rfl hp (by kernel_rfl) hfs ?_)) ?_
  ·intro C2 hC2 hD2
   rw[ha]
   refine cV hC2 hGL (xn1 ?_)
   refine⟨rfl,7,rfl,?_⟩
   rw[hb]
   refine mi (ss hC2 hGL (fun _:Unit=>[(1,.int .i64 v),(2,.own 0 (sqP b2)),(4,.own 1 (sqP b4)),(5,.own 2 (sqP b5)),(7,.list 1 5 (aq [nm,[digC t],[digC a],[digC b],[digC p]]))]) (fun _=>[sqS b2 s,rlC b4 Rl.z,erV b5,sqS b0 s',sqS b1 [124],sqI b3 0,objD D,objL L r .busy none]) (fun _=>True) ?_ fun _ _=> ?_)
   ·refine xn1 ?_
    intros
    exact cy () trivial
   refine nn (EE mixed hC2 hGL (by kernel_rfl) ?_)
   refine xn1 ?_
   refine cq hcu hU rfl ?_
   refine xn1 ?_
   refine vi rfl (fun h=> ?_) (fun h=> ?_)
   ·have hnu:nm=up:=aY.1 h
    refine ss hC2 hGL (fun b8:Nat=>[(4,.own 1 (sqP b4)),(5,.own 2 (sqP b5)),(7,.list 1 5 (aq [nm,[digC t],[digC a],[digC b],[digC p]])),(8,.own 8 (sqP b8))]) (fun b8=>[sqS b2 s,rlC b4 Rl.z,erV b5,sqS b0 s',sqS b1 [124],sqI b3 0,objD D,objL L r .busy none,arC b8 0 0 0 0]) (fun _=>True) ?_ fun b8 _=> ?_
    ·refine xn1 ?_
     intro b8
     intros
     exact cy b8 trivial
    refine nn (ss hC2 hGL (fun _:Unit=>[(4,.own 1 (sqP b4)),(5,.own 2 (sqP b5)),(7,.list 1 5 (aq [nm,[digC t],[digC a],[digC b],[digC p]])),(8,.own 8 (sqP b8)),(30,.int .i64 0)]) (fun _=>[sqS b2 s,rlC b4 Rl.z,erV b5,sqS b0 s',sqS b1 [124],sqI b3 0,objD D,objL L r .busy none,arC b8 0 0 0 0]) (fun _=>True) ?_ fun _ _=> ?_)
    ·refine xn1 ?_
     exact cy () trivial
    refine mi (xB 5 (rdsR (cV hC2 hGL (xn1 ?_))))
    intro _
    refine cV hC2 hGL (xn1 ?_)
    intro _
    refine cV hC2 hGL (xn1 ?_)
    intro _
    refine cV hC2 hGL (xn1 ?_)
    intro _
    refine cV hC2 hGL (xn1 ?_)
    intro _
    refine⟨fun _=> ?_,fun h=>absurd rfl h⟩
    refine cV hC2 hGL (xn1 ?_)
    exact⟨7,rfl,.inr ⟨rfl,hnu,[arC b8 t a b p],rfl⟩⟩
   ·refine cV hC2 hGL (xn1 ?_)
    refine⟨7,rfl,.inl ⟨rfl,fun e=> ?_,rfl⟩⟩
    have h:seqB nm up=false:=h
    rw[aY.2 e] at h
    cases h
  ·rintro b' H' (⟨rfl,hne,rfl⟩|⟨rfl,hnu,T,rfl⟩)
   ·exact⟨_,hperm (objD D) _ _,.inl ⟨rfl,(),hnext hne,rfl⟩⟩
   ·rw[hfind hnu]
    exact⟨_,hperm (objD D) _ _,.inr ⟨rfl,T,rfl⟩⟩
 have run:=jy (G:=G) L b0 b1 b3 124 (tabR v) (by omega) (A0 hv) (xV hv) (Y:=Unit) (Z:=Heap) (fun _=>[sqS b2 s,rlC b4 Rl.z,erV b5,objD D,objL L r .ready none]) (fun T=>sqS b2 s::rlC b4 (cG up (rowV v))::erV b5::objD D::objL L r .done (some .ret)::T) (fun k _=>∀j (hj:j<(rowV v).length),j<k→(rowV v)[j].1≠up) () (fun j hj h=>absurd h (Nat.not_lt_zero _)) hy
 have hperm:∀(s':List UInt8) (rr:Rl) (T:Heap),(sqS b0 s'::sqS b1 [124]::sqI b3 0::sqS b2 s::rlC b4 rr::erV b5::T).Perm (sqS b2 s::rlC b4 rr::erV b5::sqS b0 s'::sqS b1 [124]::sqI b3 0::T):=fun s' rr T=>
  (List.perm_append_comm (l₁:=[sqS b0 s',sqS b1 [124],sqI b3 0]) (l₂:=[sqS b2 s,rlC b4 rr,erV b5])).append_right T
 refine dW (dV (hperm _ _ _) (k9 run fun _ _ h=>h)) ?_
 rintro res H' ⟨rfl,s',⟨y,hI,rfl⟩|⟨T,rfl⟩⟩
 ·refine⟨_,hperm _ _ _,.tuple [],7,.ready,none,rfl,rfl,(fun h=>by cases h),?_⟩
  rw[uD fun j hj=>hI j hj (by omega)]
  show AWpD Tryz.prog _ _ _ _ _ _
  refine iQ (C:=withD C (colD D::C.D)) hC hGL (xn1 ?_)
  rw[show(withD C (colD D::C.D)).D=[colD D] from(by show colD D::C.D=_;rw[hD])]
  refine rN (i:=6) rfl (rM ?_)
  exact xn0
 ·refine⟨_,hperm _ _ _,.tuple [],7,.done,some .ret,rfl,rfl,(fun h=>by cases h),?_⟩
  show LvM _ _ _ _ _ (colD D::C.D) _ _ _
  rw[hD]
  refine rN (i:=6) rfl (rM ?_)
  exact xn0
theorem kG {G:Glo}(hS:SpIs G)(v:Int)(s:List UInt8)(hl:s.length≤1000000):FnIs Tryz.prog G 49 [.str s,.int .i64 v] (.tuple [(bf v s).A,(verE v).A]):=by
 by_cases hv:v=3∨v=4
 ·have e1:bf v s=cG (aj 97 122 (-32) s) (rowV v):=by unfold bf;rw[if_pos hv]
  have e2:verE v= .none:=by unfold verE;rw[if_pos hv]
  rw[e1,e2]
  exact zq hS hv s hl
 ·have e1:bf v s=Rl.z:=by unfold bf;rw[if_neg hv]
  have e2:verE v= .errno 1:=by unfold verE;rw[if_neg hv]
  rw[e1,e2]
  have hGL:ad G []:=ab
  refine fn_x Tryz.func49 Tryz.call49 rfl rfl rfl rfl hGL ?_
  intro C hC
  refine xb ?_
  repeat' (first|exact Le.n|refine Lc.mk ?_ ?_)
  all_goals intros
  all_goals intros
  all_goals first
   |(exfalso;omega)
   |(apply ak;rfl)
end
section
open Go Go.RowKit
theorem Gy {P:Program}{C:Ctx}{n:Nat}{c:Code}{env env':Env}{H H':Heap}{Q:AExit→Env→Heap→Prop}(hto:To C n env H env' H')(h:AWp P C n c env' H' Q):AWp P C n c env H Q:=fun R a w hm hf=>by
 obtain⟨R',hle,hm',hf'⟩:=hto R a w hm hf
 exact h R' a w hm' hf'
def rlL (r:Rl):AVal:=.list 1 4 (bc [(0,.int .i64 r.t),(1,.int .i64 r.a),(2,.int .i64 r.b),(3,.int .i64 r.p)])
def optA:Option Rl→AVal
 |none=>.raw (.slice none 0 0)
 |some r=>rlL r
def knAt (i:Nat):Kn:=knR.getD i ⟨[],none,none⟩
def knF (i:Nat):AVal:=.agg [.str (knAt i).n,optA (knAt i).o,optA (knAt i).w]
def knPs:List (Nat×AVal):=(List.range 36).map fun i=>(i,knF i)
theorem F1 {i:Nat}(h:i<36):bc knPs i=knF i:=by
 unfold bc knPs
 rw[List.getElem?_map,List.getElem?_range h]
 rfl
theorem uh {R:Seal}{sz n:Nat}{f g:Nat→AVal}{u:Value}(h:∀i,i<n→f i=g i):Rel R (.list sz n f) u→Rel R (.list sz n g) u:=by
 rintro⟨⟨a,cap,e,hle,y⟩,h2⟩
 refine⟨⟨a,cap,e,hle,?_⟩,h2⟩
 rcases y with y|⟨b,o,C,el,fz,ha,hR,hi⟩
 ·exact .inl y
 ·exact .inr ⟨b,o,C,el,fz,ha,hR,fun i hn=>by rw[←h i hn];exact hi i hn⟩
/-! Names whatever their letters. -/
def upB (c:UInt8):Bool:=decide ((65≤c.toNat∧c.toNat≤90)∨c.toNat=45)
theorem F0:(knR.all fun k=>k.n.all upB)=true:=by decide+kernel
theorem Ad {c d:UInt8}(hc:upB c=true):UInt8.ofNat (bO 65 90 32 c.toNat).toNat=UInt8.ofNat (bO 65 90 32 d.toNat).toNat↔c=UInt8.ofNat (bO 97 122 (-32) d.toNat).toNat:=by
 have hc:(65≤c.toNat∧c.toNat≤90)∨c.toNat=45:=by simpa[upB] using hc
 have h1:=c.toNat_lt
 have h2:=d.toNat_lt
 rw[←UInt8.toNat_inj,←UInt8.toNat_inj,UInt8.toNat_ofNat',UInt8.toNat_ofNat',UInt8.toNat_ofNat']
 unfold bO
 (repeat' split)<;>omega
theorem qu:∀{n s:List UInt8},n.all upB=true→(aj 65 90 32 n=aj 65 90 32 s↔n=aj 97 122 (-32) s)
 |[],[],_=>by simp[aj]
 |[],d::s,_=>by simp[aj]
 |c::n,[],_=>by simp[aj]
 |c::n,d::s,h=>by
  rw[List.all_cons,Bool.and_eq_true] at h
  have ih:=qu (n:=n) (s:=s) h.2
  have hb:=Ad (d:=d) h.1
  unfold aj at ih ⊢
  simp only[List.map_cons,List.cons.injEq]
  rw[ih,hb]
theorem D5 (i:Nat):(knAt i).n.all upB=true:=by
 unfold knAt
 by_cases h:i<knR.length
 ·rw[List.getD_eq_getElem?_getD,List.getElem?_eq_getElem h]
  exact List.all_eq_true.1 F0 _ (List.getElem_mem h)
 ·rw[List.getD_eq_getElem?_getD,List.getElem?_eq_none (by omega)]
  rfl
/-! What is found. -/
theorem qz {v:Int}{up:List UInt8}{r:Rl}:∀{l:List Kn} {k:Nat} (hk:k<l.length),(∀j (hj:j<l.length),j<k→(l[j].of v=none∨l[j].n≠up))→l[k].of v=some r→l[k].n=up→cG up (l.filterMap fun k=>(k.of v).map fun r=>(k.n,r))=r
 |x::t,0,hk,_,h1,h2=>by
  have h1:x.of v=some r:=h1
  have h2:x.n=up:=h2
  simp only[List.filterMap_cons,h1,Option.map_some,cG,if_pos h2]
 |x::t,k+1,hk,h0,h1,h2=>by
  have ih:=qz (l:=t) (k:=k) (by simpa using hk) (fun j hj hjk=>by
   have:=h0 (j+1) (by simpa using hj) (by omega)
   simpa using this) (by simpa using h1) (by simpa using h2)
  have h3:x.of v=none∨x.n≠up:=h0 0 (by simp) (Nat.succ_pos k)
  cases hx:x.of v with
  |none=>simp only[List.filterMap_cons,hx,Option.map_none,ih]
  |some r'=>
   rw[hx] at h3
   have h3:x.n≠up:=by rcases h3 with h|h;cases h;exact h
   simp only[List.filterMap_cons,hx,Option.map_some,cG,if_neg h3,ih]
theorem uH {v:Int}{up:List UInt8}:∀{l:List Kn},(∀j (hj:j<l.length),(l[j].of v=none∨l[j].n≠up))→cG up (l.filterMap fun k=>(k.of v).map fun r=>(k.n,r))=⟨8,0,0,0⟩
 |[],_=>rfl
 |x::t,h0=>by
  have ih:=uH (v:=v) (up:=up) (l:=t) (fun j hj=>by
   have:=h0 (j+1) (by simpa using hj)
   simpa using this)
  have h3:x.of v=none∨x.n≠up:=h0 0 (by simp)
  cases hx:x.of v with
  |none=>simp only[List.filterMap_cons,hx,Option.map_none,ih]
  |some r'=>
   rw[hx] at h3
   have h3:x.n≠up:=by rcases h3 with h|h;cases h;exact h
   simp only[List.filterMap_cons,hx,Option.map_some,cG,if_neg h3,ih]
theorem kV {i:Nat}(h:i<knR.length):knAt i=knR[i]:=by
 unfold knAt
 rw[List.getD_eq_getElem?_getD,List.getElem?_eq_getElem h]
 rfl
theorem fA:knR.length=36:=rfl
attribute [local irreducible] AWp AOps aa aA OrOk ad ah
theorem v8 {G:Glo}:FnIs Tryz.prog G 59 [] (.list 3 36 (bc knPs)):=by
 have hGL:ad G []:=ab
 refine fn_x Tryz.func59 Tryz.call59 rfl rfl rfl rfl hGL ?_
 intro C hC
 exact xw0
theorem p0 {G:Glo}:FnIs Tryz.prog G 59 [] (.list 3 36 knF):=
 gO v8 fun r H h=>by
  obtain⟨rfl,rfl⟩:=h
  rintro C R w e hm ⟨x,rfl,hx⟩
  exact⟨R,hm,x,rfl,uh (fun i h=>F1 h) hx⟩
theorem cT {G:Glo}(s t:List UInt8)(hl:s.length≤9223372036854775807)(hm:t.length≤9223372036854775807):FnIs Tryz.prog G 17 [.str s,.str t] (.bool (seqB (aj 65 90 32 s) (aj 65 90 32 t))):=by
 have h1:=f9 (G:=G) s hl
 have h2:=f9 (G:=G) t hm
 have hGL:ad G []:=ab
 refine fn_x Tryz.func17 Tryz.call17 rfl rfl rfl rfl hGL ?_
 intro C hC
 exact xw0
end
section
open Go Go.RowKit
abbrev kRl (b:Nat)(r:Rl):HEnt:=.cells b (some 82) [.int .i64 r.t,.int .i64 r.a,.int .i64 r.b,.int .i64 r.p]
abbrev kPt (b:Nat):Value:=.pointer (some ⟨b,0,none⟩)
section
variable {P:Program} [Tab P] {C:Ctx} {H:Heap} {env:Env}
theorem gC {sz m:Nat}{f:Nat→AVal}{x:Operand}{T ty e:TypeId}{xT:TI}(hx:ai env x=some (.list sz (m+1) f))(h1:tab P T=some xT)(h2:xT.desc= .slice e):RunV P C H env (.binOp .neq T x (.const (.slice none 0 0)) ty) (.bool true):=by
 intro R ρ w hm hf dst t p af g
 refine⟨_,?_,aH.2 rfl⟩
 obtain⟨a,cap,e1,_,y⟩:=aP (hf _ _ hx) rfl
 have e1:ρ x= .slice a (m+1) cap:=(List.cons.inj e1).1
 obtain⟨b,o,C0,el,fz,rfl,_⟩:=y.resolve_left (Nat.succ_ne_zero m)
 have hc:ρ (.const (.slice none 0 0))= .slice none 0 0:=an.1 (hf (.const (.slice none 0 0)) _ (cH env (.slice none 0 0)))
 obtain⟨h3,h4,h5⟩:=mc (R:=R) (x:=x) (w:=w) (av:=.raw (ρ x)) (c:=false) (z:=.slice none 0 0) (an.2 rfl) h1 (by rw[h2,e1];rfl) (by rw[h2];rfl)
 have h6:=h5 .neq (.inr rfl)
 rw[if_neg (by decide)] at h6
 simp only[execOp,hc,Sem.run_bind,h4,Result.andThen_ok,h6,h3,Sem.run_pure,Bool.not_false]
end
attribute [local irreducible] AWp AOps aa aA OrOk ad ah
attribute [local irreducible] aj knAt knR rowV To
theorem zG {G:Glo}{v:Int}(hv:v=3∨v=4)(s:List UInt8)(hl:s.length≤1000000):FnIs Tryz.prog G 36 [.str s,.int .i64 v] (.tuple [(cG (aj 97 122 (-32) s) (rowV v)).A,.int .i64 0]):=by
 have hGL:ad G []:=ab
 have hK:=p0 (G:=G)
 generalize hup:aj 97 122 (-32) s=up at*
 have hsame:∀k,k<36→FnIs Tryz.prog G 17 [.str (knAt k).n,.str s] (.bool (seqB (knAt k).n up)):=fun k hk=>by
  have h:=cT (G:=G) (knAt k).n s (by
   have:∀j,j<36→(knAt j).n.length≤100:=by decide+kernel
   have:=this k hk
   omega) (by omega)
  have e:seqB (aj 65 90 32 (knAt k).n) (aj 65 90 32 s)=seqB (knAt k).n up:=by
   rw[Bool.eq_iff_iff,aY,aY,qu (D5 k),hup]
  rwa [e] at h
 refine fn_a Tryz.func36 Tryz.call36 rfl rfl rfl rfl ?_
 intro C hC
 refine cuty hC hGL (fun b4:Nat=>[(0,.str s),(1,.int .i64 v),(4,.own 0 (kPt b4))]) (fun b4=>[kRl b4 Rl.z]) (fun _=>True) ?_ fun b4 _=> ?_
 ·refine xb1 ?_
  intro b4
  intros
  exact cy b4 trivial
 refine cut hC hGL [(0,.str s),(1,.int .i64 v),(4,.own 0 (kPt b4))] [kRl b4 Rl.z] True ?_ fun _=> ?_
 ·refine xn ?_
  repeat' (first|exact Le.n|refine Lc.mk ?_ ?_)
  all_goals intros
  all_goals first
   |exact Ct.w
   |(exfalso;omega)
 refine bq (cut hC hGL [(0,.str s),(1,.int .i64 v),(4,.own 0 (kPt b4)),(16,.list 3 36 knF),(17,.int .i64 (36:Nat)),(18,.int .i64 (0:Nat))] [kRl b4 Rl.z] True xn0 fun _=> ?_)
 refine cX (iR (X:=Nat) (fun k=>[(0,.str s),(1,.int .i64 v),(4,.own 0 (kPt b4)),(16,.list 3 36 knF),(17,.int .i64 (36:Nat)),(18,.int .i64 (k:Nat))]) (fun _=>[kRl b4 Rl.z]) (fun k=>k≤36∧∀j,j<k→((knAt j).of v=none∨(knAt j).n≠up)) (fun k=>36-k) 0 ⟨Nat.zero_le _,fun j h=>absurd h (Nat.not_lt_zero _)⟩ ae (List.Sublist.refl _) ?_)
 rintro k ⟨hk,hI⟩
 have hk:k≤36:=hk
 by_cases hlt:k<36
 ·have hs1:=hsame k hlt
  refine cut hC hGL [(0,.str s),(1,.int .i64 v),(4,.own 0 (kPt b4)),(16,.list 3 36 knF),(17,.int .i64 (36:Nat)),(18,.int .i64 (k:Nat)),(19,.bool (ltB (k:Int) (36:Nat)))] [kRl b4 Rl.z] True xn0 fun _=> ?_
  refine cut hC hGL [(0,.str s),(1,.int .i64 v),(4,.own 0 (kPt b4)),(16,.list 3 36 knF),(17,.int .i64 (36:Nat)),(18,.int .i64 (k:Nat))] [kRl b4 Rl.z] True ?_ fun _=> ?_
  ·refine xn ?_
   repeat' (first|exact Le.n|refine Lc.mk ?_ ?_)
   all_goals intros
   all_goals first
    |(intros;exact Ct.w)
    |(intros;exfalso;omega)
  rcases hkn:knAt k with⟨n,o,w⟩
  have hkF:knF k= .agg [.str n,optA o,optA w]:=by unfold knF;rw[hkn]
  rw[hkn] at hs1
  dsimp only at hs1
  have hnx:((knAt k).of v=none∨n≠up)→∀j,j<k+1→((knAt j).of v=none∨(knAt j).n≠up):=fun h j hj=>by
   by_cases e:j=k
   ·subst e;rw[hkn] at h ⊢;exact h
   ·exact hI j (by omega)
  rw[hkn] at hnx
  have hfound:∀r,(⟨n,o,w⟩:Kn).of v=some r→n=up→cG up (rowV v)=r:=fun r h1 h2=>by
   have e:=kV (i:=k) (by rw[fA];exact hlt)
   rw[hkn] at e
   unfold rowV
   exact qz (k:=k) (by rw[fA];exact hlt) (fun j hj hjk=>by have:=hI j hjk;rwa [kV hj] at this) (by rw[←e];exact h1) (by rw[←e];exact h2)
  rcases hv with rfl|rfl
  ·rcases o with _|o<;>rcases w with _|w
   all_goals
    refine ap hC hGL ?_
    (conv=>whnf)
    refine Ix.w ?_
    rw[hkF]
    refine xn ?_
    repeat' (first|exact Le.n|refine Lc.mk ?_ ?_)
    all_goals intros
    all_goals intros
    all_goals try exact⟨k+1,⟨by show k+1≤36;omega,hnx (.inl rfl)⟩,by show 36-(k+1)<36-k;omega,ae,aB⟩
    all_goals try exact⟨k+1,⟨by show k+1≤36;omega,hnx (.inr (by assumption))⟩,by show 36-(k+1)<36-k;omega,ae,aB⟩
   all_goals
    have hfd:=hfound o rfl (by assumption)
    refine aF hC hGL (gC (m:=3) rfl rfl rfl) rfl rfl ?_
    refine xn1 ?_
    refine dw_p mixed hC hGL false (fun(_:HEnt)=>[(4,.own 0 (kPt b4)),(5,.int .i64 0)]) (fun y=>[kRl b4 o,y]) (.take 0 (.take 1 (.take 2 (.take 3 (.take 4 (.take 5 (.take 6 (.take 7 (.take 8 (.take 9 (.take 10 (.take 11 (.br 12 (.br 13 (.take 14 (.done)) (.nil)) (.nil)))))))))))))) (by kernel_rfl) ?_ ?_
    ·refine xn ?_
     repeat' (first|exact Le.n|refine Lc.mk ?_ ?_)
     all_goals intros
     all_goals exact⟨_,ae,rfl⟩
    intro y
    refine xn1 ?_
    rw[hfd]
    exact ak rfl
  ·rcases o with _|o<;>rcases w with _|w
   all_goals
    refine ap hC hGL ?_
    (conv=>whnf)
    refine Ix.w ?_
    rw[hkF]
    refine xn ?_
    repeat' (first|exact Le.n|refine Lc.mk ?_ ?_)
    all_goals intros
    all_goals intros
    all_goals try exact⟨k+1,⟨by show k+1≤36;omega,hnx (.inl rfl)⟩,by show 36-(k+1)<36-k;omega,ae,aB⟩
    all_goals try exact⟨k+1,⟨by show k+1≤36;omega,hnx (.inr (by assumption))⟩,by show 36-(k+1)<36-k;omega,ae,aB⟩
   all_goals
    have hfd:=hfound w rfl (by assumption)
    refine aF hC hGL (gC (m:=3) rfl rfl rfl) rfl rfl ?_
    refine xn1 ?_
    refine dw_p mixed hC hGL false (fun(_:HEnt)=>[(4,.own 0 (kPt b4)),(5,.int .i64 0)]) (fun y=>[kRl b4 w,y]) (.take 0 (.take 1 (.take 2 (.take 3 (.take 4 (.take 5 (.take 6 (.take 7 (.take 8 (.take 9 (.take 10 (.take 11 (.br 12 (.br 13 (.take 14 (.done)) (.nil)) (.nil)))))))))))))) (by kernel_rfl) ?_ ?_
    ·refine xn ?_
     repeat' (first|exact Le.n|refine Lc.mk ?_ ?_)
     all_goals intros
     all_goals exact⟨_,ae,rfl⟩
    intro y
    refine xn1 ?_
    rw[hfd]
    exact ak rfl
 ·obtain rfl:k=36:=by omega
  have hno:cG up (rowV v)=⟨8,0,0,0⟩:=by
   unfold rowV
   exact uH fun j hj=>by have:=hI j (by rw[fA] at hj;exact hj);rwa [kV hj] at this
  refine ap hC hGL (xn1 ?_)
  intro _
  refine⟨fun _=> ?_,fun h=>absurd rfl h⟩
  refine ap hC hGL (xn1 ?_)
  rw[hno]
  exact ak rfl
theorem kN {G:Glo}(v:Int)(s:List UInt8)(hl:s.length≤1000000):FnIs Tryz.prog G 36 [.str s,.int .i64 v] (.tuple [(bf v s).A,.int .i64 (verE v).e]):=by
 by_cases hv:v=3∨v=4
 ·have e1:bf v s=cG (aj 97 122 (-32) s) (rowV v):=by unfold bf;rw[if_pos hv]
  have e2:verE v= .none:=by unfold verE;rw[if_pos hv]
  rw[e1,e2]
  exact zG hv s hl
 ·have e1:bf v s=Rl.z:=by unfold bf;rw[if_neg hv]
  have e2:verE v= .errno 1:=by unfold verE;rw[if_neg hv]
  rw[e1,e2]
  have hGL:ad G []:=ab
  refine fn_x Tryz.func36 Tryz.call36 rfl rfl rfl rfl hGL ?_
  intro C hC
  refine xb ?_
  repeat' (first|exact Le.n|refine Lc.mk ?_ ?_)
  all_goals intros
  all_goals intros
  all_goals first
   |(exfalso;omega)
   |(apply ak;rfl)
def nmK (v:Int)(k:Nat):List (List UInt8):=(knR.take k).filterMap fun k=>(k.of v).map fun _=>k.n
theorem BO {v:Int}{k:Nat}(h:k<36):nmK v (k+1)=nmK v k++(((knAt k).of v).map fun _=>(knAt k).n).toList:=by
 unfold nmK
 rw[List.take_add_one,List.filterMap_append,kV (by rw[fA];exact h),List.getElem?_eq_getElem (by rw[fA];exact h)]
 refine congrArg _ ?_
 simp only[Option.toList_some,List.filterMap_cons,List.filterMap_nil]
 cases hx:(knR[k]'(by rw[fA];exact h)).of v<;>simp
theorem DT (v:Int)(k:Nat):(nmK v k).length≤36:=by
 unfold nmK
 refine Nat.le_trans (List.length_filterMap_le _ _) ?_
 rw[List.length_take,fA]
 omega
theorem DU {v:Int}(hv:v=3∨v=4):nmK v 36=ar v:=by
 have e:∀l:List Kn,(l.filterMap fun k=>(k.of v).map fun _=>k.n)=(l.filterMap fun k=>(k.of v).map fun r=>(k.n,r)).map (·.1):=fun l=>by
  induction l with
  |nil=>rfl
  |cons x t ih=>cases hx:x.of v<;>simp[List.filterMap_cons,hx,ih]
 unfold nmK ar rowV
 rw[if_pos hv,List.take_of_length_le (by rw[fA];omega),e]
attribute [local irreducible] nmK
theorem we {G:Glo}{v:Int}(hv:v=3∨v=4):ah Tryz.prog G 33 [.int .i64 v] [] (fun r H=>∃va,r= .ret (.tuple [.own 0 va,.int .i64 0])∧H=[.row va none 1 (ar v).length (aS (ar v))]):=by
  have hGL:ad G []:=ab
  have hK:=p0 (G:=G)
  refine fn_a Tryz.func33 Tryz.call33 rfl rfl rfl rfl ?_
  intro C hC
  refine cut hC hGL [(0,.int .i64 v)] [] True xn0 fun _=> ?_
  refine cut hC hGL [(0,.int .i64 v)] [] True ?_ fun _=> ?_
  · refine xn ?_
    repeat' (first|exact Le.n|refine Lc.mk ?_ ?_)
    all_goals intros
    all_goals first
      |exact Ct.w
      |(exfalso;omega)
  refine cut hC hGL [(0,.int .i64 v),(4,.raw (.slice none 0 0))] [] True xn0 fun _=> ?_
  refine bq (cut hC hGL [(0,.int .i64 v),(4,.raw (.slice none 0 0)),(13,.list 3 36 knF),(14,.int .i64 (36:Nat)),(15,.int .i64 (0:Nat))] [] True xn0 fun _=> ?_)
  refine Gy (aM (d8 1) (Fs (k:=4) (i:=0) rfl rfl)) ?_
  have e0:nmK v 0=[]:=by unfold nmK;rfl
  refine cX (iR (X:=Nat×Value) (fun x=>[(0,.int .i64 v),(4,.own 0 x.2),(13,.list 3 36 knF),(14,.int .i64 (36:Nat)),(15,.int .i64 (x.1:Nat))]) (fun x=>[.row x.2 none 1 (nmK v x.1).length (aS (nmK v x.1))]) (fun x=>x.1≤36) (fun x=>36-x.1) (0,.slice none 0 0) (Nat.zero_le _) ae (by rw[e0];exact List.Sublist.refl _) ?_)
  rintro⟨k,y⟩ hk
  have hk:k≤36:=hk
  dsimp only
  by_cases hlt:k<36
  · have hln:=DT v k
    have hsc:=BO (v:=v) hlt
    rcases hkn:knAt k with⟨n,o,w⟩
    have hkF:knF k= .agg [.str n,optA o,optA w]:=by unfold knF;rw[hkn]
    rw[hkn] at hsc
    refine cut hC hGL [(0,.int .i64 v),(4,.own 0 y),(13,.list 3 36 knF),(14,.int .i64 (36:Nat)),(15,.int .i64 (k:Nat)),(16,.bool (ltB (k:Int) (36:Nat)))] [.row y none 1 (nmK v k).length (aS (nmK v k))] True xn0 fun _=> ?_
    refine cut hC hGL [(0,.int .i64 v),(4,.own 0 y),(13,.list 3 36 knF),(14,.int .i64 (36:Nat)),(15,.int .i64 (k:Nat))] [.row y none 1 (nmK v k).length (aS (nmK v k))] True ?_ fun _=> ?_
    · refine xn ?_
      repeat' (first|exact Le.n|refine Lc.mk ?_ ?_)
      all_goals intros
      all_goals first
        |(intros;exact Ct.w)
        |(intros;exfalso;omega)
    generalize hnm:nmK v k=nm at*
    rcases hv with rfl|rfl
    · rcases o with _|o<;>rcases w with _|w
      all_goals
        simp only[Kn.of,if_true,if_false,Int.reduceEq,Option.map_none,Option.map_some,Option.toList_none,Option.toList_some,List.append_nil,reduceIte] at hsc
        refine ap hC hGL ?_
        (conv=>whnf)
        refine Ix.w ?_
        rw[hkF]
        refine xn1 ?_
        intros
        first
          |exact⟨(k+1,y),by show k+1≤36;omega,by show 36-(k+1)<36-k;omega,ae,by show List.Sublist [HEnt.row y none 1 (nmK 3 (k+1)).length (aS (nmK 3 (k+1)))] _;rw[hsc];exact aB⟩
          | (refine aF hC hGL (gC (m:=3) rfl rfl rfl) rfl rfl ?_
             refine xn1 ?_
             intro wa wk wc _
             exact⟨(k+1,.slice wa wk wc),by show k+1≤36;omega,by show 36-(k+1)<36-k;omega,ae,by show List.Sublist [HEnt.row (.slice wa wk wc) none 1 (nmK 3 (k+1)).length (aS (nmK 3 (k+1)))] _;rw[hsc,←co,List.length_append];exact aB⟩)
    · rcases o with _|o<;>rcases w with _|w
      all_goals
        simp only[Kn.of,if_true,if_false,Int.reduceEq,Option.map_none,Option.map_some,Option.toList_none,Option.toList_some,List.append_nil,reduceIte] at hsc
        refine ap hC hGL ?_
        (conv=>whnf)
        refine Ix.w ?_
        rw[hkF]
        refine xn1 ?_
        intros
        first
          |exact⟨(k+1,y),by show k+1≤36;omega,by show 36-(k+1)<36-k;omega,ae,by show List.Sublist [HEnt.row y none 1 (nmK 4 (k+1)).length (aS (nmK 4 (k+1)))] _;rw[hsc];exact aB⟩
          | (refine aF hC hGL (gC (m:=3) rfl rfl rfl) rfl rfl ?_
             refine xn1 ?_
             intro wa wk wc _
             exact⟨(k+1,.slice wa wk wc),by show k+1≤36;omega,by show 36-(k+1)<36-k;omega,ae,by show List.Sublist [HEnt.row (.slice wa wk wc) none 1 (nmK 4 (k+1)).length (aS (nmK 4 (k+1)))] _;rw[hsc,←co,List.length_append];exact aB⟩)
  · obtain rfl:k=36:=by omega
    refine ap hC hGL (xn1 ?_)
    intro _
    refine⟨fun _=> ?_,fun h=>absurd rfl h⟩
    refine ap hC hGL (xn1 ?_)
    rw[DU hv]
    exact⟨_,List.Sublist.refl _,y,rfl,rfl⟩
theorem pn {G:Glo}(v:Int):FnIs Tryz.prog G 33 [.int .i64 v] (.tuple [.list 1 (ar v).length (aq (ar v)),.int .i64 (verE v).e]):=by
 by_cases hv:v=3∨v=4
 ·have e2:verE v= .none:=by unfold verE;rw[if_pos hv]
  rw[e2]
  exact ng (fun a=>.tuple [a,.int .i64 0]) (BT _) (aq (ar v)) (ea _) (cs:=aS (ar v)) (eT:=none) ((we hv).mono fun r H ⟨va,h1,h2⟩=>⟨_,va,h1,h2⟩)
 ·have e1:ar v=[]:=by unfold ar;rw[if_neg hv]
  have e2:verE v= .errno 1:=by unfold verE;rw[if_neg hv]
  rw[e1,e2]
  refine gO (H:=[]) (Qf:=fun r H=>r= .ret (.tuple [.raw (.slice none 0 0),.int .i64 1])∧H=[]) ?_ (fun r H h=>by
   obtain⟨rfl,rfl⟩:=h
   rintro C R w e hm ⟨x,rfl,hx⟩
   exact⟨R,hm,x,rfl,lB (Seal.le_refl R) hx fun u hu=>by
    obtain rfl:=an.1 (show Rel R (.raw (.slice none 0 0)) u from hu)
    exact⟨⟨none,0,rfl,Nat.le_refl _,.inl rfl⟩,rfl⟩⟩)
  have hGL:ad G []:=ab
  refine fn_x Tryz.func33 Tryz.call33 rfl rfl rfl rfl hGL ?_
  intro C hC
  refine xw ?_
  repeat' (first|exact Le.n|refine Lc.mk ?_ ?_)
  all_goals intros
  all_goals first
   |(exfalso;omega)
   |(apply ak;rfl)
end
section
open Go Go.RowKit
section
variable {P:Program} [Tab P] {C:Ctx} {n:Nat} {H:Heap} {env:Env} {x y:Operand} {T:TypeId} {xT:TI} {e:TypeId} {xe:TI}
theorem cf {len i:Nat}{k0:IntKind}{cs:List AVal}{av:AVal}(hx:ai env x=some (.agg cs))(hy:ai env y=some (.int k0 (i:Int)))(h1:tab P T=some xT)(h2:xT.desc= .array len e)(h3:tab P e=some xe)(h4:xe.size=1)(h5:a8 xe.desc=false)(hi:i<len)(hc:cs[i]? =some av)(ha:av.isAgg=false):
  RunV P C H env (.index T x y) av:=by
 intro R ρ w hm hf dst t p af g
 have hr:=hf _ _ hx
 obtain⟨vs,hvs⟩:∃vs,ρ x= .agg vs:=by
  have:=hr.2
  cases hv:ρ x<;>rw[hv] at this<;>simp[AVal.isAgg,vAgg] at this
  exact⟨_,rfl⟩
 rw[hvs] at hr
 obtain⟨v,hv,hrv⟩:=bV (R:=R) (cs:=cs) (vs:=vs.toList) hr.1 hc
 refine⟨v,?_,bH hrv ha⟩
 have hv':vs[i]? =some v:=by simpa using hv
 have hn:(0:Int)≤i∧(i:Int)<len:=⟨by omega,by omega⟩
 have hil:i<vs.size:=by
  rcases Nat.lt_or_ge i vs.size with h|h
  ·exact h
  ·rw[Array.getElem?_eq_none h] at hv';cases hv'
 simp only[execOp,hvs,am.1 (hf _ _ hy),Instr.index,asIntOf,Sem.run_bind,Sem.run_pure,Result.andThen_ok,al h1,h2,hn,part,Int.toNat_natCast]
 simp[aC h3,bL h3,h5,h4,hv']
end
end
section
open Go Go.RowKit
def valN:List UInt8:=[86,65,76,85,69]
def a7 (s:List UInt8):List Pr→Nat→Int
 |[],_=> -1
 |q::l,i=>if aj 97 122 (-32) q.n=aj 97 122 (-32) s then(i:Int) else a7 s l (i+1)
def tyL (t:Int)(x:List UInt8):Int:=if x=[116,101,120,116] then(if t=2∨t=3 then t else 1)
 else if x=[117,114,105] then 4
 else if x=[100,97,116,101,45,97,110,100,45,111,114,45,116,105,109,101] then 5
 else if x=[100,97,116,101] then 5
 else if x=[100,97,116,101,45,116,105,109,101] then 5
 else if x=[116,105,109,101,115,116,97,109,112] then 5
 else if x=[117,116,99,45,111,102,102,115,101,116] then 6
 else if x=[108,97,110,103,117,97,103,101,45,116,97,103] then 7
 else 8
def ki (t:Int)(l:List Pr):Int:=if a7 valN l 0<0∨(l.getD (a7 valN l 0).toNat Pr.z).vs.length=0 then t else tyL t (aj 65 90 32 ((l.getD (a7 valN l 0).toNat Pr.z).vs.getD 0 []))
def eX (v:Int)(s:List UInt8)(l:List Pr):Int:=if v=3∨v=4 then ki (bf v s).t l else 0
def cP (k:Int):List UInt8:=if k<1∨9≤k then[] else if k=4 then[117,114,105] else if k=5 then[100,97,116,101,45,97,110,100,45,111,114,45,116,105,109,101] else if k=6 then[117,116,99,45,111,102,102,115,101,116] else if k=7 then[108,97,110,103,117,97,103,101,45,116,97,103] else if k=8 then[117,110,107,110,111,119,110] else[116,101,120,116]
theorem gi {s:List UInt8}:∀{l:List Pr} {k:Nat} (i:Nat),k<l.length→(∀j,j<k→aj 97 122 (-32) (l.getD j Pr.z).n≠aj 97 122 (-32) s)→aj 97 122 (-32) (l.getD k Pr.z).n=aj 97 122 (-32) s→a7 s l i=((i+k:Nat):Int)
 |[],k,i,h,_,_=>absurd h (Nat.not_lt_zero _)
 |q::l,0,i,_,_,h=>by
  have h:aj 97 122 (-32) q.n=aj 97 122 (-32) s:=h
  simp only[a7,if_pos h,Nat.add_zero]
 |q::l,k+1,i,hk,h0,h=>by
  have h1:aj 97 122 (-32) q.n≠aj 97 122 (-32) s:=h0 0 (Nat.succ_pos k)
  have ih:=gi (s:=s) (l:=l) (k:=k) (i+1) (by simpa using hk) (fun j hj=>by simpa using h0 (j+1) (by omega)) (by simpa using h)
  simp only[a7,if_neg h1,ih]
  omega
theorem oH {s:List UInt8}:∀{l:List Pr} (i:Nat),(∀j,j<l.length→aj 97 122 (-32) (l.getD j Pr.z).n≠aj 97 122 (-32) s)→a7 s l i= -1
 |[],_,_=>rfl
 |q::l,i,h0=>by
  have h1:aj 97 122 (-32) q.n≠aj 97 122 (-32) s:=h0 0 (by simp)
  have ih:=oH (s:=s) (l:=l) (i+1) (fun j hj=>by simpa using h0 (j+1) (by simpa using hj))
  simp only[a7,if_neg h1,ih]
theorem iJ (s:List UInt8):∀(l:List Pr) (i:Nat),a7 s l i= -1∨∃k,k<l.length∧a7 s l i=((i+k:Nat):Int)
 |[],_=>.inl rfl
 |q::l,i=>by
  by_cases h:aj 97 122 (-32) q.n=aj 97 122 (-32) s
  ·exact .inr ⟨0,by simp,by simp only[a7,if_pos h,Nat.add_zero]⟩
  ·rcases iJ s l (i+1) with h1|⟨k,h1,h2⟩
   ·exact .inl (by simp only[a7,if_neg h,h1])
   ·exact .inr ⟨k+1,by simpa using h1,by simp only[a7,if_neg h,h2];omega⟩
theorem Cw {c d:UInt8}:UInt8.ofNat (bO 65 90 32 c.toNat).toNat=UInt8.ofNat (bO 65 90 32 d.toNat).toNat↔UInt8.ofNat (bO 97 122 (-32) c.toNat).toNat=UInt8.ofNat (bO 97 122 (-32) d.toNat).toNat:=by
 have h1:=c.toNat_lt
 have h2:=d.toNat_lt
 rw[←UInt8.toNat_inj,←UInt8.toNat_inj,UInt8.toNat_ofNat',UInt8.toNat_ofNat',UInt8.toNat_ofNat',UInt8.toNat_ofNat']
 unfold bO
 (repeat' split)<;>omega
theorem oE:∀{n s:List UInt8},(aj 65 90 32 n=aj 65 90 32 s↔aj 97 122 (-32) n=aj 97 122 (-32) s)
 |[],[]=>by simp[aj]
 |[],d::s=>by simp[aj]
 |c::n,[]=>by simp[aj]
 |c::n,d::s=>by
  have ih:=oE (n:=n) (s:=s)
  have hb:=Cw (c:=c) (d:=d)
  unfold aj at ih ⊢
  simp only[List.map_cons,List.cons.injEq]
  rw[ih,hb]
theorem dA (n s:List UInt8):seqB (aj 65 90 32 n) (aj 65 90 32 s)=seqB (aj 97 122 (-32) n) (aj 97 122 (-32) s):=by
 rw[Bool.eq_iff_iff,aY,aY]
 exact oE
attribute [local irreducible] AWp AOps aa aA OrOk ad ah
attribute [local irreducible] aj a7 tyL
theorem gE {G:Glo}(l:List Pr)(s:List UInt8)(hl:l.length≤9223372036854775807)(hn:∀k,(l.getD k Pr.z).n.length≤9223372036854775807)(hs:s.length≤1000000):FnIs Tryz.prog G 26 [.list 2 l.length (prF l),.str s] (.int .i64 (a7 s l 0)):=by
 have h1:=fun k=>jb (G:=G) (l.getD k Pr.z).n s (by have:=hn k;omega) (by omega)
 have hGL:ad G []:=ab
 refine fn_x Tryz.func26 Tryz.call26 rfl rfl rfl rfl hGL ?_
 intro C hC
 refine xw1 ?_
 intros
 refine lp hC hGL (fun(k:Nat)=>[(1,.str s),(7,.list 2 l.length (prF l)),(8,.int .i64 (l.length:Nat)),(9,.int .i64 (k:Nat))]) (fun _=>[]) (fun k=>k≤l.length∧∀j,j<k→aj 97 122 (-32) (l.getD j Pr.z).n≠aj 97 122 (-32) s) (fun k=>l.length-k) 0 ⟨Nat.zero_le _,fun j h=>absurd h (Nat.not_lt_zero _)⟩ ae rfl ?_
 rintro k ⟨hk,hI⟩
 have h2:=h1 k
 refine xw ?_
 repeat' (first|exact Le.n|refine Lc.mk ?_ ?_)
 all_goals intros
 all_goals intros
 ·apply ak
  rw[gi 0 (by omega) hI (by assumption),Nat.zero_add]
 ·exact nxs (k+1) ⟨by omega,aQ hI (by assumption)⟩ (by omega) ae aB
 ·apply ak
  rw[oH 0 fun j hj=>hI j (by omega)]
  rfl
theorem tG {G:Glo}(l:List Pr)(s:List UInt8)(hl:l.length≤9223372036854775807)(hn:∀k,(l.getD k Pr.z).n.length≤9223372036854775807)(hs:s.length≤1000000):FnIs Tryz.prog G 16 [.list 2 l.length (prF l),.str s] (.int .i64 (a7 s l 0)):=by
 have h1:=fun k=>cT (G:=G) (l.getD k Pr.z).n s (by have:=hn k;omega) (by omega)
 have hGL:ad G []:=ab
 refine fn_x Tryz.func16 Tryz.call16 rfl rfl rfl rfl hGL ?_
 intro C hC
 refine xw1 ?_
 intros
 refine lp hC hGL (fun(k:Nat)=>[(0,.list 2 l.length (prF l)),(1,.str s),(7,.int .i64 (l.length:Nat)),(8,.int .i64 (k:Nat))]) (fun _=>[]) (fun k=>k≤l.length∧∀j,j<k→aj 97 122 (-32) (l.getD j Pr.z).n≠aj 97 122 (-32) s) (fun k=>l.length-k) 0 ⟨Nat.zero_le _,fun j h=>absurd h (Nat.not_lt_zero _)⟩ ae rfl ?_
 rintro k ⟨hk,hI⟩
 have h2:=h1 k
 rw[dA] at h2
 refine xw ?_
 repeat' (first|exact Le.n|refine Lc.mk ?_ ?_)
 all_goals intros
 all_goals intros
 ·apply ak
  rw[gi 0 (by omega) hI (by assumption),Nat.zero_add]
 ·exact nxs (k+1) ⟨by omega,aQ hI (by assumption)⟩ (by omega) ae aB
 ·apply ak
  rw[oH 0 fun j hj=>hI j (by omega)]
  rfl
theorem vT {G:Glo}(k:Int):FnIs Tryz.prog G 29 [.int .i64 k] (.str (cP k)):=by
 by_cases hk:k<1∨9≤k
 ·have e:cP k=[]:=by unfold cP;rw[if_pos hk]
  rw[e]
  have hGL:ad G []:=ab
  refine fn_x Tryz.func29 Tryz.call29 rfl rfl rfl rfl hGL ?_
  intro C hC
  refine xw ?_
  repeat' (first|exact Le.n|refine Lc.mk ?_ ?_)
  all_goals intros
  all_goals first
   |(apply ak;rfl)
   |(exfalso;omega)
 ·rcases(show k=1∨k=2∨k=3∨k=4∨k=5∨k=6∨k=7∨k=8 by omega) with rfl|rfl|rfl|rfl|rfl|rfl|rfl|rfl
  ·have hGL:ad G []:=ab
   refine fn_x Tryz.func29 Tryz.call29 rfl rfl rfl rfl hGL ?_
   intro C hC
   refine xw1 ?_
   intros
   refine aF hC hGL (cf (len:=9) (i:=1) rfl rfl rfl rfl rfl rfl rfl (Nat.le_of_ble_eq_true rfl) rfl rfl) rfl rfl ?_
   exact xw0
  ·have hGL:ad G []:=ab
   refine fn_x Tryz.func29 Tryz.call29 rfl rfl rfl rfl hGL ?_
   intro C hC
   refine xw1 ?_
   intros
   refine aF hC hGL (cf (len:=9) (i:=2) rfl rfl rfl rfl rfl rfl rfl (Nat.le_of_ble_eq_true rfl) rfl rfl) rfl rfl ?_
   exact xw0
  ·have hGL:ad G []:=ab
   refine fn_x Tryz.func29 Tryz.call29 rfl rfl rfl rfl hGL ?_
   intro C hC
   refine xw1 ?_
   intros
   refine aF hC hGL (cf (len:=9) (i:=3) rfl rfl rfl rfl rfl rfl rfl (Nat.le_of_ble_eq_true rfl) rfl rfl) rfl rfl ?_
   exact xw0
  ·have hGL:ad G []:=ab
   refine fn_x Tryz.func29 Tryz.call29 rfl rfl rfl rfl hGL ?_
   intro C hC
   refine xw1 ?_
   intros
   refine aF hC hGL (cf (len:=9) (i:=4) rfl rfl rfl rfl rfl rfl rfl (Nat.le_of_ble_eq_true rfl) rfl rfl) rfl rfl ?_
   exact xw0
  ·have hGL:ad G []:=ab
   refine fn_x Tryz.func29 Tryz.call29 rfl rfl rfl rfl hGL ?_
   intro C hC
   refine xw1 ?_
   intros
   refine aF hC hGL (cf (len:=9) (i:=5) rfl rfl rfl rfl rfl rfl rfl (Nat.le_of_ble_eq_true rfl) rfl rfl) rfl rfl ?_
   exact xw0
  ·have hGL:ad G []:=ab
   refine fn_x Tryz.func29 Tryz.call29 rfl rfl rfl rfl hGL ?_
   intro C hC
   refine xw1 ?_
   intros
   refine aF hC hGL (cf (len:=9) (i:=6) rfl rfl rfl rfl rfl rfl rfl (Nat.le_of_ble_eq_true rfl) rfl rfl) rfl rfl ?_
   exact xw0
  ·have hGL:ad G []:=ab
   refine fn_x Tryz.func29 Tryz.call29 rfl rfl rfl rfl hGL ?_
   intro C hC
   refine xw1 ?_
   intros
   refine aF hC hGL (cf (len:=9) (i:=7) rfl rfl rfl rfl rfl rfl rfl (Nat.le_of_ble_eq_true rfl) rfl rfl) rfl rfl ?_
   exact xw0
  ·have hGL:ad G []:=ab
   refine fn_x Tryz.func29 Tryz.call29 rfl rfl rfl rfl hGL ?_
   intro C hC
   refine xw1 ?_
   intros
   refine aF hC hGL (cf (len:=9) (i:=8) rfl rfl rfl rfl rfl rfl rfl (Nat.le_of_ble_eq_true rfl) rfl rfl) rfl rfl ?_
   exact xw0
theorem um:Lib.fields [116,101,120,116,32,116,101,120,116,32,116,101,120,116,32,117,114,105,32,100,97,116,101,45,97,110,100,45,111,114,45,116,105,109,101,32,117,116,99,45,111,102,102,115,101,116,32,108,97,110,103,117,97,103,101,45,116,97,103,32,117,110,107,110,111,119,110]=[[116,101,120,116],[116,101,120,116],[116,101,120,116],[117,114,105],[100,97,116,101,45,97,110,100,45,111,114,45,116,105,109,101],[117,116,99,45,111,102,102,115,101,116],[108,97,110,103,117,97,103,101,45,116,97,103],[117,110,107,110,111,119,110]]:=by decide+kernel
theorem By {G:Glo}(hS:SpIs G)(k:Int):FnIs Tryz.prog G 20 [.int .i64 k] (.str (cP k)):=by
 have hw:=cE (G:=G) k 1 8
 have hf:=mE hS [116,101,120,116,32,116,101,120,116,32,116,101,120,116,32,117,114,105,32,100,97,116,101,45,97,110,100,45,111,114,45,116,105,109,101,32,117,116,99,45,111,102,102,115,101,116,32,108,97,110,103,117,97,103,101,45,116,97,103,32,117,110,107,110,111,119,110] (by decide) (pW (by decide+kernel))
 rw[um] at hf
 by_cases hk:k<1∨9≤k
 ·have e:cP k=[]:=by unfold cP;rw[if_pos hk]
  have e2:(decide (1≤k)&&decide (k≤8))=false:=by rw[Bool.and_eq_false_iff,decide_eq_false_iff_not,decide_eq_false_iff_not];omega
  rw[e2] at hw
  rw[e]
  have hGL:ad G []:=ab
  refine fn_x Tryz.func20 Tryz.call20 rfl rfl rfl rfl hGL ?_
  intro C hC
  exact xw0
 ·have e2:(decide (1≤k)&&decide (k≤8))=true:=by rw[Bool.and_eq_true,decide_eq_true_eq,decide_eq_true_eq];omega
  rw[e2] at hw
  rcases(show k=1∨k=2∨k=3∨k=4∨k=5∨k=6∨k=7∨k=8 by omega) with rfl|rfl|rfl|rfl|rfl|rfl|rfl|rfl
  all_goals
   have hGL:ad G []:=ab
   refine fn_x Tryz.func20 Tryz.call20 rfl rfl rfl rfl hGL ?_
   intro C hC
   exact xw0
end
section
open Go Go.RowKit
def cntB (m:Nat)(s:List UInt8):Bool:=(List.range m).any fun i=>decide (Lib.decDigits (i+1)=s)
theorem xi {m:Nat}{s:List UInt8}:cntB m s=true↔∃n,1≤n∧n≤m∧Lib.decDigits n=s:=by
 unfold cntB
 rw[List.any_eq_true]
 constructor
 ·rintro⟨i,hi,h⟩
  exact⟨i+1,by omega,by have:=List.mem_range.1 hi;omega,of_decide_eq_true h⟩
 ·rintro⟨n,h1,h2,h3⟩
  exact⟨n-1,List.mem_range.2 (by omega),decide_eq_true (by rw[show n-1+1=n by omega];exact h3)⟩
theorem oP {m:Nat}{s:List UInt8}:cntB m s=false↔∀n,1≤n→n≤m→Lib.decDigits n≠s:=by
 rw[←Bool.not_eq_true,xi]
 exact⟨fun h n h1 h2 h3=>h ⟨n,h1,h2,h3⟩,fun h ⟨n,h1,h2,h3⟩=>h n h1 h2 h3⟩
def pidB (v:List UInt8):Bool:=cntB 999 (Lib.cut v [46]).1&&(!(Lib.cut v [46]).2.2||cntB 999 (Lib.cut v [46]).2.1)
def fitN (n:List UInt8)(vs:List (List UInt8)):Bool:=
 if n=[86,65,76,85,69]∨n=[65,76,84,73,68]∨n=[77,69,68,73,65,84,89,80,69]∨n=[69,78,67,79,68,73,78,71] then decide (vs.length=1)
 else if n=[76,65,78,71,85,65,71,69] then decide (vs.length=1)&&(b6 (vs.getD 0 [])).isNone
 else if n=[80,82,69,70] then decide (vs.length=1)&&cntB 100 (vs.getD 0 [])
 else if n=[84,89,80,69] then vs.all isS&&decide (0<vs.length)
 else if n=[80,73,68] then vs.all pidB&&decide (0<vs.length)
 else decide (0<vs.length)
def Pr.fit (q:Pr):Bool:=fitN (aj 97 122 (-32) q.n) q.vs
def G9 (s:List UInt8)(a:AVal):Prop:=(∃n,a= .tuple [.int .i64 n,.raw .nilIface]∧Lib.atoiAll s= .ok n)∨(∃n t v,a= .tuple [.int .i64 n,.iface t (.raw v)]∧∀k,Lib.atoiAll s≠ .ok k)
def qP (g:Nat)(R:Seal):Prop:=∃t v e fz,R g=some (.cells #[.iface t v] e fz)
def lz (G:Glo):Prop:=∀R,G.p R→qP 8 R∧qP 9 R
theorem rZ {P:Program}{G:Glo}{f:FuncId}{avs:List AVal}{Qf:AVal→Prop}(hc:∀args w,(callFunc f args).run P w= .ok (.enter f args) w)
  (h:∀R args,RelV R avs args.toList→∀w,G.p R→cJ R w→Calls P f args w fun e w'=>(∃u a,e= .returned u∧Qf a∧∀R,Rel R a u)∧Below w.heap.size w w'):ah P G f avs [] (fun r H=>(∃v,r= .ret v∧Qf v)∧H=[]):=by
 intro R w args hG hm ha
 refine .inl ⟨hc args w,(h R args ha w hG hm.sealed).mono ?_⟩
 rintro e w' ⟨⟨u,a,rfl,hq,hr⟩,hb⟩
 refine⟨.ret a,[],R,⟨⟨a,rfl,hq⟩,rfl⟩,⟨_,rfl,hr R⟩,?_⟩
 refine⟨?_,Seal.le_refl R,fun _ hb=>.inl hb,⟨fun _ h=>absurd h List.not_mem_nil,List.nodup_nil,fun _ h=>absurd h List.not_mem_nil⟩,fun _ h=>absurd h List.not_mem_nil,
  ⟨hb.os,hb.tape,hb.output,hb.size,fun b hlt _=>hb.block b hlt⟩⟩
 intro b o ho
 have h1:=hm.sealed b o ho
 have hlt:b<w.heap.size:=(Array.getElem?_eq_some_iff.1 h1).1
 rw[hb.block b hlt,h1]
theorem uM {g:Nat}{R:Seal}{w:World}(h:qP g R)(hs:cJ R w):∃t v,w.cell? ⟨g,0,none⟩=some (.iface t v):=by
 obtain⟨t,v,e,fz,h⟩:=h
 refine⟨t,v,?_⟩
 unfold World.cell?
 simp[hs _ _ h]
theorem qV {G:Glo}(hE:lz G)(s:List UInt8)(hl:s.length≤1000000):ah Tryz.prog G 92 [.str s] [] (fun r H=>(∃v,r= .ret v∧G9 s v)∧H=[]):=by
 refine rZ Tryz.call92 ?_
 intro R args hr w hG hs
 obtain⟨x,t,e',hx,rfl⟩:=hr
 obtain rfl:=aE.1 hx
 obtain rfl:=eA e'
 have hsz:(⟨s.toArray⟩:ByteArray).size≤1000000:=by rw[ba];exact hl
 obtain⟨⟨t1,v1,c1⟩,t2,v2,c2⟩:(∃t v,w.cell? ⟨8,0,none⟩=some (.iface t v))∧∃t v,w.cell? ⟨9,0,none⟩=some (.iface t v):=⟨uM (hE R hG).1 hs,uM (hE R hG).2 hs⟩
 cases ha:Lib.atoiAll s
 ·rename_i n
  refine(Tryz.strconv_Atoi_ok ⟨s.toArray⟩ (by omega) n (by simpa using ha) w).mono ?_
  rintro e w' ⟨rfl,hw⟩
  refine⟨⟨_,_,rfl,.inl ⟨n,rfl,ha⟩,fun R=>kJ (am.2 rfl) (an.2 rfl)⟩,?_⟩
  rcases hw with rfl|⟨t,rfl⟩
  ·exact Below.refl _ _
  ·exact⟨rfl,rfl,rfl,by rw[Lib.bytesWorld_size];omega,fun k hk=>Lib.bytesWorld_at_old _ _ _ _ hk⟩
 ·refine(Tryz.strconv_Atoi_syntax ⟨s.toArray⟩ (by omega) (by simpa using ha) _ w c1 (.inr ⟨_,_,rfl⟩)).mono ?_
  rintro e w' ⟨N,rfl,_,_,hb⟩
  exact⟨⟨_,_,rfl,.inr ⟨0,_,_,rfl,fun k h=>by rw[ha] at h;cases h⟩,fun R=>kJ (am.2 rfl) ⟨⟨_,rfl,rfl,rfl⟩,rfl⟩⟩,hb⟩
 ·refine(Tryz.strconv_Atoi_range ⟨s.toArray⟩ (by omega) (by simpa using ha) _ w c2 (.inr ⟨_,_,rfl⟩)).mono ?_
  rintro e w' ⟨N,rfl,_,_,hb⟩
  exact⟨⟨_,_,rfl,.inr ⟨_,_,_,rfl,fun k h=>by rw[ha] at h;cases h⟩,fun R=>kJ (am.2 rfl) ⟨⟨_,rfl,rfl,rfl⟩,rfl⟩⟩,hb⟩
theorem oY:∀k:Fin 1000,Lib.atoiAll (Lib.decDigits k.val)= .ok (k.val:Int):=by decide+kernel
attribute [local irreducible] AWp AOps aa aA OrOk ad ah
theorem gD {G:Glo}(hE:lz G)(hP:cQ G)(s:List UInt8)(m:Nat)(hl:s.length≤1000000)(hm:m≤999):FnIs Tryz.prog G 139 [.str s,.int .i64 (m:Int)] (.bool (cntB m s)):=by
 have hA:=qV hE s hl
 have hI:=fun n h=>strconv_Itoa (G:=G) hP n h
 have hGL:ad G []:=ab
 refine fn_x Tryz.func139 Tryz.call139 rfl rfl rfl rfl hGL ?_
 intro C hC
 refine xw1 ?_
 intros
 refine sj hA ?_
 rintro a (⟨n,rfl,h⟩|⟨n,t,v,rfl,h⟩)
 ·by_cases hn:1≤n∧n≤m
  ·obtain⟨k,rfl⟩:∃k:Nat,n=k:=⟨n.toNat,by omega⟩
   have hI:=hI k (by omega)
   have e:seqB (Lib.decDigits k) s=cntB m s:=by
    cases hc:cntB m s with
    |true=>
     obtain⟨j,h1,h2,h3⟩:=xi.1 hc
     have:=oY ⟨j,by omega⟩
     rw[h3,h] at this
     have e:(k:Int)=j:=by simpa using this
     rw[Int.ofNat.inj e,h3]
     exact aY.2 rfl
    |false=>exact ip.2 (oP.1 hc k (by omega) (by omega))
   rw[←e]
   exact xw0
  ·have e:cntB m s=false:=by
    refine oP.2 fun j h1 h2 h3=>hn ?_
    have:=oY ⟨j,by omega⟩
    rw[h3,h] at this
    have e:n=j:=by simpa using this
    omega
   rw[e]
   exact xw0
 ·have e:cntB m s=false:=by
   refine oP.2 fun j h1 h2 h3=>h (j:Int) ?_
   have:=oY ⟨j,by omega⟩
   rwa [h3] at this
  rw[e]
  exact xw0
end
section
open Go Go.RowKit
abbrev prA (q:Pr):AVal:=.agg [.str q.n,.list 1 q.vs.length (aq q.vs)]
abbrev nVAL:List UInt8:=[86,65,76,85,69]
abbrev nALT:List UInt8:=[65,76,84,73,68]
abbrev nMED:List UInt8:=[77,69,68,73,65,84,89,80,69]
abbrev nENC:List UInt8:=[69,78,67,79,68,73,78,71]
abbrev nLAN:List UInt8:=[76,65,78,71,85,65,71,69]
abbrev nPRE:List UInt8:=[80,82,69,70]
abbrev nTYP:List UInt8:=[84,89,80,69]
abbrev nPID:List UInt8:=[80,73,68]
inductive NmC (n:List UInt8):Prop
 |one (h:n=nVAL∨n=nALT∨n=nMED∨n=nENC)
 |lan (h:n=nLAN)
 |pre (h:n=nPRE)
 |typ (h:n=nTYP)
 |pid (h:n=nPID)
 |els (h1:n≠nVAL) (h2:n≠nALT) (h3:n≠nMED) (h4:n≠nENC) (h5:n≠nLAN) (h6:n≠nPRE) (h7:n≠nTYP) (h8:n≠nPID)
theorem nmC (n:List UInt8):NmC n:=by
 by_cases h:n=nVAL∨n=nALT∨n=nMED∨n=nENC
 ·exact .one h
 simp only[not_or] at h
 obtain⟨h1,h2,h3,h4⟩:=h
 by_cases h5:n=nLAN
 ·exact .lan h5
 by_cases h6:n=nPRE
 ·exact .pre h6
 by_cases h7:n=nTYP
 ·exact .typ h7
 by_cases h8:n=nPID
 ·exact .pid h8
 exact .els h1 h2 h3 h4 h5 h6 h7 h8
theorem o7 {p:List UInt8→Bool}{l:List (List UInt8)}(h:∀k,k<l.length→p (l.getD k [])=true):l.all p=true:=by
 rw[List.all_eq_true]
 intro x hx
 obtain⟨i,hi,rfl⟩:=List.getElem_of_mem hx
 have:=h i hi
 rwa [List.getD_eq_getElem?_getD,List.getElem?_eq_getElem hi] at this
theorem no {p:List UInt8→Bool}{l:List (List UInt8)}{k:Nat}(hk:k<l.length)(h:p (l.getD k [])=false):l.all p=false:=by
 rw[List.all_eq_false]
 refine⟨l[k],List.getElem_mem hk,?_⟩
 rw[List.getD_eq_getElem?_getD,List.getElem?_eq_getElem hk] at h
 simpa using h
theorem CM (s:List UInt8)(c:UInt8):(Lib.cut s [c]).1.length≤s.length∧(Lib.cut s [c]).2.1.length≤s.length:=by
 unfold Lib.cut
 split
 ·exact⟨List.length_take_le' ..,by dsimp only;rw[List.length_drop];omega⟩
 ·exact⟨Nat.le_refl _,Nat.zero_le _⟩
attribute [local irreducible] AWp AOps aa aA OrOk ad ah
attribute [local irreducible] cntB b6 isS pidB Lib.cut
theorem vU {G:Glo}{m:Int}(hE:lz G)(hP:cQ G)(hM:ad G (bW m))(q:Pr)(h0:q.n.length≤1000000)(h1:q.vs.length≤1000000)(h2:∀k,(q.vs.getD k []).length≤90000):FnIs Tryz.prog G 88 [prA q] (.bool q.fit):=by
 have hU:=dN (G:=G) q.n (by omega)
 unfold Pr.fit
 obtain⟨nm,vs⟩:=q
 dsimp only at h0 h1 h2 hU ⊢
 generalize aj 97 122 (-32) nm=n at*
 cases nmC n with
 |one h=>
  have e:fitN n vs=eqB (vs.length:Int) 1:=by
   unfold fitN
   rw[if_pos h]
   unfold eqB
   exact decide_eq_decide.2 (by omega)
  rw[e]
  rcases h with rfl|rfl|rfl|rfl
  all_goals
   have hGL:ad G []:=ab
   refine fn_x Tryz.func88 Tryz.call88 rfl rfl rfl rfl hGL ?_
   intro C hC
   exact xw0
 |lan h=>
  subst h
  have hR:=oj (G:=G) (vs.getD 0 []) (by have:=h2 0;omega)
  have e:fitN nLAN vs=(decide (vs.length=1)&&(b6 (vs.getD 0 [])).isNone):=rfl
  rw[e]
  by_cases hv:vs.length=1
  ·rw[decide_eq_true hv]
   rcases hx:b6 (vs.getD 0 []) with _|e|⟨e,p⟩
   all_goals
    rw[hx] at hR
    have hGL:ad G []:=ab
    refine fn_x Tryz.func88 Tryz.call88 rfl rfl rfl rfl hGL ?_
    intro C hC
    exact xw0
  ·rw[decide_eq_false hv]
   have hGL:ad G []:=ab
   refine fn_x Tryz.func88 Tryz.call88 rfl rfl rfl rfl hGL ?_
   intro C hC
   exact xw0
 |pre h=>
  subst h
  have hR:=gD hE hP (vs.getD 0 []) 100 (by have:=h2 0;omega) (by decide)
  have e:fitN nPRE vs=(decide (vs.length=1)&&cntB 100 (vs.getD 0 [])):=rfl
  rw[e]
  by_cases hv:vs.length=1
  ·rw[decide_eq_true hv]
   have hGL:ad G []:=ab
   refine fn_x Tryz.func88 Tryz.call88 rfl rfl rfl rfl hGL ?_
   intro C hC
   exact xw0
  ·rw[decide_eq_false hv]
   have hGL:ad G []:=ab
   refine fn_x Tryz.func88 Tryz.call88 rfl rfl rfl rfl hGL ?_
   intro C hC
   exact xw0
 |typ h=>
  subst h
  have e:fitN nTYP vs=(vs.all isS&&ltB 0 (vs.length:Int)):=by
   unfold ltB
   rw[show decide ((0:Int)<(vs.length:Int))=decide (0<vs.length) from decide_eq_decide.2 (by omega)]
   rfl
  rw[e]
  have hGL:ad G []:=ab
  refine fn_x Tryz.func88 Tryz.call88 rfl rfl rfl rfl hGL ?_
  intro C hC
  refine xw1 ?_
  intros
  refine lp hC hGL (fun k:Nat=>[(1,.rop [.str nm,.list 1 vs.length (aq vs)] 0),(48,.list 1 vs.length (aq vs)),(49,.int .i64 (vs.length:Int)),(50,.int .i64 (k:Int))]) (fun _=>[]) (fun k=>k≤vs.length∧∀j,j<k→isS (vs.getD j [])=true) (fun k=>vs.length-k) 0 ⟨Nat.zero_le _,fun j h=>absurd h (Nat.not_lt_zero _)⟩ ae rfl ?_
  rintro k ⟨hk1,hk2⟩
  by_cases hk:k<vs.length
  ·have hI:=kT (G:=G) (vs.getD k []) (by have:=h2 k;omega)
   cases hs:isS (vs.getD k []) with
   |true=>
    rw[hs] at hI
    refine xw1 ?_
    intros
    refine nxt (k+1) ⟨by omega,fun j hj=> ?_⟩ (by omega) ae rfl
    rcases Nat.lt_or_eq_of_le (Nat.le_of_lt_succ hj) with h|rfl
    ·exact hk2 j h
    ·exact hs
   |false=>
    rw[hs] at hI
    rw[no hk hs]
    exact xw0
  ·rw[o7 fun j hj=>hk2 j (by omega)]
   exact xw0
 |pid h=>
  subst h
  have e:fitN nPID vs=(vs.all pidB&&ltB 0 (vs.length:Int)):=by
   unfold ltB
   rw[show decide ((0:Int)<(vs.length:Int))=decide (0<vs.length) from decide_eq_decide.2 (by omega)]
   rfl
  rw[e]
  have hGL:ad G []:=ab
  refine fn_x Tryz.func88 Tryz.call88 rfl rfl rfl rfl hGL ?_
  intro C hC
  refine xw1 ?_
  intros
  refine lp hC hGL (fun k:Nat=>[(1,.rop [.str nm,.list 1 vs.length (aq vs)] 0),(61,.list 1 vs.length (aq vs)),(62,.int .i64 (vs.length:Int)),(63,.int .i64 (k:Int))]) (fun _=>[]) (fun k=>k≤vs.length∧∀j,j<k→pidB (vs.getD j [])=true) (fun k=>vs.length-k) 0 ⟨Nat.zero_le _,fun j h=>absurd h (Nat.not_lt_zero _)⟩ ae rfl ?_
  rintro k ⟨hk1,hk2⟩
  by_cases hk:k<vs.length
  ·have hl:=h2 k
   have hcut:=sV (G:=G) hM (vs.getD k []) 46 (by omega)
   have hcl:=CM (vs.getD k []) 46
   have hp:pidB (vs.getD k [])=(cntB 999 (Lib.cut (vs.getD k []) [46]).1&&(!(Lib.cut (vs.getD k []) [46]).2.2||cntB 999 (Lib.cut (vs.getD k []) [46]).2.1)):=by unfold pidB;rfl
   generalize Lib.cut (vs.getD k []) [46]=cu at*
   obtain⟨a,b,tw⟩:=cu
   dsimp only at hcut hcl hp
   have hA:=gD hE hP a 999 (by omega) (by decide)
   have hB:=gD hE hP b 999 (by omega) (by decide)
   have go:pidB (vs.getD k [])=true→k+1≤vs.length∧∀j,j<k+1→pidB (vs.getD j [])=true:=fun hs=>⟨by omega,fun j hj=>by
    rcases Nat.lt_or_eq_of_le (Nat.le_of_lt_succ hj) with h|rfl
    ·exact hk2 j h
    ·exact hs⟩
   cases ha:cntB 999 a with
   |false=>
    rw[ha] at hA hp
    rw[no hk hp]
    exact xw0
   |true=>
    rw[ha] at hA hp
    cases tw with
    |false=>
     refine xw1 ?_
     intros
     exact nxt (k+1) (go hp) (by omega) ae rfl
    |true=>
     cases hb:cntB 999 b with
     |true=>
      rw[hb] at hB hp
      refine xw1 ?_
      intros
      exact nxt (k+1) (go hp) (by omega) ae rfl
     |false=>
      rw[hb] at hB hp
      rw[no hk hp]
      exact xw0
  ·rw[o7 fun j hj=>hk2 j (by omega)]
   exact xw0
 |els h3 h4 h5 h6 h7 h8 h9 h10=>
  have e:fitN n vs=ltB 0 (vs.length:Int):=by
   unfold fitN
   rw[if_neg (by simp[*]),if_neg h7,if_neg h8,if_neg h9,if_neg h10]
   unfold ltB
   exact decide_eq_decide.2 (by omega)
  rw[e]
  have hGL:ad G []:=ab
  refine fn_x Tryz.func88 Tryz.call88 rfl rfl rfl rfl hGL ?_
  intro C hC
  exact xw0
end
section
open Go Go.RowKit
theorem Cf {c:Nat}(h:c<256):isS (aU [(c:Int)])=bu c:=by
 have hb:aa (aU [(c:Int)]) 0=c:=by
  unfold aU aa
  simp
  omega
 rw[Bool.eq_iff_iff,isS]
 have hl:(aU [(c:Int)]).length=1:=rfl
 rw[hl]
 simp only[Bool.and_eq_true,o8,hl,decide_eq_true_eq]
 constructor
 ·intro h;have:=h.1 0 (by omega);rwa [hb] at this
 ·intro h;exact⟨fun j hj=>by rw[show j=0 by omega,hb];exact h,by omega,by omega⟩
theorem wx {c:Int}(h:bu c=true)(hc:c≠45):(48≤c∧c≤57)↔c≤57:=by
 rw[lW] at h;omega
theorem om {b:Bool}{a:Nat}{x:List UInt8}{xs:List (List UInt8)}:cC b a (x::xs)=if(cr b a x).isNone then cC false (a+x.length+1) xs else cr b a x:=by rw[cC]
theorem rG {x:List UInt8}(h:(45:UInt8)∉x){j:Nat}(hj:j<x.length):aa x j≠45:=by
 intro e
 rw[bp hj] at e
 exact h (by rw[←show x[j]=45 from UInt8.toNat_inj.1 (by rw[e];rfl)];exact List.getElem_mem hj)
theorem nY {first:Bool}{a:Nat}{x:List UInt8}{i:Nat}(hi:i<x.length)(hb:lgB first (aa x i:Int)=false)(h0:∀j,j<i→lgB first (aa x j:Int)=true):cr first a x= .at 3 ((a:Int)+i):=by
 have hf:fstB (fun c=> !lgB first c) x=i:=gN hi (by rw[hb];rfl) (fun j hj=>by rw[h0 j hj];rfl)
 unfold cr
 rw[hf,if_pos (by omega)]
theorem iA {first:Bool}{a:Nat}{x:List UInt8}(h0:∀j,j<x.length→lgB first (aa x j:Int)=true):cr first a x=if x.length=0 then .at 7 a else if 8<x.length then .at 4 a else .none:=by
 have hf:fstB (fun c=> !lgB first c) x= -1:=dP (fun j hj=>by rw[h0 j hj];rfl)
 unfold cr
 rw[hf,if_neg (by omega)]
theorem iV (c:UInt8):∀s:List UInt8,(splS c s).length≤s.length+1∧∀p,p∈splS c s→p.length≤s.length
 |[]=>⟨Nat.le_refl _,fun p h=>by simp[splS] at h;subst h;exact Nat.le_refl _⟩
 |x::t=>by
  obtain⟨h1,h2⟩:=iV c t
  by_cases hx:x=c
  ·rw[splS,if_pos hx]
   refine⟨by simp only[List.length_cons];omega,fun p hp=> ?_⟩
   rcases List.mem_cons.1 hp with rfl|hp
   ·simp
   ·have:=h2 p hp;simp only[List.length_cons];omega
  ·rw[splS,if_neg hx]
   cases h3:splS c t with
   |nil=>exact absurd h3 (kx c t)
   |cons q qs=>
    rw[h3] at h1 h2
    refine⟨by simp only[List.length_cons] at*;omega,fun p hp=> ?_⟩
    rcases List.mem_cons.1 hp with rfl|hp
    ·have:=h2 q (by simp);simp only[List.length_cons];omega
    ·have:=h2 p (by simp[hp]);simp only[List.length_cons];omega
attribute [local irreducible] AWp AOps aa aA OrOk ad ah
attribute [local irreducible] splS cC lgB isS bu cr
theorem jG {G:Glo}{m:Int}(hM:ad G (bW m))(s:List UInt8)(hl:s.length≤3000):FnIs Tryz.prog G 75 [.str s] (.agg [.int .i64 (b6 s).e,.int .i64 (b6 s).p]):=by
 have h1:=nD (G:=G) hM s 45 (by omega)
 have hgd:=fa (G:=G)
 have hmem:∀k,k<(splS 45 s).length→(45:UInt8)∉(splS 45 s).getD k []:=fun k hk=>by
  rw[List.getD_eq_getElem?_getD,List.getElem?_eq_getElem hk]
  exact ky (List.getElem_mem hk)
 have hX:b6 s=cC true 0 (splS 45 s):=rfl
 have hlen:∀p,p∈splS 45 s→p.length≤3000:=fun p hp=>Nat.le_trans ((iV 45 s).2 p hp) hl
 have hPl:(splS 45 s).length≤3001:=by have:=(iV 45 s).1;omega
 generalize splS 45 s=P at*
 have hGL:ad G []:=ab
 refine fn_x Tryz.func75 Tryz.call75 rfl rfl rfl rfl hGL ?_
 intro C hC
 refine xw1 ?_
 intros
 rename Nat=>bl0
 refine lp hC hGL (fun(x:Nat×Nat)=>[(2,.own 0 (.pointer (some ⟨bl0,0,none⟩))),(3,.int .i64 x.2),(9,.list 1 P.length (aq P)),(10,.int .i64 P.length),(11,.int .i64 x.1)]) (fun _=>[.cells bl0 (some 32) [.int .i64 0,.int .i64 0]]) (fun x=>x.1≤P.length∧x.2≤4000*x.1∧b6 s=cC (decide (x.1=0)) x.2 (P.drop x.1)) (fun x=>P.length-x.1) (0,0) ?_ ae rfl ?_
 ·exact⟨Nat.zero_le _,Nat.zero_le _,hX⟩
 rintro⟨k,a⟩ ⟨g1,g2,g3⟩
 dsimp only at g1 g2 g3 ⊢
 by_cases hk:k<P.length
 ·have hx:∃x,P.getD k []=x∧P.drop k=x::P.drop (k+1)∧(45:UInt8)∉x∧x.length≤3000:=by
   refine⟨P.getD k [],rfl,?_,hmem k hk,?_⟩
   ·rw[List.drop_eq_getElem_cons hk,List.getD_eq_getElem?_getD,List.getElem?_eq_getElem hk];rfl
   ·rw[List.getD_eq_getElem?_getD,List.getElem?_eq_getElem hk];exact hlen _ (List.getElem_mem hk)
  obtain⟨x,hx,hd,hm,hxl⟩:=hx
  have hxe:aq P k= .str x:=by unfold aq;rw[hx]
  rw[hd,om] at g3
  have hkl:k≤4000*k:=by omega
  repeat' (first|(conv=>whnf);first|refine .w ?_|refine .v ?_|refine sc_c ?_ ?_<;>(intro hb;try exact dd hb)|apply ao|apply aG|(apply sc_i<;>intro hb)|(apply bx_i;intro hbd)|(apply ax;first|exact hgd)|(apply aw (i:=0) rfl;first|exact hgd)|(apply ab_i;intro bl)|(apply as_i;intro va vk vc hva)|(apply av_i;intro v)|(apply ac_i;intro bl cap hcap)|apply bo_l|(apply nx_i<;>intro hnx)|apply dw_q mixed hC hGL (by kernel_rfl)|(apply cq;assumption;(first|exact hgd);exact rfl)|(show Rt _ _ _;exact rt_w)|fail)
  all_goals try conv=>whnf
  rw[hx] at*
  rw[hxe] at*
  refine lp hC hGL (fun(i:Nat)=>[(2,.own 0 (.pointer (some ⟨bl0,0,none⟩))),(3,.int .i64 a),(4,.int .i64 k),(5,.str x),(9,.list 1 P.length (aq P)),(10,.int .i64 P.length),(11,.int .i64 k),(17,.own 1 (.slice (some ⟨bl,0,none⟩) x.length cap)),(18,.int .i64 x.length),(19,.int .i64 i)]) (fun _=>[.cells bl0 (some 32) [.int .i64 0,.int .i64 0],.buf bl x cap]) (fun i=>i≤x.length∧∀j,j<i→lgB (decide (k=0)) (aa x j:Int)=true) (fun i=>x.length-i) 0 ?_ ae rfl ?_
  ·exact⟨Nat.zero_le _,by intro j hj;omega⟩
  rintro i ⟨hi,hb0⟩
  have hI:i<x.length→FnIs Tryz.prog G 107 [.str (aU [(aa x i:Int)])] (.bool (bu (aa x i))):=fun h=>by
   have:=nQ (G:=G) (aU [(aa x i:Int)]) (by show 1≤_;omega)
   rwa [Cf (aO _ _)] at this
  have hW:=cE (G:=G) (aa x i:Int) 48 57
  refine xw ?_
  repeat' (first|exact Le.n|refine Lc.mk ?_ ?_)
  all_goals intros
  ·refine aF hC hGL (bw [_] rfl (by intro v hv;simp only[List.mem_cons,List.not_mem_nil,or_false] at hv;omega) rfl rfl rfl rfl rfl rfl) rfl rfl ?_
   repeat' (first|(conv=>whnf);first|refine .w ?_|refine .v ?_|refine sc_c ?_ ?_<;>(intro hb;try exact dd hb)|apply ao|apply aG|(apply sc_i<;>intro hb)|(apply bx_i;intro hbd)|(apply ax;first|exact hI (by omega)|exact hW)|(apply aw (i:=0) rfl;first|exact hI (by omega)|exact hW)|(apply ab_i;intro bl)|(apply as_i;intro va vk vc hva)|(apply av_i;intro v)|(apply ac_i;intro bl cap hcap)|apply bo_l|(apply nx_i<;>intro hnx)|apply dw_q mixed hC hGL (by kernel_rfl)|(apply cq;assumption;(first|exact hI (by omega)|exact hW);exact rfl)|(show Rt _ _ _;exact rt_w)|fail)
   all_goals try conv=>whnf
   ·apply ak
    rw[Bool.and_eq_true,decide_eq_true_eq,decide_eq_true_eq] at hb
    rw[g3,nY (by omega) (yu.2 (.inr ⟨by simp;omega,by omega⟩)) hb0]
    rfl
   ·rw[Bool.and_eq_false_iff,decide_eq_false_iff_not,decide_eq_false_iff_not] at hb
    refine nxt (i+1) ?_ ?_ ae rfl
    ·refine⟨by omega,bG hb0 (yr.2 ⟨by assumption,fun _=> ?_⟩)⟩
     have:=(wx (c:=(aa x i:Int)) (by assumption) (by have:=rG hm (j:=i) (by omega);omega))
     omega
    ·omega
   ·refine nxt (i+1) ?_ ?_ ae rfl
    ·exact⟨by omega,bG hb0 (yr.2 ⟨by assumption,fun h=>by simp at h;omega⟩)⟩
    ·omega
   ·apply ak
    rw[g3,nY (by omega) (yu.2 (.inl hb)) hb0]
    rfl
  ·apply ak
   have hp:=iA (first:=decide (k=0)) (a:=a) (x:=x) (fun j hj=>hb0 j (by omega))
   rw[if_pos (by omega)] at hp
   rw[g3,hp]
   rfl
  ·apply ak
   have hp:=iA (first:=decide (k=0)) (a:=a) (x:=x) (fun j hj=>hb0 j (by omega))
   rw[if_neg (by omega),if_pos (by omega)] at hp
   rw[g3,hp]
   rfl
  ·have hp:=iA (first:=decide (k=0)) (a:=a) (x:=x) (fun j hj=>hb0 j (by omega))
   rw[if_neg (by omega),if_neg (by omega)] at hp
   rw[hp,if_pos (show Err.none.isNone=true from rfl)] at g3
   refine nxs (k+1,a+x.length+1) ⟨by omega,by dsimp only;omega,?_⟩ (by dsimp only;omega) ⟨rfl,?_,rfl,rfl,rfl,trivial⟩ (by repeat (first|exact List.nil_sublist _|apply List.Sublist.cons_cons|apply List.Sublist.cons))
   ·dsimp only
    rw[g3]
    simp
   ·exact congrArg (fun z=>some (AVal.int .i64 z)) (by dsimp only;omega)
 ·refine xw1 ?_
  intros
  apply ak
  rw[g3,List.drop_eq_nil_of_le (by omega),cC]
  rfl
end
end Go.Proofs.YtdpbejofgemloaaGreatDoor
