/- Parts of the proof of canonItems_card. -/
import Derived.Lib.SlicesCompact
import Derived.Lib.Bytealg
import Derived.Lib.SliceRun
import Derived.Test.YtmdhmodenkjmdaaGreatDoorBaj
set_option linter.unusedVariables false
set_option linter.unusedSimpArgs false
set_option linter.unusedSectionVars false
namespace Go.Proofs.YtmdhmodenkjmdaaGreatDoor
open Go Go.RowKit
open Tryz
set_option maxRecDepth 20000
set_option maxHeartbeats 4000000
section
attribute [local irreducible] bI ap aa az aW ab ad
theorem Ev {l:List (List UInt8)}{j:Nat}(h:j<l.length):Lib.lens (l.take (j+1))=Lib.lens (l.take j)+(l.getD j []).length:=
 Lib.lens_take_succ l j _ (by rw[List.getD_eq_getElem?_getD,List.getElem?_eq_getElem h];rfl)
theorem L5 (t:Int)(L:List (List (List UInt8))):(pF t L).p= -1:=by unfold pF;(repeat' split)<;>rfl
theorem Vl.E_at (v:Vl):v.E.p= -1:=by
 unfold Vl.E
 (repeat' split)
 ·rfl
 ·exact L5 _ _
 ·exact Err.b_p _
 ·exact Stm.E_p _
 ·unfold iw;split<;>rfl
 ·exact Err.b_p _
 ·rfl
 ·rfl
theorem Ll (s:List UInt8)(h:(fZ s).e=0):fZ s= .none:=by
 unfold fZ at h ⊢
 (repeat' split at h)<;>first|(exfalso;revert h;simp[Err.e];done)|(rename_i h1 h2 h3;rw[if_neg h1,if_neg h2,if_neg h3])
theorem CX:∀(l:List (List UInt8)) (b:Bool) (a:Nat),(dp b a l).e=0->dp b a l= .none
 |[],_,_,_=>rfl
 |x::xs,b,a,h=>by
  rw[mG] at h ⊢;split at h
  ·rename_i k;rw[if_pos k];exact CX xs _ _ h
  ·rename_i k;exfalso;revert h k
   unfold cQ
   (repeat' split)<;>simp[Err.e,Err.isNone]
theorem Err.b_none {x:Err}(h:x.e=0->x= .none)(k:x.b.e=0):x.b= .none:=by
 rw[Err.b_e] at k;rw[h k];rfl
theorem Vl.E_zero (v:Vl)(h:v.E.e=0):v.E= .none:=by
 revert h
 unfold Vl.E
 (repeat' split)
 ·intro h;cases h
 ·unfold pF;(repeat' split)<;>intro h<;>first|rfl|cases h
 ·exact Err.b_none (Ll _)
 ·unfold Stm.E;(repeat' split)<;>intro h<;>first|rfl|cases h
 ·unfold iw;(repeat' split)<;>intro h<;>first|rfl|cases h
 ·exact Err.b_none (CX _ _ _)
 ·intro _;rfl
 ·intro h;cases h
attribute [local irreducible] Vl.E Vl.T dR
theorem Ey {G:Glo}(v:Vl)(hs:v.s.length<=2000000)(hL:Small v.L):ad prog G 11 [v.A] [] (λr H=>(∃a,r= .ret a/\∃b,a= .bool b/\(b=false->v.s.length<=2500))/\H=[]):=by
 have hn:=hL.n;refine aw func11 call11 λC hC hGL=> ?_;refine aZ ?_
 refine lp hC hGL (λx:Nat×Nat=>[(3,.int .i64 (x.2:Nat)),(16,.list 1 v.L.length (bF v.L)),(17,.int .i64 (v.L.length:Nat)),(18,.int .i64 (x.1:Nat))]) (λ_=>[]) (λx=>x.1<=v.L.length/\v.s.length<=x.2/\x.2<=v.s.length+v.L.length+4000000*x.1) (λx=>v.L.length-x.1) (0,v.s.length+v.L.length) ?_ ai rfl ?_
 ·exact⟨Nat.zero_le _,Nat.le_add_right _ _,Nat.le_refl _⟩
 rintro⟨k,n⟩ ⟨h1,h2,h3⟩
 dsimp only at h1 h2 h3
 have hk:=hL.k k
 refine xw ?_
 repeat' first|exact .n|apply Lc.mk
 all_goals intros
 ·refine lp hC hGL (λx:Nat×Nat=>[(3,.int .i64 (x.2:Nat)),(16,.list 1 v.L.length (bF v.L)),(17,.int .i64 (v.L.length:Nat)),(18,.int .i64 (k:Nat)),(26,.list 1 (v.L.getD k []).length (aE (v.L.getD k []))),(27,.int .i64 ((v.L.getD k []).length:Nat)),(28,.int .i64 (x.1:Nat))]) (λ_=>[]) (λx=>x.1<=(v.L.getD k []).length/\v.s.length<=x.2/\x.2<=v.s.length+v.L.length+4000000*k+2000000+Lib.lens ((v.L.getD k []).take x.1)) (λx=>(v.L.getD k []).length-x.1) (0,n+(v.L.getD k []).length) ?_ ai rfl ?_
  ·exact⟨Nat.zero_le _,by dsimp only;omega,by dsimp only;omega⟩
  rintro⟨j,q⟩ ⟨g1,g2,g3⟩
  dsimp only at g1 g2 g3
  have hj1:=Lib.lens_take_le (v.L.getD k []) j
  have hj2:=Lib.lens_take_le (v.L.getD k []) (j+1)
  have hj3:j<(v.L.getD k []).length->Lib.lens ((v.L.getD k []).take (j+1))=Lib.lens ((v.L.getD k []).take j)+((v.L.getD k []).getD j []).length:=λh=>Ev h
  refine xw ?_
  repeat' first|exact .n|apply Lc.mk
  all_goals intros
  all_goals try dsimp only at*
  ·refine db (j+1,q+((v.L.getD k []).getD j []).length) ⟨by dsimp only;omega,by dsimp only;omega,?_⟩ (by dsimp only;omega) ai rfl
   dsimp only
   rw[hj3 (by omega)]
   omega
  ·exact db (k+1,q) ⟨by dsimp only;omega,by dsimp only;omega,by dsimp only;omega⟩ (by dsimp only;omega) ai rfl
 ·refine⟨[],List.nil_sublist _,⟨_,rfl,_,rfl,λh=> ?_⟩,rfl⟩
  have h:=jU.1 h
  dsimp only at h
  omega
end
section
def wi (f:Nat->Int):Nat->Int
 |0=>0
 |n+1=>if wi f n=0 then f n else wi f n
theorem oJ {f:Nat->Int}:∀{n:Nat},(∀j,j<n->f j=0)->wi f n=0
 |0,_=>rfl
 |n+1,h=>by rw[wi,if_pos (oJ λj hj=>h j (by omega)),h n (by omega)]
theorem wg {f:Nat->Int}{k:Nat}:∀{n:Nat},k<n->(∀j,j<k->f j=0)->f k≠0->wi f n=f k
 |0,h,_,_=>absurd h (Nat.not_lt_zero _)
 |n+1,h,h1,h2=>by
  rw[wi];rcases Nat.lt_or_ge k n with g|g
  ·rw[wg g h1 h2,if_neg h2]
  ·obtain rfl:k=n:=by omega
   rw[if_pos (oJ h1)]
def Mt (f:Nat->Int):Nat->Err
 |0=>.none
 |n+1=>match Mt f n with
  |.none=>if f n=0 then .none else .at (f n) n
  |e=>e
def Db (n:List UInt8):Bool:=ca (ao 97 122 (-32) n) [66,69,71,73,78]||(ca (ao 97 122 (-32) n) [69,78,68]||ca (ao 97 122 (-32) n) [86,69,82,83,73,79,78])
def pE (ps:List Pr)(i:Nat):Int:=if(ps.getD i Pr.z).fit=false then 3 else if ao 97 122 (-32) (ps.getD i Pr.z).n≠nTYP/\cD (ps.getD i Pr.z).n ps 0<(i:Int) then 9 else 0
def kG (ps:List Pr):Int:=wi (pE ps) ps.length
theorem HD {s:List UInt8}{l:List Pr}:∀{j:Nat},j<l.length->ao 97 122 (-32) (l.getD j Pr.z).n=ao 97 122 (-32) s->cD s l 0<=(j:Int):=by
 intro j;induction j using Nat.strongRecOn with
 |_ j ih=>
  intro hj he;by_cases h:∃i,i<j/\ao 97 122 (-32) (l.getD i Pr.z).n=ao 97 122 (-32) s
  ·obtain⟨i,hi,h⟩:=h;have:=ih i hi (by omega) h;omega
  ·rw[kQ 0 hj (λi hi e=>h ⟨i,hi,e⟩) he];omega
theorem oM {l:List Pr}{i:Nat}(hi:i<l.length):cD (l.getD i Pr.z).n l 0<(i:Int)↔∃j,j<i/\ao 97 122 (-32) (l.getD j Pr.z).n=ao 97 122 (-32) (l.getD i Pr.z).n:=by
 constructor
 ·intro h;apply Classical.byContradiction;intro hn;rw[kQ 0 hi (λj hj e=>hn ⟨j,hj,e⟩) rfl] at h;omega
 ·rintro⟨j,hj,h⟩;have:=HD (s:=(l.getD i Pr.z).n) (l:=l) (j:=j) (by omega) h;omega
theorem L6 {ps:List Pr}{i:Nat}(h:(ps.getD i Pr.z).fit=false):pE ps i=3:=by unfold pE;rw[if_pos h]
theorem NF {ps:List Pr}{i:Nat}(h:(ps.getD i Pr.z).fit=true)(h1:ao 97 122 (-32) (ps.getD i Pr.z).n≠nTYP)(h2:cD (ps.getD i Pr.z).n ps 0<(i:Int)):pE ps i=9:=by unfold pE;rw[if_neg (by rw[h];decide),if_pos ⟨h1,h2⟩]
theorem L7 {ps:List Pr}{i:Nat}(h:(ps.getD i Pr.z).fit=true)(h1:¬(ao 97 122 (-32) (ps.getD i Pr.z).n≠nTYP/\cD (ps.getD i Pr.z).n ps 0<(i:Int))):pE ps i=0:=by unfold pE;rw[if_neg (by rw[h];decide),if_neg h1]
theorem ig {ps:List Pr}{k:Nat}(hk:k<ps.length)(h:∀j,j<k->pE ps j=0)(h1:pE ps k≠0):kG ps=pE ps k:=wg hk h h1
theorem GE {ps:List Pr}{k:Nat}(hk:ps.length<=k)(h:∀j,j<k->pE ps j=0):kG ps=0:=oJ λj hj=>h j (by omega)
def Itm.k (v:Int)(x:Itm):Int:=eK v x.1.n x.1.ps
def Itm.ln (x:Itm):Ln:=⟨x.1.g,x.1.n,x.1.ps,x.2.T⟩
def Itm.L (v:Int)(x:Itm):List UInt8:=x.ln.T (cY v 4)
def Itm.r (v:Int)(x:Itm):Int:=if x.2.t=3/\0<(bO v x.1.n).p/\(bO v x.1.n).p≠(x.2.L.length:Int) then 2 else if 1500<(x.L v).length then 4 else 0
def Itm.w (v:Int)(x:Itm):Int:=match x.p.E (cY v 4) with
 |.none=>if Db x.1.n=true then 5 else if kG x.1.ps≠0 then kG x.1.ps else if x.k v≠x.2.t then 1 else match x.2.E with
  |.none=>x.r v
  |e=>e.e
 |e=>e.e
theorem IV {v:Int}{x:Itm}(h:x.p.E (cY v 4)≠ .none):x.w v=(x.p.E (cY v 4)).e:=by
 unfold Itm.w;split
 ·rename_i k;exact absurd k h
 ·rfl
theorem Lj {v:Int}{x:Itm}(h:x.p.E (cY v 4)= .none)(h1:Db x.1.n=true):x.w v=5:=by
 unfold Itm.w;rw[h];simp only[h1,if_true]
theorem Fz {v:Int}{x:Itm}(h:x.p.E (cY v 4)= .none)(h1:Db x.1.n=false)(h2:kG x.1.ps≠0):x.w v=kG x.1.ps:=by
 unfold Itm.w;rw[h];simp only[h1,Bool.false_eq_true,if_false,if_pos h2]
theorem FA {v:Int}{x:Itm}(h:x.p.E (cY v 4)= .none)(h1:Db x.1.n=false)(h2:kG x.1.ps=0)(h3:x.k v≠x.2.t):x.w v=1:=by
 unfold Itm.w;rw[h];simp only[h1,Bool.false_eq_true,if_false,h2,ne_eq,not_true_eq_false,if_pos h3]
theorem KH {v:Int}{x:Itm}(h:x.p.E (cY v 4)= .none)(h1:Db x.1.n=false)(h2:kG x.1.ps=0)(h3:x.k v=x.2.t)(h4:x.2.E≠ .none):x.w v=x.2.E.e:=by
 unfold Itm.w;rw[h];simp only[h1,Bool.false_eq_true,if_false,h2,h3,ne_eq,not_true_eq_false]
theorem w_r {v:Int}{x:Itm}(h:x.p.E (cY v 4)= .none)(h1:Db x.1.n=false)(h2:kG x.1.ps=0)(h3:x.k v=x.2.t)(h4:x.2.E= .none):x.w v=x.r v:=by
 unfold Itm.w;rw[h];simp only[h1,Bool.false_eq_true,if_false,h2,h3,h4,ne_eq,not_true_eq_false]
theorem Ln.E_v {c:Bool}{p:Ln}{v:List UInt8}(h:Ln.E c ⟨p.g,p.n,p.ps,[]⟩= .none)(hv:dR false v=true):Ln.E c ⟨p.g,p.n,p.ps,v⟩= .none:=by
 unfold Ln.E at h ⊢;dsimp only at h ⊢;split at h
 ·cases h
 ·rename_i h1;rw[if_neg h1];split at h
  ·cases h
  ·rename_i h2;rw[if_neg h2];split at h
   ·rename_i h3;simp only[hv,if_true]
   ·rename_i h3;exact absurd h h3
theorem HC {c:Bool}:∀{l:List Pr} {i:Nat},(gM c l i).e=0->gM c l i= .none
 |[],_,_=>rfl
 |q::l,i,h=>by
  simp only[gM] at h ⊢;split at h
  ·rename_i g;rw[if_pos g];exact HC h
  ·rename_i g;exact absurd h g
theorem KN {c:Bool}{p:Ln}(h:(p.E c).e=0):p.E c= .none:=by
 unfold Ln.E at h ⊢;split
 ·rename_i g;rw[if_pos g] at h;cases h
 ·rename_i g;rw[if_neg g] at h;split
  ·rename_i g2;rw[if_pos g2] at h;cases h
  ·rename_i g2;rw[if_neg g2] at h;have h0:=HC (c:=c) (l:=p.ps) (i:=0);cases hf:gM c p.ps 0 with
   |none=>
    rw[hf] at h;dsimp only at h ⊢;split
    ·rfl
    ·rename_i g3;rw[if_neg g3] at h;cases h
   |errno e=>rw[hf] at h h0;exact absurd (h0 h) (λk=>by cases k)
   | «at» e q=>rw[hf] at h h0;exact absurd (h0 h) (λk=>by cases k)
theorem Lh {v:Int}{x:Itm}(h:x.w v=0):x.p.E (cY v 4)= .none:=by
 unfold Itm.w at h;split at h
 ·rename_i k;exact k
 ·exact KN h
theorem Li {v:Int}{x:Itm}(h:x.w v=0):x.ln.E (cY v 4)= .none:=Ln.E_v (p:=x.ln) (Lh h) (Vl.T_hd _)
theorem w_E {v:Int}{x:Itm}(h:x.w v=0):x.2.E= .none:=by
 have h0:=Lh h;unfold Itm.w at h;rw[h0] at h;dsimp only at h
 split at h
 ·cases h
 split at h
 ·rename_i k;exact absurd h k
 split at h
 ·cases h
 split at h
 ·assumption
 ·rename_i k
  exact Vl.E_zero _ h
def Itm.lE (v:Int)(x:Itm):Err:=if v=3\/v=4 then if x.w v=0 then .none else .errno (x.w v) else .errno 1
def Itm.lT (v:Int)(x:Itm):List UInt8:=if v=3\/v=4 then if x.w v=0 then x.L v else[] else[]
def E2 (l:List Itm)(s:List UInt8)(k:Nat):Nat:=((l.take k).filter λx=>ca (ao 97 122 (-32) x.1.n) s).length
def GW (v:Int)(l:List Itm)(i:Nat):Int:=if 0<(bO v (l.getD i Itm.z).1.n).b/\(bO v (l.getD i Itm.z).1.n).b<=(E2 l (ao 97 122 (-32) (l.getD i Itm.z).1.n) i:Int) then 9 else 0
def OB (v:Int)(l:List Itm)(i:Nat):Int:=if(E2 l ((ri v).getD i []) l.length:Int)<(bO v ((ri v).getD i [])).a then 7 else 0
def wV.E (c:wV):Err:=if c.v=3\/c.v=4 then
  if 60<c.l.length then .errno 4
  else match Mt (λi=>(c.l.getD i Itm.z).w c.v) c.l.length with
   |.none=>match Mt (GW c.v c.l) c.l.length with
    |.none=>if wi (OB c.v c.l) (ri c.v).length=0 then .none else .errno 7
    |e=>e
   |e=>e
 else .errno 1
theorem zi {s:List UInt8}:∀l:List (List UInt8×Rl),(∀x∈l,0<=x.2.p)->0<=(dY s l).p
 |[],_=>by show(0:Int)<=0;decide
 |x::t,h=>by
  unfold dY;split
  ·exact h x (List.mem_cons_self ..)
  ·exact zi t λy hy=>h y (List.mem_cons_of_mem _ hy)
theorem L1 (v:Int)(s:List UInt8):0<=(bO v s).p:=by
 unfold bO;split
 ·rename_i h;refine zi _ λx hx=> ?_;have:∀w:Int,(w=3\/w=4)->(de w).all (λx=>decide (0<=x.2.p))=true:=by
   rintro w (rfl|rfl)<;>decide
  exact of_decide_eq_true (List.all_eq_true.1 (this v h) x hx)
 ·decide
def wV.ok (c:wV):Prop:=c.l.length<=1000000/\∀x∈c.l,Itm.OK 10000 x
theorem wV.fine.ok {c:wV}(h:c.fine):c.ok:=⟨by have:=h.1;omega,λx hx=>(h.2 x hx).mono (by decide)⟩
theorem Itm.fit {x:Itm}(h:x.OK 10000):x.ln.Fit:=⟨h.p.g,h.p.n,Vl.T_len (by have:=h.s;omega) h.L,h.p.ps,h.p.q⟩
theorem Itm.OK.v {x:Itm}(h:x.OK 10000):x.2.OK:=⟨by have:=h.s;omega,h.L.n,λk=>(h.L.k k).1,λk j=>by have:=(h.L.k k).2;have:=cR (l:=x.2.L.getD k []) (k:=j);omega⟩
end
section
abbrev lowS (s:List UInt8):List UInt8:=ao 65 90 32 s
abbrev ix (s:List UInt8):List UInt8:=ao 97 122 (-32) s
def canonP (k:Nat)(y:List UInt8):List UInt8:=if 0<k/\y.length=2 then ix y else if 0<k/\y.length=4 then ix (y.take 1)++y.drop 1 else y
def eG (ps:List (List UInt8)):List (List UInt8):=ps.mapIdx λk y=>canonP k (lowS y)
theorem r9 (ps:List (List UInt8)):(eG ps).length=ps.length:=by simp[eG]
theorem BO {ps:List (List UInt8)}{k:Nat}(h:k<ps.length):(eG ps)[k]? =some (canonP k (lowS (ps.getD k []))):=by
 simp[eG,List.getElem?_mapIdx,List.getD,List.getElem?_eq_getElem h]
theorem eZ (a b d:Int)(s:List UInt8):(ao a b d s).length=s.length:=by simp[ao]
theorem r8 (k:Nat)(y:List UInt8):(canonP k y).length=y.length:=by
 unfold canonP;split
 ·rw[eZ]
 ·split
  ·rw[List.length_append,eZ,List.length_take,List.length_drop];omega
  ·rfl
def ii (s:List UInt8):List UInt8:=if(bM s).isNone then Lib.join (eG (bq 45 s)) [45] else[]
theorem xD {c:UInt8}{f:UInt8->UInt8}(hf:∀x,f x=c↔x=c):∀s:List UInt8,bq c (s.map f)=(bq c s).map (List.map f)
 |[]=>rfl
 |x::t=>by
  rw[List.map_cons,bq,bq,xD hf t];by_cases h:x=c
  ·rw[if_pos h,if_pos ((hf x).2 h)];rfl
  ·rw[if_neg h,if_neg (λe=>h ((hf x).1 e))];cases bq c t with
   |nil=>rfl
   |cons p ps=>rfl
theorem DK (s:List UInt8):bq 45 (lowS s)=(bq 45 s).map lowS:=by
 have key:∀x:_root_.Fin 256,UInt8.ofNat (dm 65 90 32 (UInt8.ofNat x.1).toNat).toNat=45↔UInt8.ofNat x.1=45:=by decide+kernel
 refine xD (λx=> ?_) s;have:=key ⟨x.toNat,UInt8.toNat_lt x⟩;simpa using this
theorem oa {L:List (List UInt8)}{k:Nat}(h:k<L.length):(aY L)[k]? =some (.str (L.getD k [])):=by
 simp[aY,List.getD,List.getElem?_eq_getElem h]
theorem tu (L:List (List UInt8))(k:Nat)(y:List UInt8)(h:k<L.length):(aY L).take k++[.str y]++(aY L).drop (k+1)=aY (L.set k y):=by
 unfold aY;rw[List.map_set,List.set_eq_take_append_cons_drop,if_pos (by simpa using h)];simp
def fJ (ps:List (List UInt8))(k:Nat)(L:List (List UInt8)):Prop:=L.length=ps.length/\k<=ps.length/\∀j,j<ps.length->L.getD j []=if j<k then canonP j (ps.getD j []) else ps.getD j []
theorem Ke (ps:List (List UInt8)):fJ ps 0 ps:=⟨rfl,Nat.zero_le _,λj _=>by rw[if_neg (by omega)]⟩
theorem Ie {ps L:List (List UInt8)}{k:Nat}(h:fJ ps k L)(hk:k<ps.length):L.getD k []=ps.getD k []:=by
 rw[h.2.2 k hk,if_neg (by omega)]
theorem Hw (L:List (List UInt8))(k j:Nat)(y:List UInt8)(hk:k<L.length):(L.set k y).getD j []=if j=k then y else L.getD j []:=by
 by_cases e:j=k
 ·subst e;rw[if_pos rfl];simp[List.getD,hk]
 ·rw[if_neg e];simp[List.getD,List.getElem?_set_ne (Ne.symm e)]
theorem uH {ps L:List (List UInt8)}{k:Nat}(h:fJ ps k L)(hk:k<ps.length){y:List UInt8}(hy:y=canonP k (ps.getD k [])):fJ ps (k+1) (L.set k y):=by
 refine⟨by rw[List.length_set];exact h.1,hk,λj hj=> ?_⟩;rw[Hw _ _ _ _ (by rw[h.1];exact hk)];by_cases e:j=k
 ·subst e;rw[if_pos rfl,if_pos (by omega),hy]
 ·rw[if_neg e,h.2.2 j hj];by_cases e2:j<k
  ·rw[if_pos e2,if_pos (by omega)]
  ·rw[if_neg e2,if_neg (by omega)]
theorem zy {ps L:List (List UInt8)}{k:Nat}(h:fJ ps k L)(hk:k<ps.length)(hy:ps.getD k []=canonP k (ps.getD k [])):fJ ps (k+1) L:=by
 refine⟨h.1,hk,λj hj=> ?_⟩;rw[h.2.2 j hj];by_cases e:j=k
 ·subst e;rw[if_neg (by omega),if_pos (by omega)];exact hy
 ·by_cases e2:j<k
  ·rw[if_pos e2,if_pos (by omega)]
  ·rw[if_neg e2,if_neg (by omega)]
theorem E4 {ps L:List (List UInt8)}{k:Nat}(h:fJ ps k L)(hk:ps.length<=k):L=ps.mapIdx canonP:=by
 refine List.ext_getElem (by rw[h.1];simp) (λj h1 h2=> ?_);have hj:j<ps.length:=by rw[<-h.1];exact h1
 have:=h.2.2 j hj;rw[if_pos (by omega)] at this;simpa[List.getD,List.getElem?_eq_getElem h1,List.getElem?_eq_getElem hj] using this
theorem BN (ps:List (List UInt8)):(ps.map lowS).mapIdx canonP=eG ps:=by
 unfold eG;refine List.ext_getElem (by simp) (λj h1 h2=>by simp)
theorem ug (n:Nat):∀(L:List (List UInt8)),(∀p,p∈L->p.length<=n)->(Lib.join L [45]).length<=L.length*(n+1)
 |[],_=>by simp[Lib.join_nil]
 |x::r,h=>by
  rw[Lib.join_length];have h1:∀(r:List (List UInt8)),(∀p,p∈r->p.length<=n)->Lib.lens r<=r.length*n:=by
   intro r hr;induction r with
   |nil=>simp[Lib.lens]
   |cons y t ih=>
    have:=ih (λp hp=>hr p (by simp[hp]));have h2:=hr y (by simp);simp only[Lib.lens,List.map_cons,List.sum_cons,List.length_cons,Nat.succ_mul] at*
    omega
  have:=h1 (x::r) h;simp only[List.length_cons,List.length_nil,Nat.succ_mul,Nat.mul_add] at*
  omega
end
section
theorem Ob (L:List (List UInt8))(j:Nat)(h:j<L.length):L.toArray[j]! =L.getD j []:=by
 rw[getElem!_pos _ j (by simpa using h)];simp[List.getD,h]
theorem EM {R:Seal}{w:World}{b cap e:Nat}{C:Array Value}{fz:Nat×Nat}{L:List (List UInt8)}(hb:w.heap[b]? =some (.cells C e fz))(hC:C.size=cap)(hn:L.length<=cap)(hr:bA R (aY L) (C.toList.take L.length))(hz:gX fz C.size):Sort.Holds encStr w b 0 L.toArray:=by
 intro j hj;have hj:j<L.length:=by simpa using hj
 have hv:=iy hr;have hc:C[j]? =some (encStr (L.getD j [])):=by
  have h1:(C.toList.take L.length)[j]? =some (encStr (L.getD j [])):=by
   rw[hv,List.getElem?_map,List.getD_eq_getElem?_getD,List.getElem?_eq_getElem hj];rfl
  rw[List.getElem?_take_of_lt hj] at h1;simpa using h1
 refine⟨?_,?_⟩
 ·rw[Ob L j hj];simp only[World.cell?,hb,Nat.zero_add];exact hc
 ·simp only[World.frozen?,hb,gX] at hz ⊢;rw[Bool.eq_false_iff];simp;omega
theorem tP {w:World}{b e:Nat}{C:Array Value}{fz:Nat×Nat}{D:List (List UInt8)}(hb:w.heap[b]? =some (.cells C e fz)):iJ w b (.cells (Sort.putCells encStr 0 D.toArray C) e fz) (Sort.putRow encStr w b 0 D.toArray):=by
 refine⟨rfl,rfl,rfl,?_,?_,λk hk=> ?_⟩
 ·simp[Sort.putRow,Sort.mapBlock]
 ·simp[Sort.putRow,Sort.mapBlock,Array.getElem?_modify,hb,Sort.onCells]
 ·simp[Sort.putRow,Sort.mapBlock,Array.getElem?_modify,Ne.symm hk]
theorem Ej {C:Array Value}{D:List (List UInt8)}(h:D.length<=C.size)(R:Seal)(m:Nat)(hm:m<=D.length):bA R (aY (D.take m)) ((Sort.putCells encStr 0 D.toArray C).toList.take m):=by
 have e:(Sort.putCells encStr 0 D.toArray C).toList.take m=(D.take m).map λs=>Value.string ⟨s.toArray⟩:=by
  apply List.ext_getElem?;intro i;by_cases hi:i<m
  ·have hD:i<D.length:=by omega
   have hCi:i<C.size:=by omega
   rw[List.getElem?_take_of_lt hi,List.getElem?_map,List.getElem?_take_of_lt hi];simp[Sort.putCells,hCi,hD]
  ·rw[List.getElem?_eq_none (by simp;omega),List.getElem?_eq_none (by simp;omega)]
 rw[e];exact ll _ _
abbrev wU (eT:Option TypeId)(b cap:Nat)(L:List (List UInt8)):HEnt:=.row (.slice (some ⟨b,0,none⟩) L.length cap) eT 1 L.length (aY L)
theorem MS.put {C:Ctx}{R:Seal}{w:World}{eT:Option TypeId}{b cap m:Nat}{L D:List (List UInt8)}(h:MS C R [wU eT b cap L] w)(hD:D.length=L.length)(hm:m<=D.length)(n:Nat)(os:Array Obj):
  MS C R [.row (.slice (some ⟨b,0,none⟩) m cap) eT 1 m (aY (D.take m))] (Sort.grow (Sort.putRow encStr (Sort.ahead w n) b 0 D.toArray) os):=by
 obtain⟨hlen,h0⟩:=h.heap.holds _ (List.mem_cons_self ..);rcases h0 with⟨h0,_⟩|⟨b',cap',Cs,e,fz,hv,hb,hC,hn,hr,hz,hT⟩
 ·exact absurd h0 (by simp)
 ·simp only[Value.slice.injEq,Option.some.injEq,Addr.mk.injEq,and_true,true_and] at hv;obtain⟨rfl,rfl⟩:=hv;rw[Nat.mul_one] at hC hr;have h2:=(h.drawn (w.drawn+n)).write (i:=0) (y:=.row (.slice (some ⟨b,0,none⟩) m cap) eT 1 m (aY (D.take m))) rfl rfl (tP (D:=D) (w:=Sort.ahead w n) hb) rfl ?_
  ·have hx:Below (Sort.putRow encStr (Sort.ahead w n) b 0 D.toArray).heap.size (Sort.putRow encStr (Sort.ahead w n) b 0 D.toArray) (Sort.grow (Sort.putRow encStr (Sort.ahead w n) b 0 D.toArray) os):=by
    refine⟨rfl,rfl,rfl,by simp[Sort.grow],λk hk=> ?_⟩;simp only[Sort.grow];rw[Array.getElem?_append_left hk]
   exact h2.below hx
  ·refine⟨by rw[n9,List.length_take];omega,.inr ⟨b,cap,_,e,fz,rfl,(tP (D:=D) (w:=Sort.ahead w n) hb).at_,?_,by omega,?_,?_,hT⟩⟩
   ·simp[Sort.putCells,hC]
   ·rw[Nat.mul_one];exact Ej (by omega) R m hm
   ·simpa[Sort.putCells] using hz
theorem MS.holdsS {C:Ctx}{R:Seal}{w:World}{eT:Option TypeId}{b cap:Nat}{L:List (List UInt8)}(h:MS C R [wU eT b cap L] w):Sort.Holds encStr w b 0 L.toArray/\b<w.heap.size/\L.length<=cap:=by
 obtain⟨hlen,h0⟩:=h.heap.holds _ (List.mem_cons_self ..);rcases h0 with⟨h0,_⟩|⟨b',cap',Cs,e,fz,hv,hb,hC,hn,hr,hz,hT⟩
 ·exact absurd h0 (by simp)
 ·simp only[Value.slice.injEq,Option.some.injEq,Addr.mk.injEq,and_true,true_and] at hv;obtain⟨rfl,rfl⟩:=hv;rw[Nat.mul_one] at hC hr;exact⟨EM hb hC hn hr hz,jK hb,hn⟩
theorem pf {P:Program}{G:Glo}{f:FuncId}{eT:Option TypeId}{b cap:Nat}{L D:List (List UInt8)}(hc:∀args w,(callFunc f args).run P w= .ok (.enter f args) w)(hD:D.length=L.length)
  (h:∀w:World,Sort.Holds encStr w b 0 L.toArray->b<w.heap.size->L.length<=cap->Calls P f #[.slice (some ⟨b,0,none⟩) L.length cap] w λe w'=>e= .returned (.tuple #[])/\∃n os,w'=Sort.grow (Sort.putRow encStr (Sort.ahead w n) b 0 D.toArray) os):
  ad P G f [.raw (.slice (some ⟨b,0,none⟩) L.length cap)] [wU eT b cap L] (λr H=>r= .ret (.tuple [])/\H=[wU eT b cap D]):=by
 rintro R w args hG hm ⟨x,l,e,hx,rfl⟩;obtain rfl:=al.1 hx;obtain rfl:=dN e;obtain⟨h1,h2,h3⟩:=hm.holdsS;refine .inl ⟨hc _ w,(h w h1 h2 h3).mono ?_⟩;rintro e w' ⟨rfl,n,os,rfl⟩;have k:=hm.put hD (Nat.le_refl _) n os;rw[List.take_length] at k;exact⟨.ret (.tuple []),_,R,⟨rfl,rfl⟩,⟨_,rfl,⟨⟨_,rfl,rfl⟩,rfl⟩⟩,k⟩
theorem wm {P:Program}{G:Glo}{f:FuncId}{eT:Option TypeId}{b cap:Nat}{L D:List (List UInt8)}(hc:∀args w,(callFunc f args).run P w= .ok (.enter f args) w)(hD:D.length<=L.length)
  (h:∀w:World,Sort.Holds encStr w b 0 L.toArray->b<w.heap.size->L.length<=cap->Calls P f #[.slice (some ⟨b,0,none⟩) L.length cap] w λe w'=>e= .returned (.slice (some ⟨b,0,none⟩) D.length cap)/\∃q,w'=Sort.putRow encStr (Sort.ahead w q) b 0 (D++List.replicate (L.length-D.length) []).toArray):
  ad P G f [.raw (.slice (some ⟨b,0,none⟩) L.length cap)] [wU eT b cap L] (λr H=>r= .ret (.raw (.slice (some ⟨b,0,none⟩) D.length cap))/\H=[wU eT b cap D]):=by
 rintro R w args hG hm ⟨x,l,e,hx,rfl⟩;obtain rfl:=al.1 hx;obtain rfl:=dN e;obtain⟨h1,h2,h3⟩:=hm.holdsS;refine .inl ⟨hc _ w,(h w h1 h2 h3).mono ?_⟩;rintro e w' ⟨rfl,n,rfl⟩;have k:=hm.put (D:=D++List.replicate (L.length-D.length) []) (m:=D.length) (by simp;omega) (by simp) n #[];rw[List.take_left] at k;rw[show ∀w:World,Sort.grow w #[]=w from λw=>by simp[Sort.grow]] at k;exact⟨.ret (.raw (.slice (some ⟨b,0,none⟩) D.length cap)),_,R,⟨rfl,rfl⟩,⟨_,rfl,al.2 rfl⟩,k⟩
end
section
def eS (L:List (List UInt8)):List (List UInt8):=L.mergeSort λx y=>decide (x<=y)
variable {L T K:List (List UInt8)}
theorem og:(eS L).Perm L:=List.mergeSort_perm ..
theorem Cp:(eS L).Pairwise (· <= ·):=by
 refine(List.pairwise_mergeSort (λa b c h k=> ?_) (λa b=> ?_) L).imp λh=>of_decide_eq_true h
 ·exact decide_eq_true (List.le_trans (of_decide_eq_true h) (of_decide_eq_true k))
 ·rw[Bool.or_eq_true,decide_eq_true_eq,decide_eq_true_eq];exact List.le_total a b
theorem dS:(eS L).length=L.length:=og.length_eq
theorem yK {x:List UInt8}:x∈eS L↔x∈L:=og.mem_iff
abbrev LtS (a b:List UInt8):Prop:=a<=b/\a≠b
theorem rW (h:L.Pairwise (· <= ·)):∀m,m<=L.length->(Lib.compactUpTo L.toArray m).Pairwise LtS/\∀x,x∈Lib.compactUpTo L.toArray m↔x∈L.take m
 |0,_=>⟨by simp[Lib.compactUpTo],λx=>by simp[Lib.compactUpTo]⟩
 |m+1,hm=>by
  obtain⟨h1,h2⟩:=rW h m (by omega);have em:L.toArray[m]! =L[m]:=by rw[getElem!_pos _ m (by simp;omega)];simp
  have et:L.take (m+1)=L.take m++[L[m]]:=by rw[List.take_add_one,List.getElem?_eq_getElem (by omega)];rfl
  have hmon:∀i j,(hi:i<L.length)->(hj:j<L.length)->i<=j->L[i]<=L[j]:=λi j hi hj hij=>by
   rcases Nat.lt_or_eq_of_le hij with k|rfl
   ·exact List.pairwise_iff_getElem.1 h i j hi hj k
   ·exact List.le_refl _
  rw[Lib.compactUpTo_succ,em,et]
  by_cases hm0:m=0
  ·subst hm0
   rw[Lib.keeps_lt_one _ 0 (by decide)]
   simp[Lib.compactUpTo]
  ·have e1:L.toArray[m-1]! =L[m-1]:=by rw[getElem!_pos _ (m-1) (by simp;omega)];simp
   by_cases hk:L[m]=L[m-1]
   ·rw[Lib.keeps_neg (by omega) (by rw[em,e1];exact hk)]
    simp only[Bool.false_eq_true,if_false,List.append_nil]
    refine⟨h1,λx=> ?_⟩
    rw[h2,List.mem_append,List.mem_singleton,hk]
    refine⟨.inl,λh=>h.elim id λe=> ?_⟩
    subst e
    exact List.mem_take_iff_getElem.2 ⟨m-1,by omega,rfl⟩
   ·rw[Lib.keeps_pos (by rw[em,e1];exact hk)]
    simp only[if_true]
    refine⟨List.pairwise_append.2 ⟨h1,List.pairwise_singleton _ _,λa ha b hb=> ?_⟩,λx=> ?_⟩
    ·obtain rfl:=List.mem_singleton.1 hb
     obtain⟨i,hi,rfl⟩:=List.mem_take_iff_getElem.1 ((h2 a).1 ha)
     have hi':i<m/\i<L.length:=by omega
     refine⟨hmon i m hi'.2 (by omega) (by omega),λe=>hk (List.le_antisymm (e▸hmon i (m-1) hi'.2 (by omega) (by omega)) (hmon (m-1) m (by omega) (by omega) (by omega)))⟩
    ·rw[List.mem_append,List.mem_append,h2]
theorem wz (hK:K.Nodup)(h:∀x,x∈K↔x∈T):Lib.compact (eS T)=eS K:=by
 obtain⟨h1,h2⟩:=rW (Cp (L:=T)) (eS T).length (Nat.le_refl _);rw[List.take_length] at h2;have hn1:(Lib.compactUpTo (eS T).toArray (eS T).length).Nodup:=List.nodup_iff_pairwise_ne.2 (h1.imp And.right);have hn2:(eS K).Nodup:=og.nodup_iff.2 hK;exact List.Perm.eq_of_pairwise (le:=(· <= ·)) (λa b _ _=>List.le_antisymm) (h1.imp And.left) Cp ((List.perm_ext_iff_of_nodup hn1 hn2).2 λx=>by rw[h2,yK,yK,h])
end
section
def s6 (t:Int)(q:Pr):Pr:=⟨ix q.n,if ix q.n=valN then[jV t] else if ix q.n=nLAN then[ii (q.vs.getD 0 [])] else q.vs⟩
def nM (t r:Int)(q:Pr):Bool:= !(decide (ix q.n=nTYP)||(decide (ix q.n=valN)&&decide (r=t)))
def bN (t r:Int)(l:List Pr):List Pr:=(l.filter (nM t r)).map (s6 t)
def a8 (l:List Pr):List (List UInt8):=l.flatMap λq=>if ix q.n=nTYP then q.vs.map lowS else[]
theorem oO (t r:Int)(l:List Pr)(q:Pr):bN t r (l++[q])=bN t r l++if nM t r q=true then[s6 t q] else[]:=by
 unfold bN;rw[List.filter_append,List.map_append];by_cases h:nM t r q=true
 ·rw[if_pos h,List.filter_cons_of_pos h];rfl
 ·rw[if_neg h,List.filter_cons_of_neg h];rfl
theorem uJ (l:List Pr)(q:Pr):a8 (l++[q])=a8 l++if ix q.n=nTYP then q.vs.map lowS else[]:=by
 unfold a8;rw[List.flatMap_append];simp
theorem lg {l:List Pr}{k:Nat}(h:k<l.length):l.take (k+1)=l.take k++[l.getD k Pr.z]:=by
 rw[List.take_add_one,List.getElem?_eq_getElem h,List.getD_eq_getElem?_getD,List.getElem?_eq_getElem h];rfl
theorem p8 (t r:Int):∀l:List Pr,(bN t r l).length+(if a8 l=[] then 0 else 1)<=l.length
 |[]=>by simp[bN,a8]
 |q::l=>by
  have ih:=p8 t r l
  have e:a8 (q::l)=(if ix q.n=nTYP then q.vs.map lowS else[])++a8 l:=by simp[a8]
  have hi:(bN t r l).length<=l.length:=by omega
  have ec:bN t r (q::l)=(if nM t r q=true then[s6 t q] else[])++bN t r l:=by
   unfold bN
   by_cases h:nM t r q=true
   ·rw[if_pos h,List.filter_cons_of_pos h];rfl
   ·rw[if_neg h,List.filter_cons_of_neg h];rfl
  rw[ec,List.length_append,List.length_cons]
  by_cases h:ix q.n=nTYP
  ·have hb:¬nM t r q=true:=by unfold nM;rw[decide_eq_true h];simp
   rw[if_neg hb]
   split<;>simp<;>omega
  ·rw[e,if_neg h,List.nil_append]
   have:(if nM t r q=true then[s6 t q] else[]).length<=1:=by split<;>simp
   omega
def lQ (x:Pr):List Pr->List Pr
 |[]=>[x]
 |y::r=>if jv x.n y.n=true then y::lQ x r else x::y::r
def Ar (l:List Pr):List Pr:=l.foldl (λr x=>lQ x r) []
def cO (l:List Pr):List Pr:=(Ar l).reverse
theorem DJ (l:List Pr)(x:Pr):Ar (l++[x])=lQ x (Ar l):=by simp[Ar,List.foldl_append]
theorem yY (x:Pr):∀r:List Pr,(lQ x r).length=r.length+1
 |[]=>rfl
 |y::r=>by
  unfold lQ;split
  ·rw[List.length_cons,yY x r,List.length_cons]
  ·rfl
theorem yX {x z:Pr}:∀{r:List Pr},z∈lQ x r↔z=x\/z∈r
 |[]=>by simp[lQ]
 |y::r=>by
  unfold lQ;split
  ·rw[List.mem_cons,yX,List.mem_cons];constructor<;>rintro(h|h|h)<;>simp[h]
  ·rw[List.mem_cons]
theorem kn {z:Pr}:∀{l:List Pr} {r:List Pr},z∈l.foldl (λr x=>lQ x r) r↔z∈l\/z∈r
 |[],r=>by simp
 |x::l,r=>by
  rw[List.foldl_cons,kn,yX,List.mem_cons];constructor
  ·rintro(h|h|h)<;>simp[h]
  ·rintro((h|h)|h)<;>simp[h]
theorem GX {l:List Pr}{z:Pr}:z∈cO l↔z∈l:=by
 unfold cO Ar;rw[List.mem_reverse,kn];simp
theorem ko:∀(l:List Pr) (r:List Pr),(l.foldl (λr x=>lQ x r) r).length=l.length+r.length
 |[],r=>by simp
 |x::l,r=>by rw[List.foldl_cons,ko l,yY,List.length_cons];omega
theorem gC (l:List Pr):(cO l).length=l.length:=by
 unfold cO Ar;rw[List.length_reverse,ko];simp
def kX (t r:Int)(l:List Pr):List Pr:=bN t r l++if a8 l=[] then[] else[⟨nTYP,Lib.compact (eS (a8 l))⟩]
def Itm.can (v:Int)(x:Itm):Itm:=(⟨lowS x.1.g,ix x.1.n,cO (kX x.2.t (bO v x.1.n).t x.1.ps),[]⟩,{x.2 with s:=if x.2.t=7 then ii x.2.s else x.2.s})
theorem Lg {v:Int}{x:Itm}(h:x.w v=0):x.p.E (cY v 4)= .none/\kG x.1.ps=0/\x.k v=x.2.t:=by
 have h1:x.p.E (cY v 4)= .none:=by
  apply Classical.byContradiction;intro hn;rw[IV hn] at h;exact hn (KN h)
 have hf:Db x.1.n=false:=by
  rw[<-Bool.not_eq_true];intro hf;rw[Lj h1 hf] at h;omega
 have hp:kG x.1.ps=0:=by
  apply Classical.byContradiction;intro hp;rw[Fz h1 hf hp] at h;exact hp h
 refine⟨h1,hp,?_⟩;apply Classical.byContradiction;intro hk;rw[FA h1 hf hp hk] at h;omega
theorem Hz {f:Nat->Int}:∀{n:Nat},wi f n=0->∀j,j<n->f j=0:=by
 intro n h j hj;apply Classical.byContradiction;intro hn;obtain⟨k,hk,hk1,hk2⟩:∃k,k<=j/\f k≠0/\∀i,i<k->f i=0:=by
  induction j using Nat.strongRecOn with
  |_ j ih=>
   by_cases g:∃i,i<j/\f i≠0
   ·obtain⟨i,hi,g⟩:=g;obtain⟨k,a,b,c⟩:=ih i hi (by omega) g;exact⟨k,by omega,b,c⟩
   ·exact⟨j,Nat.le_refl _,hn,λi hi=>Classical.byContradiction λe=>g ⟨i,hi,e⟩⟩
 rw[wg (by omega) hk2 hk1] at h;exact hk1 h
theorem kr {v:Int}{x:Itm}(h:x.w v=0):x.1.ps.length<=20/\(∀k,k<x.1.ps.length->(x.1.ps.getD k Pr.z).fit=true)/\∀i j,i<j->j<x.1.ps.length->ix (x.1.ps.getD i Pr.z).n=ix (x.1.ps.getD j Pr.z).n->ix (x.1.ps.getD j Pr.z).n=nTYP:=by
 obtain⟨h1,h2,_⟩:=Lg h;have h3:=Hz h2;refine⟨?_,λk hk=> ?_,λi j hij hj he=> ?_⟩
 ·unfold Ln.E Itm.p at h1;dsimp only at h1;split at h1
  ·cases h1
  ·split at h1
   ·cases h1
   ·omega
 ·have:=h3 k hk;cases hf:(x.1.ps.getD k Pr.z).fit with
  |true=>rfl
  |false=>rw[L6 hf] at this;omega
 ·have:=h3 j hj;apply Classical.byContradiction;intro hn;have hd:=(oM hj).2 ⟨i,hij,he⟩;unfold pE at this;split at this
  ·omega
  ·rw[if_pos ⟨hn,hd⟩] at this;omega
theorem AK {v:Int}{x:Itm}(hv:v=3\/v=4)(h:x.w v=0){k:Nat}(hk:k<x.1.ps.length)(hn:ix (x.1.ps.getD k Pr.z).n=valN):eK v x.1.n (x.1.ps.eraseIdx k)=(bO v x.1.n).t:=by
 obtain⟨_,_,h3⟩:=kr h;have hf:cD valN (x.1.ps.eraseIdx k) 0= -1:=by
  refine nC 0 λi hi he=> ?_;rw[List.getD_eq_getElem?_getD,List.getElem?_eq_getElem hi] at he;have hq:=List.getElem_mem hi;generalize (x.1.ps.eraseIdx k)[i]=q at hq he;have he:ix q.n=ix valN:=he;rw[show ix valN=valN by decide+kernel] at he;obtain⟨j,hj,hne,e⟩:=List.mem_eraseIdx_iff_getElem.1 hq;have e:x.1.ps.getD j Pr.z=q:=by rw[List.getD_eq_getElem?_getD,List.getElem?_eq_getElem hj];exact e
  have key:valN≠nTYP:=by decide
  rcases Nat.lt_or_gt_of_ne hne with g|g
  ·exact key (by rw[<-hn];exact h3 j k g hk (by rw[e,he,hn]))
  ·exact key (by rw[<-he,<-e];exact h3 k j g hj (by rw[e,he,hn]))
 unfold eK;rw[if_pos hv];unfold lW;rw[if_pos (.inl (by rw[hf];decide))]
theorem lj {v:Int}{x:Itm}(h:x.w v=0){k:Nat}(hk:k<x.1.ps.length)(hn:ix (x.1.ps.getD k Pr.z).n=valN\/ix (x.1.ps.getD k Pr.z).n=nLAN):(x.1.ps.getD k Pr.z).vs.length=1:=by
 have hf:=(kr h).2.1 k hk;unfold Pr.fit at hf;rcases hn with hn|hn
 ·rw[show ao 97 122 (-32) (x.1.ps.getD k Pr.z).n=valN from hn] at hf;unfold mL valN at hf;simpa using hf
 ·rw[show ao 97 122 (-32) (x.1.ps.getD k Pr.z).n=nLAN from hn] at hf;unfold mL at hf;simp at hf;exact hf.1
end
section
def gI (cs:List AVal)(o:Nat)(seg:List AVal):List AVal:=cs.take o++seg++cs.drop (o+seg.length)
theorem tK {cs seg:List AVal}{o:Nat}(h:o+seg.length<=cs.length):(gI cs o seg).length=cs.length:=by
 unfold gI;simp only[List.length_append,List.length_take,List.length_drop];omega
theorem MS.store_row {P:Program}{C:Ctx}{R:Seal}{H:Heap}{w:World}{i b n cap sz o:Nat}{eT:Option TypeId}{cs seg:List AVal}{vs:List Value}(hm:MS C R H w)(hi:H[i]? =some (.row (.slice (some ⟨b,0,none⟩) n cap) eT sz n cs))(hv:bA R seg vs)(hok:dh seg=true)(hc:o+seg.length<=n*sz):
  ∃w',(storeCells ⟨b,o,none⟩ vs).run P w= .ok () w'/\MS C R (H.set i (.row (.slice (some ⟨b,0,none⟩) n cap) eT sz n (gI cs o seg))) w':=by
 obtain⟨hlen,h0⟩:=hm.heap.holds _ (List.mem_of_getElem? hi);rcases h0 with⟨h0,_⟩|⟨b',cap',Cs,el,fz,hve,hb,hsz,hnc,hl,hfz,hT⟩
 ·exact absurd h0 (by simp)
 simp only[Value.slice.injEq,Option.some.injEq,Addr.mk.injEq,and_true,true_and] at hve;obtain⟨rfl,rfl⟩:=hve;have hmul:n*sz<=cap*sz:=Nat.mul_le_mul_right _ hnc;have hvl:=ay hv;obtain⟨w',hr',ho⟩:=cN (P:=P) vs o 0 Cs w hb (by omega) hfz (gV hv hok);refine⟨w',hr',hm.write hi rfl ho rfl ?_⟩;refine⟨by rw[tK (by omega)];exact hlen,.inr ⟨b,cap,_,_,_,rfl,ho.at_,?_,hnc,?_,?_,hT⟩⟩
 ·simp only[Nat.add_zero,List.size_toArray,List.length_append,List.length_take,List.length_drop,Array.length_toList];omega
 ·have e1:(Cs.toList.take (o+0)++vs++Cs.toList.drop (o+0+vs.length)).take (n*sz)=(Cs.toList.take (n*sz)).take o++vs++(Cs.toList.take (n*sz)).drop (o+seg.length):=by
   have hl1:(Cs.toList.take o).length=o:=by rw[List.length_take,Array.length_toList];omega
   rw[Nat.add_zero,<-hvl,List.take_append,List.length_append,hl1,List.take_of_length_le (by rw[List.length_append,hl1];omega),List.take_take,Nat.min_eq_left (by omega),List.drop_take,hvl]
  simp only[];rw[e1];exact bE (bE (bP o hl) hv) (bV _ hl)
 ·simp only[Nat.add_zero,List.size_toArray,List.length_append,List.length_take,List.length_drop,Array.length_toList];have:min o Cs.size+vs.length+(Cs.size-(o+vs.length))=Cs.size:=by omega
  rw[this];exact hfz
theorem MS.load_row {P:Program}[Tab P]{C:Ctx}{R:Seal}{H:Heap}{w:World}{i b n cap sz o:Nat}{eT:Option TypeId}{cs:List AVal}{T:TypeId}{x:TI}(hm:MS C R H w)(hi:H[i]? =some (.row (.slice (some ⟨b,0,none⟩) n cap) eT sz n cs))(ht:aS P T=some x)(ha:bL x.desc=true)(hx:x.size=sz)(hc:o+sz<=n*sz):
  ∃vs:List Value,(loadVar T ⟨b,o,none⟩).run P w= .ok (.agg vs.toArray) w/\bA R ((cs.drop o).take sz) vs:=by
 obtain⟨hlen,h0⟩:=hm.heap.holds _ (List.mem_of_getElem? hi);rcases h0 with⟨h0,_⟩|⟨b',cap',Cs,el,fz,hve,hb,hsz,hnc,hl,hfz,hT⟩
 ·exact absurd h0 (by simp)
 simp only[Value.slice.injEq,Option.some.injEq,Addr.mk.injEq,and_true,true_and] at hve;obtain⟨rfl,rfl⟩:=hve;have hmul:n*sz<=cap*sz:=Nat.mul_le_mul_right _ hnc;refine⟨(Cs.toList.drop o).take sz,?_,?_⟩
 ·rw[<-hx];exact jd ht ha hb (by omega)
 ·have e:(Cs.toList.drop o).take sz=((Cs.toList.take (n*sz)).drop o).take sz:=by
   rw[List.drop_take,List.take_take,Nat.min_eq_left (by omega)]
  rw[e];exact bP _ (bV _ hl)
theorem sv:∀{cs:List AVal} (k:Nat),dh cs=true->dh (cs.take k)=true
 |[],k,_=>by cases k<;>rfl
 |c::cs,0,_=>rfl
 |c::cs,k+1,h=>by
  simp only[List.take_succ_cons,dh,Bool.and_eq_true] at h ⊢;exact⟨h.1,sv k h.2⟩
theorem sw:∀{cs:List AVal} (k:Nat),dh cs=true->dh (cs.drop k)=true
 |[],k,_=>by cases k<;>rfl
 |c::cs,0,h=>h
 |c::cs,k+1,h=>by
  simp only[List.drop_succ_cons,dh,Bool.and_eq_true] at h ⊢;exact sw k h.2
theorem lM {cs:List AVal}(h:dh cs=true)(o k:Nat):dh ((cs.drop o).take k)=true:=sv k (sw o h)
def Ai (sz:Nat)(cs:List AVal)(i j:Nat):List AVal:=gI (gI cs (i*sz) ((cs.drop (j*sz)).take sz)) (j*sz) ((cs.drop (i*sz)).take sz)
theorem DF {P:Program}[Tab P]{G:Glo}{f:FuncId}(gS:Bool)(hx:∀args W,(callFunc f args).run P W=((Extern.ReflectliteSwapper.swap gS args).run P W).andThen λv w'=>.ok (.value v) w')
  {T:TypeId} {x:TI} (ht:aS P T=some x) (ha:bL x.desc=true) {sz:Nat} (hz:x.size=sz) {eT:Option TypeId} {b n cap i j:Nat} {cs:List AVal} (hi:i<n) (hj:j<n) (hok:dh cs=true) (hh:handleType P (typeHandle P T)=some T):
  ad P G f [.int .i64 (i:Int),.int .i64 (j:Int),.raw (.slice (some ⟨b,0,none⟩) n cap),.raw (typeHandle P T)] [.row (.slice (some ⟨b,0,none⟩) n cap) eT sz n cs]
   (λr H=>r= .ret (.tuple [])/\H=[.row (.slice (some ⟨b,0,none⟩) n cap) eT sz n (Ai sz cs i j)]):=by
 rintro R w args hG hm ⟨x1,t1,e1,hx1,x2,t2,e2,hx2,x3,t3,e3,hx3,x4,t4,e4,hx4,e5⟩;obtain rfl:=am.1 hx1;obtain rfl:=am.1 hx2;obtain rfl:=al.1 hx3;obtain rfl:=al.1 hx4;subst e5 e4 e3 e2;obtain rfl:=dN e1;obtain⟨hlen,_⟩:=hm.heap.holds _ (List.mem_cons_self ..);have hir:i*sz+sz<=n*sz:=by rw[<-Nat.succ_mul];exact Nat.mul_le_mul_right _ hi
 have hjr:j*sz+sz<=n*sz:=by rw[<-Nat.succ_mul];exact Nat.mul_le_mul_right _ hj
 obtain⟨vx,hlx,hrx⟩:=hm.load_row (P:=P) (i:=0) (o:=i*sz) rfl ht ha hz hir;obtain⟨vy,hly,hry⟩:=hm.load_row (P:=P) (i:=0) (o:=j*sz) rfl ht ha hz hjr;have hsx:((cs.drop (i*sz)).take sz).length=sz:=by rw[List.length_take,List.length_drop,hlen];omega
 have hsy:((cs.drop (j*sz)).take sz).length=sz:=by rw[List.length_take,List.length_drop,hlen];omega
 have hvx:=ay hrx;have hvy:=ay hry;obtain⟨w1,hs1,hm1⟩:=hm.store_row (P:=P) (i:=0) (o:=i*sz) rfl hry (lM hok _ _) (by rw[hsy];exact hir);obtain⟨w2,hs2,hm2⟩:=hm1.store_row (P:=P) (i:=0) (o:=j*sz) rfl hrx (lM hok _ _) (by rw[hsx];exact hjr);have hadd:∀k,(⟨b,0,none⟩:Addr).add k=⟨b,k,none⟩:=λk=>by
  simp only[Addr.add,Nat.zero_add];by_cases h0:k=0
  ·simp[h0]
  ·simp[h0]
 have hex:(Extern.ReflectliteSwapper.exchange T ⟨b,0,none⟩ i j).run P w= .ok (.tuple #[]) w2:=by
  simp only[Extern.ReflectliteSwapper.exchange,Sem.run_bind,aB ht,Result.andThen_ok,hz,hadd,hlx,hly,storeVar,Value.cells,List.size_toArray,hvx,hvy,hsx,hsy,ne_eq,not_true_eq_false,if_false,hs1,hs2,Sem.run_pure]
 refine .inr ⟨.tuple #[],w2,?_,.ret (.tuple []),_,R,⟨rfl,rfl⟩,⟨_,rfl,⟨_,rfl,rfl⟩,rfl⟩,hm2⟩;rw[hx];have key:∀x y:Int,x=i->y=j->(Extern.ReflectliteSwapper.swap gS #[.int .i64 x,.int .i64 y,.slice (some ⟨b,0,none⟩) n cap,typeHandle P T]).run P w= .ok (.tuple #[]) w2:=by
  intro x y ex ey;have hsw:Extern.ReflectliteSwapper.swap gS #[.int .i64 x,.int .i64 y,.slice (some ⟨b,0,none⟩) n cap,typeHandle P T]=(do
   if gS then
    if x<0||x≥n then boundsPanic .i64 x n .index
    if y<0||y≥n then boundsPanic .i64 y n .index
   else if x<0||x≥n||y<0||y≥n then Extern.ReflectliteSwapper.outOfRange
   Extern.ReflectliteSwapper.exchange (<-Extern.Rtype.ofHandle (typeHandle P T)) ⟨b,0,none⟩ x.toNat y.toNat):=rfl
  rw[hsw];have h1:decide (x<0)=false:=decide_eq_false (by omega);have h2:decide (x≥n)=false:=decide_eq_false (by omega);have h3:decide (y<0)=false:=decide_eq_false (by omega);have h4:decide (y≥n)=false:=decide_eq_false (by omega);have h5:x.toNat=i:=by omega
  have h6:y.toNat=j:=by omega
  rw[h1,h2,h3,h4,h5,h6];cases gS<;>simp[Extern.Rtype.ofHandle,hh,hex,Sem.run_bind,Result.andThen,Sem.run]
 have:=key i j rfl rfl;rw[show ∀a b c d:Value,[a,b,c,d].toArray=#[a,b,c,d] from λ_ _ _ _=>rfl,this];rfl
end
section
theorem Dm:∀a b:List UInt8,(Lib.compareBytes a b<0↔jv a b=true)
 |[],[]=>by simp[Lib.compareBytes,jv,Op.bytesLess]
 |[],_::_=>by simp[Lib.compareBytes,jv,Op.bytesLess]
 |_::_,[]=>by simp[Lib.compareBytes,jv,Op.bytesLess]
 |x::a,y::b=>by
  have ih:=Dm a b;unfold jv at ih ⊢;unfold Lib.compareBytes Op.bytesLess;by_cases h:x<y
  ·simp[h]
  ·by_cases h2:y<x
   ·have:x≠y:=λe=>by subst e;exact h h2
    simp[h,h2,this]
   ·have:x=y:=UInt8.le_antisymm (UInt8.not_lt.1 h2) (UInt8.not_lt.1 h);subst this;simp[h,ih]
theorem Dn:∀a b:List UInt8, -1<=Lib.compareBytes a b/\Lib.compareBytes a b<=1
 |[],[]=>by simp[Lib.compareBytes]
 |[],_::_=>by simp[Lib.compareBytes]
 |_::_,[]=>by simp[Lib.compareBytes]
 |x::a,y::b=>by
  have ih:=Dn a b;unfold Lib.compareBytes;split
  ·omega
  ·split
   ·omega
   ·exact ih
theorem uj {x:Pr}{S:List Pr}:∀{R:List Pr},(∀u∈R,jv x.n u.n=true)->lQ x (R++S)=R++lQ x S
 |[],_=>rfl
 |u::R,h=>by
  rw[List.cons_append,lQ,if_pos (h u (List.mem_cons_self ..)),uj λw hw=>h w (List.mem_cons_of_mem _ hw)];rfl
theorem vZ {L A B:List Pr}{k:Nat}{x:Pr}(hx:L.drop k=x::L.drop (k+1))(h:cO (L.take k)=A++B)(hB:∀u∈B,jv x.n u.n=true)(hA:A=[]\/∃A' y,A=A'++[y]/\jv x.n y.n=false):cO (L.take (k+1))=A++(x::B):=by
 have hk:k<L.length:=by
  apply Nat.lt_of_not_le;intro hk;rw[List.drop_eq_nil_of_le hk] at hx;cases hx
 have e:L.take (k+1)=L.take k++[x]:=by
  rw[List.take_add_one];have:=List.drop_eq_getElem_cons hk;rw[hx] at this;injection this with h1 _
  rw[List.getElem?_eq_getElem hk,h1];rfl
 have hr:Ar (L.take k)=B.reverse++A.reverse:=by
  have:=congrArg List.reverse h;rw[cO,List.reverse_reverse,List.reverse_append] at this;exact this
 have hs:lQ x A.reverse=x::A.reverse:=by
  rcases hA with rfl|⟨A',y,rfl,hy⟩
  ·rfl
  ·rw[List.reverse_append];show lQ x (y::A'.reverse)=x::y::A'.reverse;rw[lQ,if_neg (by rw[hy];decide)]
 unfold cO;rw[e,DJ,hr,uj (λu hu=>hB u (List.mem_reverse.1 hu)),hs];simp
def prCs (q:Pr):List AVal:=[.str q.n,.list 1 q.vs.length (aE q.vs)]
def da (L:List Pr):List AVal:=L.flatMap prCs
theorem ic (L M:List Pr):da (L++M)=da L++da M:=by simp[da]
theorem fa:∀L:List Pr,(da L).length=L.length*2
 |[]=>rfl
 |q::L=>by
  have:=fa L;unfold da at this ⊢;rw[List.flatMap_cons,List.length_append,this,List.length_cons];show 2+_=_;omega
theorem qY {L:List Pr}{i:Nat}(h:i<L.length):((da L).drop (i*2)).take 2=prCs (L.getD i Pr.z):=by
 have e:L=L.take i++(L.getD i Pr.z::L.drop (i+1)):=by
  rw[List.getD_eq_getElem?_getD,List.getElem?_eq_getElem h];exact((List.drop_eq_getElem_cons h).symm▸(List.take_append_drop i L).symm)
 have hl:(da (L.take i)).length=i*2:=by rw[fa,List.length_take];omega
 have e2:da L=da (L.take i)++(prCs (L.getD i Pr.z)++da (L.drop (i+1))):=by
  conv=>lhs;rw[e]
  rw[ic];simp[da]
 rw[e2,List.drop_append,hl,Nat.sub_self,List.drop_of_length_le (by omega)];rfl
theorem vM {L:List Pr}{i:Nat}(q:Pr)(h:i<L.length):gI (da L) (i*2) (prCs q)=da (L.set i q):=by
 have hl:(da (L.take i)).length=i*2:=by rw[fa,List.length_take];omega
 have e1:(da L).take (i*2)=da (L.take i):=by
  conv=>lhs;rw[<-List.take_append_drop i L,ic]
  rw[<-hl,List.take_left]
 have e2:(da L).drop (i*2+2)=da (L.drop (i+1)):=by
  have hl2:(da (L.take (i+1))).length=i*2+2:=by rw[fa,List.length_take];omega
  conv=>lhs;rw[<-List.take_append_drop (i+1) L,ic]
  rw[<-hl2,List.drop_left]
 unfold gI;rw[e1,show(prCs q).length=2 from rfl,e2,List.set_eq_take_append_cons_drop,if_pos h,ic];simp[da]
def Ah (L:List Pr)(i j:Nat):List Pr:=(L.set i (L.getD j Pr.z)).set j (L.getD i Pr.z)
theorem GA {L:List Pr}{i j:Nat}(hi:i<L.length)(hj:j<L.length):Ai 2 (da L) i j=da (Ah L i j):=by
 unfold Ai Ah;rw[qY hj,qY hi,vM _ hi,vM _ (by simpa using hj)]
theorem AY:∀L:List Pr,dh (da L)=true
 |[]=>rfl
 |q::L=>by
  have:=AY L;unfold da at this ⊢;rw[List.flatMap_cons];exact this
abbrev kg (b m cap:Nat):Value:=.slice (some ⟨b,0,none⟩) m cap
abbrev jq (eT:Option TypeId)(b m cap:Nat)(L:List Pr):HEnt:=.row (kg b m cap) eT 2 m (da L)
theorem Gi (l:List Pr):cP l.length (dM l)=da l:=by
 unfold cP da;have e:l.flatMap prCs=((List.range l.length).map λi=>l.getD i Pr.z).flatMap prCs:=by
  congr 1
  refine List.ext_getElem (by simp) λi h1 h2=> ?_;simp[List.getD,h1]
 rw[e,List.flatMap_map];rfl
theorem Em {L:List Pr}{i:Nat}(h:i<L.length):(gI (da L) (i*2) (((da L).drop ((i+1)*2)).take ((L.length-(i+1))*2))).take ((L.length-1)*2)=da (L.eraseIdx i):=by
 have e0:L=L.take i++L.drop i:=(List.take_append_drop i L).symm;have e1:(da L).take (i*2)=da (L.take i):=by
  have hl:(da (L.take i)).length=i*2:=by rw[fa,List.length_take];omega
  conv=>lhs;rw[<-List.take_append_drop i L,ic]
  rw[<-hl,List.take_left]
 have e2:(da L).drop ((i+1)*2)=da (L.drop (i+1)):=by
  have hl:(da (L.take (i+1))).length=(i+1)*2:=by rw[fa,List.length_take];omega
  conv=>lhs;rw[<-List.take_append_drop (i+1) L,ic]
  rw[<-hl,List.drop_left]
 have hl2:(da (L.drop (i+1))).length=(L.length-(i+1))*2:=by rw[fa,List.length_drop]
 have hl1:(da (L.take i)).length=i*2:=by rw[fa,List.length_take];omega
 have e3:((da L).drop ((i+1)*2)).take ((L.length-(i+1))*2)=da (L.drop (i+1)):=by rw[e2,List.take_of_length_le (by rw[hl2];exact Nat.le_refl _)]
 rw[e3];unfold gI;have hl3:(da (L.take i)++da (L.drop (i+1))).length=(L.length-1)*2:=by rw[List.length_append,hl1,hl2];omega
 rw[e1,<-hl3,List.take_left,<-ic,List.eraseIdx_eq_take_drop_succ]
end
section
section
variable {P:Program} [Tab P] {C:Ctx} {n:Nat} {env:Env} {H:Heap} {Q:aK->Env->Heap->Prop} {ops:Array Oper} {rest:List Oper} {G:Glo} {GL:List (Nat×List AVal)}
variable {eT:Option TypeId} {d:Nat} {t e:TypeId} {p:String} {af:Array Edge} {g:Option (Nat×Bool)} {b:Bool} {x y:Operand} {T:TypeId} {xT xe:TI}
theorem B4 {o:Oper}{H':Heap}{b:Bool}(hg:aC ops env o.guard=some (b,b))(hd:o.dst=none)
  (hx:∀R ρ w,MS C R H w->j5 R env ρ->∃v w' R',(execOp ρ o).run P w= .ok (.value v) w'/\R.le R'/\MS C R' H' w')
  (h:ap P C n ops rest env H' Q):ap P C n ops (o::rest) env H Q:=by
 intro R a w hm hf;refine wpList_step λK hK=> ?_;rw[bS hf hg,if_pos (by simp)];obtain⟨v,w',R',hr,hR,hm'⟩:=hx R a.eval w hm (λx av h=>hf.eval h);rw[Oper.wp,hr,Oper.upon_value,hd];exact hK _ _ (h R' _ w' hm' (hf.mono hR))
theorem rc {i bl l c o:Nat}{k0:IntKind}(hC:C.G=G)(hGL:ab G GL)(hx:ae env x=some (.own i (.slice (some ⟨bl,0,none⟩) l c)))(hy:ae env y=some (.int k0 (o:Int)))(hoc:o<=c)(h0:0<c)(ht:aS P T=some xT)(hd:xT.desc= .slice e)(he:aS P e=some xe)
  (hg:aC ops env g=some (b,b)) (hdn:Nat.ble (d+1) n=true)
  (k:fO P C n G GL ops Q rest ((d,.own i (.slice (some ⟨bl,0,none⟩) o c))::env) H):
  mm P C n ops ({dst:=some d,op:=.slice T x none (some y) none,type:=t,pos:=p,after:=af,guard:=g}::rest) env H Q:=by
 refine⟨gR hg rfl hdn (av:=.own i (.slice (some ⟨bl,0,none⟩) o c)) (H':=H) (λR ρ w hm hf=> ?_) (bJ hC hGL _ _ _ k)⟩;have hel:P.elem T=e:=by simp[Program.elem,aU ht,hd]
 have hr:=run_slice_h (P:=P) w T (some ⟨bl,0,none⟩) l c (by rw[aU ht,hd,hel]) k0 (o:Int) (by omega) (by omega);have hsz:=aB he w;refine⟨.slice (some ⟨bl,0,none⟩) o c,w,R,?_,Seal.le_refl R,aQ.2 ⟨rfl,rfl⟩,hm⟩;simp only[execOp,(aQ.1 (hf _ _ hx)).1,Option.map_some,Option.map_none,am.1 (hf _ _ hy),Sem.run_bind,run_sliceAt_slice w T _ _ _ _ (show P.underlying T=some (.slice (P.elem T)) by rw[aU ht,hd,hel]),hr,hel,hsz,Result.andThen_ok,Sem.run_pure];simp only[sliced,Int.toNat_natCast];simp[Addr.add]
end
end
section
theorem oi {bl l h m s:Nat}(hl:l<m):sliced (some ⟨bl,0,none⟩) l h m s= .slice (some ⟨bl,l*s,none⟩) (h-l) (m-l):=by
 unfold sliced;rw[if_neg (by omega)];simp only[Option.map_some,Addr.add,Nat.zero_add];by_cases h0:l*s=0
 ·simp[h0]
 ·simp[h0]
theorem Au {bl h m s:Nat}:sliced (some ⟨bl,0,none⟩) m h m s= .slice (some ⟨bl,0,none⟩) (h-m) 0:=by
 unfold sliced;rw[if_pos rfl,Nat.sub_self]
section
variable {P:Program} [Tab P] {C:Ctx} {n:Nat} {env:Env} {H:Heap} {Q:aK->Env->Heap->Prop} {ops:Array Oper} {rest:List Oper} {G:Glo} {GL:List (Nat×List AVal)}
variable {eT:Option TypeId} {d:Nat} {t e:TypeId} {p:String} {af:Array Edge} {g:Option (Nat×Bool)} {b:Bool} {x y z u:Operand} {T:TypeId} {xT xe:TI}
variable {i bl l c lo hi mx:Nat} {k1 k2 k3:IntKind} {v:Value}
theorem iV {R:Seal}{env:Env}{ρ:Operand->Value}{x:Operand}{i:Nat}{v:Value}(hx:ae env x=some (.own i v)\/ae env x=some (.raw v))(hf:j5 R env ρ):ρ x=v:=hx.elim (λh=>(aQ.1 (hf _ _ h)).1) (λh=>al.1 (hf _ _ h))
theorem q9 (hv:sliced (some ⟨bl,0,none⟩) lo l c xe.size=v)(hC:C.G=G)(hGL:ab G GL)(hx:ae env x=some (.own i (.slice (some ⟨bl,0,none⟩) l c))\/ae env x=some (.raw (.slice (some ⟨bl,0,none⟩) l c)))(hy:ae env y=some (.int k1 (lo:Int)))(h1:lo<=l)(h2:l<=c)(ht:aS P T=some xT)(hd:xT.desc= .slice e)(he:aS P e=some xe)
  (hg:aC ops env g=some (b,b)) (hdn:Nat.ble (d+1) n=true)
  (k:fO P C n G GL ops Q rest ((d,.raw v)::env) H):
  mm P C n ops ({dst:=some d,op:=.slice T x (some y) none none,type:=t,pos:=p,after:=af,guard:=g}::rest) env H Q:=by
 subst hv
 refine⟨gR hg rfl hdn (av:=.raw (sliced (some ⟨bl,0,none⟩) lo l c xe.size)) (H':=H) (λR ρ w hm hf=> ?_) (bJ hC hGL _ _ _ k)⟩
 have hxv:=iV hx hf
 have hel:P.elem T=e:=by simp[Program.elem,aU ht,hd]
 have hr:=run_slice_l (P:=P) w T (some ⟨bl,0,none⟩) l c (by rw[aU ht,hd,hel]) k1 (lo:Int) (by omega) (by omega)
 have hsz:=aB he w
 refine⟨_,w,R,?_,Seal.le_refl R,al.2 rfl,hm⟩
 simp only[execOp,hxv,Option.map_some,Option.map_none,am.1 (hf _ _ hy),Sem.run_bind,run_sliceAt_slice w T _ _ _ _ (show P.underlying T=some (.slice (P.elem T)) by rw[aU ht,hd,hel]),hr,hel,hsz,Result.andThen_ok,Sem.run_pure,Int.toNat_natCast]
theorem yE (hv:sliced (some ⟨bl,0,none⟩) lo hi c xe.size=v)(hC:C.G=G)(hGL:ab G GL)(hx:ae env x=some (.own i (.slice (some ⟨bl,0,none⟩) l c))\/ae env x=some (.raw (.slice (some ⟨bl,0,none⟩) l c)))(hy:ae env y=some (.int k1 (lo:Int)))(hz:ae env z=some (.int k2 (hi:Int)))(h1:lo<=hi)(h2:hi<=c)(ht:aS P T=some xT)(hd:xT.desc= .slice e)(he:aS P e=some xe)
  (hg:aC ops env g=some (b,b)) (hdn:Nat.ble (d+1) n=true)
  (k:fO P C n G GL ops Q rest ((d,.raw v)::env) H):
  mm P C n ops ({dst:=some d,op:=.slice T x (some y) (some z) none,type:=t,pos:=p,after:=af,guard:=g}::rest) env H Q:=by
 subst hv;refine⟨gR hg rfl hdn (av:=.raw (sliced (some ⟨bl,0,none⟩) lo hi c xe.size)) (H':=H) (λR ρ w hm hf=> ?_) (bJ hC hGL _ _ _ k)⟩;have hxv:=iV hx hf;have hel:P.elem T=e:=by simp[Program.elem,aU ht,hd]
 have hr:=run_slice_lh (P:=P) w T (some ⟨bl,0,none⟩) l c (by rw[aU ht,hd,hel]) k1 k2 (lo:Int) (hi:Int) (by omega) (by omega) (by omega);have hsz:=aB he w;refine⟨_,w,R,?_,Seal.le_refl R,al.2 rfl,hm⟩;simp only[execOp,hxv,Option.map_some,Option.map_none,am.1 (hf _ _ hy),am.1 (hf _ _ hz),Sem.run_bind,run_sliceAt_slice w T _ _ _ _ (show P.underlying T=some (.slice (P.elem T)) by rw[aU ht,hd,hel]),hr,hel,hsz,Result.andThen_ok,Sem.run_pure,Int.toNat_natCast]
theorem vQ (hv:sliced (some ⟨bl,0,none⟩) lo hi mx xe.size=v)(hC:C.G=G)(hGL:ab G GL)(hx:ae env x=some (.own i (.slice (some ⟨bl,0,none⟩) l c))\/ae env x=some (.raw (.slice (some ⟨bl,0,none⟩) l c)))(hy:ae env y=some (.int k1 (lo:Int)))(hz:ae env z=some (.int k2 (hi:Int)))(hu:ae env u=some (.int k3 (mx:Int)))(h1:lo<=hi)(h2:hi<=mx)(h3:mx<=c)(ht:aS P T=some xT)(hd:xT.desc= .slice e)(he:aS P e=some xe)
  (hg:aC ops env g=some (b,b)) (hdn:Nat.ble (d+1) n=true)
  (k:fO P C n G GL ops Q rest ((d,.raw v)::env) H):
  mm P C n ops ({dst:=some d,op:=.slice T x (some y) (some z) (some u),type:=t,pos:=p,after:=af,guard:=g}::rest) env H Q:=by
 subst hv;refine⟨gR hg rfl hdn (av:=.raw (sliced (some ⟨bl,0,none⟩) lo hi mx xe.size)) (H':=H) (λR ρ w hm hf=> ?_) (bJ hC hGL _ _ _ k)⟩;have hxv:=iV hx hf;have hel:P.elem T=e:=by simp[Program.elem,aU ht,hd]
 have hr:=run_slice_lhm (P:=P) w T (some ⟨bl,0,none⟩) l c (by rw[aU ht,hd,hel]) k1 k2 k3 (lo:Int) (hi:Int) (mx:Int) (by omega) (by omega) (by omega) (by omega);have hsz:=aB he w;refine⟨_,w,R,?_,Seal.le_refl R,al.2 rfl,hm⟩;simp only[execOp,hxv,Option.map_some,Option.map_none,am.1 (hf _ _ hy),am.1 (hf _ _ hz),am.1 (hf _ _ hu),Sem.run_bind,run_sliceAt_slice w T _ _ _ _ (show P.underlying T=some (.slice (P.elem T)) by rw[aU ht,hd,hel]),hr,hel,hsz,Result.andThen_ok,Sem.run_pure,Int.toNat_natCast]
end
end
section
section
variable {P:Program} [Tab P] {C:Ctx} {n:Nat} {env:Env} {H:Heap} {Q:aK->Env->Heap->Prop} {ops:Array Oper} {rest:List Oper} {G:Glo} {GL:List (Nat×List AVal)}
variable {eT:Option TypeId} {d:Nat} {t e:TypeId} {p:String} {af:Array Edge} {g:Option (Nat×Bool)} {b:Bool} {x y:Operand} {T:TypeId} {xT xe:TI}
theorem kH {j0 j1 i bl n0 c lo j m sz:Nat}{c1 yo:Nat}{cs:List AVal}(hC:C.G=G)(hGL:ab G GL)(hg:aC ops env g=some (b,b))(hdn:Nat.ble (d+1) n=true)
  (hx:ae env x=some (.own j0 (.slice (some ⟨bl,0,none⟩) lo c))\/ae env x=some (.raw (.slice (some ⟨bl,0,none⟩) lo c))) (hy:ae env y=some (.own j1 (.slice (some ⟨bl,yo,none⟩) m c1))\/ae env y=some (.raw (.slice (some ⟨bl,yo,none⟩) m c1))) (hi:H[i]? =some (.row (.slice (some ⟨bl,0,none⟩) n0 c) eT sz n0 cs))
  (h1:aS P T=some xT) (h2:xT.desc= .slice e) (h3:aS P e=some xe) (h4:xe.size=sz) (h0:0<n0) (hj:j+m=n0) (hlj:lo<=j) (hok:dh cs=true) (hyo:m=0\/yo=j*sz)
  (k:fO P C n G GL ops Q rest ((d,.raw (.slice (some ⟨bl,0,none⟩) (lo+m) c))::env) (H.set i (.row (.slice (some ⟨bl,0,none⟩) n0 c) eT sz n0 (gI cs (lo*sz) ((cs.drop (j*sz)).take (m*sz)))))):
  mm P C n ops ({dst:=some d,op:=.call {callee:=.builtin .append,args:=#[x,y],argTypes:=#[T,T]},type:=t,pos:=p,after:=af,guard:=g}::rest) env H Q:=by
 refine⟨dg (X:=Unit) (av:=λ_=>.raw (.slice (some ⟨bl,0,none⟩) (lo+m) c)) (H':=λ_=>H.set i (.row (.slice (some ⟨bl,0,none⟩) n0 c) eT sz n0 (gI cs (lo*sz) ((cs.drop (j*sz)).take (m*sz))))) hg rfl hdn (λR ρ w hm hf=> ?_) (λ_=>bJ hC hGL _ _ _ k)⟩;obtain⟨hlen,cap,Cs,el,fz,hv,hb,hsz,hnc,hl,hfz⟩:=li hm hi ⟨c,rfl⟩ h0;simp only[Value.slice.injEq,true_and] at hv;subst hv;have hmul:n0*sz<=c*sz:=Nat.mul_le_mul_right _ hnc;have hjm:j*sz+m*sz=n0*sz:=by rw[<-Nat.add_mul,hj]
 have hlm:lo*sz<=j*sz:=Nat.mul_le_mul_right _ hlj;obtain⟨seg,hseg⟩:∃s,s=(cs.drop (j*sz)).take (m*sz):=⟨_,rfl⟩;have hsl:seg.length=m*sz:=by rw[hseg,List.length_take,List.length_drop,hlen];omega
 have hrs:bA R seg ((Cs.toList.drop (j*sz)).take (m*sz)):=by
  have e1:(Cs.toList.drop (j*sz)).take (m*sz)=((Cs.toList.take (n0*sz)).drop (j*sz)).take (m*sz):=by
   rw[List.drop_take,List.take_take,Nat.min_eq_left (by omega)]
  rw[e1,hseg];exact bP _ (bV _ hl)
 obtain⟨news,hnews⟩:∃s,s=(Cs.toList.drop (j*sz)).take (m*sz):=⟨_,rfl⟩;rw[<-hnews] at hrs;rw[<-hseg];have hnl:news.length=m*sz:=by rw[ay hrs,hsl]
 have hone:=yl hrs (by rw[hseg];exact lM hok _ _);have hadd:∀(o k:Nat),(⟨bl,o,none⟩:Addr).add k=⟨bl,o+k,none⟩:=λo k=>by
  simp only[Addr.add];by_cases h0:k=0
  ·simp[h0]
  ·simp[h0]
 have hcell:∀w':World,w'.heap[bl]? =some (.cells Cs el fz)->∀q v,news[q]? =some v->w'.cell? ((⟨bl,yo,none⟩:Addr).add q)=some v:=λw' hb' q v hq=>by
  have hlt:q<m*sz:=by
   have:=(List.getElem?_eq_some_iff.1 hq).1;omega
  have hyo:yo=j*sz:=hyo.resolve_left λe=>by rw[e,Nat.zero_mul] at hlt;omega
  rw[hnews,List.getElem?_take_of_lt hlt,List.getElem?_drop] at hq;rw[hadd,hyo];simp only[World.cell?,hb'];simpa using hq
 have hht:P.underlying T=some (.slice e):=by rw[aU h1,h2]
 obtain⟨ie,hie,hs1,_⟩:=ek h3;have hsz1:ie.size=sz:=by rw[hs1,h4]
 have hsrc:Src P ie.size T (.slice (some ⟨bl,yo,none⟩) m c1) m news w:=by
  rw[hsz1];exact⟨.inl ⟨e,hht⟩,λw'=>rfl,run_firstCells_some w sz m ⟨bl,yo,none⟩ m c1 news hnl (hcell w hb),run_firstCells_some w.drew sz m ⟨bl,yo,none⟩ m c1 news hnl (hcell w.drew hb),hnl,hone⟩
 have hfro:∀q,q<Cs.size->w.frozen? ⟨bl,q,none⟩=false:=by
  intro q hq;obtain⟨f1,f2⟩:=fz;have hfz:=hfz.1;simp only[World.frozen?,hb,gX] at hfz ⊢;simp;omega
 have hc1:∀q,q<news.length->(w.cell? ⟨bl,lo*sz+q,none⟩).isSome=true:=λq hq=>by simp only[World.cell?,hb];simp;omega
 have hf1:∀q,q<news.length->w.frozen? ⟨bl,lo*sz+q,none⟩=false:=λq hq=>hfro _ (by omega);have hr:=run_append_room_src (P:=P) w T T t e ie hht hie bl 0 lo c (.slice (some ⟨bl,yo,none⟩) m c1) m news hsrc (by omega) (λq hq=>by rw[hsz1,Nat.zero_add];exact hc1 q hq) (λq hq=>by rw[hsz1,Nat.zero_add];exact hf1 q hq);obtain⟨w',hst,hms⟩:=hm.store_row (P:=P) (o:=lo*sz) (seg:=seg) (vs:=news) hi hrs (by rw[hseg];exact lM hok _ _) (by rw[hsl];omega);have hst2:=run_storeCells_cells (P:=P) bl (lo*sz) news 0 w (by simpa using hc1) (by simpa using hf1) hone;simp only[Nat.add_zero] at hst2;rw[hst2] at hst;simp only[Result.ok.injEq,true_and] at hst;rw[hsz1,Nat.zero_add,hst] at hr;refine⟨(),_,w',R,?_,Seal.le_refl R,al.2 rfl,hms⟩;simp only[execOp,resolve,Sem.run_bind,Sem.run_pure,Result.andThen_ok,invoke,builtin,List.map_toArray,List.map_cons,List.map_nil,iV hx hf,iV hy hf,hr]
theorem A0 {j0 i bl n0 c o c1 sz:Nat}{cs zs:List AVal}{z:Value}(hC:C.G=G)(hGL:ab G GL)(hg:aC ops env g=some (b,b))(hx:ae env x=some (.own j0 (.slice (some ⟨bl,o*sz,none⟩) 1 c1))\/ae env x=some (.raw (.slice (some ⟨bl,o*sz,none⟩) 1 c1)))(hi:H[i]? =some (.row (.slice (some ⟨bl,0,none⟩) n0 c) eT sz n0 cs))(h0:o<n0)
  (h1:aS P T=some xT) (h2:xT.desc= .slice e) (h3:aS P e=some xe) (h4:xe.zero=some z) (hz:z.cells.size=sz) (hzs:∀R,bA R zs z.cells.toList) (hok:dh zs=true)
  (k:fO P C n G GL ops Q rest env (H.set i (.row (.slice (some ⟨bl,0,none⟩) n0 c) eT sz n0 (gI cs (o*sz) zs)))):
  mm P C n ops ({dst:=none,op:=.call {callee:=.builtin .clear,args:=#[x],argTypes:=#[T]},type:=t,pos:=p,after:=af,guard:=g}::rest) env H Q:=by
 refine⟨B4 hg rfl (λR ρ w hm hf=> ?_) (bJ hC hGL _ _ _ k)⟩;have hzl:zs.length=sz:=by
  have:=ay (hzs R);rw[Array.length_toList] at this;omega
 have hos:o*sz+sz<=n0*sz:=by rw[<-Nat.succ_mul];exact Nat.mul_le_mul_right _ h0
 obtain⟨w',hst,hms⟩:=hm.store_row (P:=P) (o:=o*sz) (seg:=zs) (vs:=z.cells.toList) hi (hzs R) hok (by rw[hzl];exact hos);refine⟨.tuple #[],w',R,?_,Seal.le_refl R,hms⟩;have hxv:=iV hx hf;have hd:=ak h1 w;have hzc:(Builtin.zeroCells z.cells 1).toList=z.cells.toList:=by
  simp only[Builtin.zeroCells];apply List.ext_getElem
  ·simp
  ·intro q a1 a2;have a3:q<z.cells.size:=by simpa using a2
   simp[Nat.mod_eq_of_lt a3,getElem!_pos z.cells q a3]
 simp only[execOp,resolve,Sem.run_bind,Sem.run_pure,Result.andThen_ok,invoke,builtin,List.map_toArray,List.map_cons,List.map_nil,hxv,Builtin.clear_];simp[hd,h2,ci h3 h4,hzc,hst]
theorem M6 {c:Code}{i bl m cap sz:Nat}{cs:List AVal}(hi:H[i]? =some (.row (.slice (some ⟨bl,0,none⟩) m cap) eT sz m cs))(h:m<=cap->bI P C n c env H Q):bI P C n c env H Q:=by
 intro R a w hm hf;refine h ?_ R a w hm hf;obtain⟨_,h0⟩:=hm.heap.holds _ (List.mem_of_getElem? hi);rcases h0 with⟨h0,_⟩|⟨b',cap',Cs,el,fz,hv,_,_,hn,_⟩
 ·cases h0
 ·simp only[Value.slice.injEq,true_and] at hv;omega
end
theorem MS.shortZ {C:Ctx}{R:Seal}{w:World}{bl k m c sz:Nat}{eT:Option TypeId}{cs:List AVal}(hm:MS C R [.row (.slice (some ⟨bl,0,none⟩) m c) eT sz m cs] w)(hk:k<=m):MS C R [.row (.slice (some ⟨bl,0,none⟩) k c) eT sz k (cs.take (k*sz))] w:=by
 refine hm.setEnt (i:=0) rfl rfl ?_;obtain⟨hlen,hx⟩:=hm.heap.holds _ (List.mem_cons_self ..);have hmul:k*sz<=m*sz:=Nat.mul_le_mul_right _ hk;refine⟨by rw[List.length_take];omega,.inr ?_⟩;rcases hx with⟨h1,_⟩|⟨b',cap,Cs,el,fz,h1,hb,hs,hn,hl,hf'⟩
 ·cases h1
 ·cases h1;refine⟨_,_,Cs,el,fz,rfl,hb,hs,by omega,?_,hf'⟩;have:=bP (k*sz) hl;rwa [List.take_take,Nat.min_eq_left hmul] at this
end
section
section
variable {P:Program} [Tab P] {C:Ctx} {n:Nat} {env:Env} {H:Heap} {Q:aK->Env->Heap->Prop} {ops:Array Oper} {rest:List Oper}
variable {d:Nat} {t:TypeId} {p:String} {af:Array Edge} {g:Option (Nat×Bool)} {b:Bool}
variable {x:Operand} {T ty e:TypeId} {xT:TI}
theorem Fm {sz m:Nat}{f:Nat->AVal}(hg:aC ops env g=some (b,b))(hdn:Nat.ble (d+1) n=true)(hx:ae env x=some (.list sz m f))(h1:aS P T=some xT)(h2:xT.desc= .slice e)
  (h:∀c:Bool,(c=true->m=0)->ap P C n ops rest ((d,.bool c)::env) H Q):
  ap P C n ops ({dst:=some d,op:=.binOp .eql T x (.const (.slice none 0 0)) ty,type:=t,pos:=p,after:=af,guard:=g}::rest) env H Q:=by
 refine dg (X:={c:Bool//c=true->m=0}) (av:=λc=>.bool c.1) (H':=λ_=>H) hg rfl hdn (λR ρ w hm hf=> ?_) (λc=>h c.1 c.2);obtain⟨a,cap,e1,_,y⟩:=aR (hf _ _ hx) rfl;have e1:ρ x= .slice a m cap:=(List.cons.inj e1).1;have hc:ρ (.const (.slice none 0 0))= .slice none 0 0:=al.1 (hf (.const (.slice none 0 0)) _ (dB env (.slice none 0 0)));obtain⟨c,hca,hcm⟩:∃c,rE xT.desc (.raw (ρ x))=some c/\(c=true->m=0):=by
  rw[h2,e1];cases a with
  |none=>exact⟨true,rfl,λ_=>y.elim id λ⟨_,_,_,_,_,k,_⟩=>nomatch k⟩
  |some a=>exact⟨false,rfl,λk=>nomatch k⟩
 obtain⟨h3,h4,h5⟩:=lI (R:=R) (x:=x) (w:=w) (av:=.raw (ρ x)) (c:=c) (z:=.slice none 0 0) (al.2 rfl) h1 hca (by rw[h2];rfl);have h6:=h5 .eql (.inl rfl);rw[if_pos rfl] at h6;refine⟨⟨c,hcm⟩,.bool c,w,R,?_,Seal.le_refl R,aN.2 rfl,hm⟩;simp only[execOp,hc,Sem.run_bind,h4,Result.andThen_ok,h6,h3,Sem.run_pure]
theorem my {G:Glo}{GL:List (Nat×List AVal)}{sz m:Nat}{f:Nat->AVal}(hC:C.G=G)(hGL:ab G GL)(hg:aC ops env g=some (b,b))(hdn:Nat.ble (d+1) n=true)(hx:ae env x=some (.list sz m f))(h1:aS P T=some xT)(h2:xT.desc= .slice e)
  (k:∀c:Bool,(c=true->m=0)->fO P C n G GL ops Q rest ((d,.bool c)::env) H):
  mm P C n ops ({dst:=some d,op:=.binOp .eql T x (.const (.slice none 0 0)) ty,type:=t,pos:=p,after:=af,guard:=g}::rest) env H Q:=
 ⟨Fm hg hdn hx h1 h2 λc hc=>bJ hC hGL _ _ _ (k c hc)⟩
end
end
section
theorem tG (l:List (List UInt8)):cP l.length (aE l)=aY l:=by
 unfold cP aY
 have e:l.map AVal.str=((List.range l.length).map λi=>l.getD i []).flatMap λs=>[AVal.str s]:=by
  rw[List.map_eq_flatMap];congr 1
  refine List.ext_getElem (by simp) λi h1 h2=> ?_;simp[List.getD,h1]
 rw[e,List.flatMap_map];rfl
theorem HB {P:Program}{G:Glo}{f:FuncId}{avs:List AVal}{sz:Nat}{fl:Nat->AVal}(h:ad P G f avs [] (λr H=>(r= .ret (.raw (.slice none 0 0))/\H=[])\/∃v eT cs,r= .ret (.own 0 v)/\H=[.row v eT sz 0 cs])):an P G f avs (.list sz 0 fl):=by
 intro R w args hG hm ha;have key:∀e w',(∃res H' R',((res= .ret (.raw (.slice none 0 0))/\H'=[])\/∃v eT cs,res= .ret (.own 0 v)/\H'=[.row v eT sz 0 cs])/\ei R' res e/\MS ⟨w,R,dk [],G,hG,[]⟩ R' H' w')->∃res H' R',(res= .ret (.list sz 0 fl)/\H'=[])/\ei R' res e/\MS ⟨w,R,dk [],G,hG,[]⟩ R' H' w':=by
  rintro e w' ⟨res,H',R',h|h,he,hms⟩
  ·obtain⟨rfl,rfl⟩:=h;obtain⟨u,rfl,hu⟩:=he;obtain rfl:=al.1 hu;exact⟨_,[],R',⟨rfl,rfl⟩,⟨_,rfl,⟨none,0,rfl,Nat.le_refl _,.inl rfl⟩,rfl⟩,hms⟩
  ·obtain⟨v,eT,cs,rfl,rfl⟩:=h;obtain⟨u,rfl,hu⟩:=he;obtain⟨rfl,_⟩:=aQ.1 hu;obtain⟨_,h0⟩:=hms.heap.holds _ (List.mem_cons_self ..);refine⟨_,[],R',⟨rfl,rfl⟩,?_,hms.drop (List.nil_sublist _)⟩;rcases h0 with⟨rfl,_⟩|⟨b,cap,_,_,_,rfl,_⟩
   ·exact⟨_,rfl,⟨none,0,rfl,Nat.le_refl _,.inl rfl⟩,rfl⟩
   ·exact⟨_,rfl,⟨some ⟨b,0,none⟩,cap,rfl,Nat.zero_le _,.inl rfl⟩,rfl⟩
 rcases h R w args hG hm ha with⟨h1,h2⟩|⟨v,w',h1,h2⟩
 ·exact .inl ⟨h1,h2.mono key⟩
 ·exact .inr ⟨v,w',h1,key _ _ h2⟩
attribute [local irreducible] bI ap aa az aW ab ad
attribute [local irreducible] da aY cP
theorem El {G:Glo}(l:List Pr)(h0:0<l.length)(hl:l.length<=10000):ad prog G 44 [.list 2 l.length (dM l)] [] (λr H=>∃b cap,r= .ret (.own 0 (kg b l.length cap))/\H=[jq none b l.length cap l]):=by
 have hrc:=Gi l;have hok:az 2 l.length (dM l):=by unfold az;exact λi _=>⟨rfl,rfl,rfl⟩
 refine aw func44 call44 λC hC hGL=> ?_;refine aZ ?_;intros;refine my hC hGL rfl rfl rfl rfl rfl λc hc=> ?_;obtain rfl:c=false:=by cases c;rfl;exact absurd (hc rfl) (by omega)
 repeat' (first|(conv=>whnf);first|refine .w ?_|refine .v ?_|refine bu ?_ ?_<;>(intro hb;try exact dd hb)|apply au|apply aM|(apply a6<;>intro hb)|(apply ba;intro hbd)|(apply bc;intro bl)|(apply bh;intro va vk vc hva)|(apply bg;intro v)|(apply bj;intro bl cap hcap)|apply BU|(apply bf<;>intro hnx)|exact True.intro|(apply cW;intro C hC)|apply cV|apply cT|(apply cU;exact rfl)|(show Rt _ _ _;exact a7)|fail)
 all_goals try conv=>whnf
 rw[Nat.zero_add] at hva ⊢;obtain⟨b,rfl,rfl⟩:=hva h0;rw[hrc];exact⟨_,List.Sublist.refl _,b,vc,rfl,rfl⟩
theorem oe {G:Glo}(l:List (List UInt8))(h0:0<l.length)(hl:l.length<=2000000):ad prog G 18 [.list 1 l.length (aE l)] [] (λr H=>∃b cap,r= .ret (.own 0 (.slice (some ⟨b,0,none⟩) l.length cap))/\H=[.row (.slice (some ⟨b,0,none⟩) l.length cap) none 1 l.length (aY l)]):=by
 have hrc:=tG l;have hok:az 1 l.length (aE l):=by unfold az;exact λi _=>⟨rfl,rfl,rfl⟩
 refine aw func18 call18 λC hC hGL=> ?_;refine aZ ?_;intros;refine my hC hGL rfl rfl rfl rfl rfl λc hc=> ?_;obtain rfl:c=false:=by cases c;rfl;exact absurd (hc rfl) (by omega)
 repeat' (first|(conv=>whnf);first|refine .w ?_|refine .v ?_|refine bu ?_ ?_<;>(intro hb;try exact dd hb)|apply au|apply aM|(apply a6<;>intro hb)|(apply ba;intro hbd)|(apply bc;intro bl)|(apply bh;intro va vk vc hva)|(apply bg;intro v)|(apply bj;intro bl cap hcap)|apply BU|(apply bf<;>intro hnx)|exact True.intro|(apply cW;intro C hC)|apply cV|apply cT|(apply cU;exact rfl)|(show Rt _ _ _;exact a7)|fail)
 all_goals try conv=>whnf
 rw[Nat.zero_add] at hva ⊢;obtain⟨b,rfl,rfl⟩:=hva h0;rw[hrc];exact⟨_,List.Sublist.refl _,b,vc,rfl,rfl⟩
theorem Aj {G:Glo}(fl:Nat->AVal):ad prog G 18 [.list 1 0 fl] [] (λr H=>(r= .ret (.raw (.slice none 0 0))/\H=[])\/∃v eT cs,r= .ret (.own 0 v)/\H=[.row v eT 1 0 cs]):=by
 have hok:az 1 0 fl:=by unfold az;exact λi h=>absurd h (Nat.not_lt_zero _)
 refine aw func18 call18 λC hC hGL=> ?_;refine aZ ?_;intros;refine my hC hGL rfl rfl rfl rfl rfl λc hc=> ?_;cases c
 ·repeat' (first|(conv=>whnf);first|refine .w ?_|refine .v ?_|refine bu ?_ ?_<;>(intro hb;try exact dd hb)|apply au|apply aM|(apply a6<;>intro hb)|(apply ba;intro hbd)|(apply bc;intro bl)|(apply bh;intro va vk vc hva)|(apply bg;intro v)|(apply bj;intro bl cap hcap)|apply BU|(apply bf<;>intro hnx)|exact True.intro|(apply cW;intro C hC)|apply cV|apply cT|(apply cU;exact rfl)|(show Rt _ _ _;exact a7)|fail)
  all_goals try conv=>whnf
  exact⟨_,List.Sublist.refl _,.inr ⟨_,_,_,rfl,rfl⟩⟩
 ·repeat' (first|(conv=>whnf);first|refine .w ?_|refine .v ?_|refine bu ?_ ?_<;>(intro hb;try exact dd hb)|apply au|apply aM|(apply a6<;>intro hb)|(apply ba;intro hbd)|(apply bc;intro bl)|(apply bh;intro va vk vc hva)|(apply bg;intro v)|(apply bj;intro bl cap hcap)|apply BU|(apply bf<;>intro hnx)|exact True.intro|(apply cW;intro C hC)|apply cV|apply cT|(apply cU;exact rfl)|(show Rt _ _ _;exact a7)|fail)
  all_goals try conv=>whnf
  exact⟨_,List.Sublist.refl _,.inl ⟨rfl,rfl⟩⟩
theorem uZ {G:Glo}(l:List (List UInt8))(hl:l.length<=2000000):an prog G 18 [.list 1 l.length (aE l)] (.list 1 l.length (aE l)):=by
 by_cases h0:0<l.length
 ·exact p4 (λa=>a) CP (aE l) (iS l) ((oe l h0 hl).mono λ_ _ ⟨b,cap,h1,h2⟩=>⟨_,_,h1,h2⟩)
 ·obtain rfl:=List.eq_nil_of_length_eq_zero (Nat.eq_zero_of_not_pos h0);exact HB (Aj (aE []))
end
section
attribute [local irreducible] bI ap aa az aW ab ad
attribute [local irreducible] da aY cP
theorem yr {G:Glo}(L:List Pr)(b cap i:Nat)(hi:i<L.length)(hl:L.length<=10000):ad prog G 43 [.raw (kg b L.length cap),.int .i64 (i:Nat),.int .i64 ((i+1:Nat):Int)] [jq none b L.length cap L] (λr H=>∃D:List AVal,D.take ((L.length-1)*2)=da (L.eraseIdx i)/\r= .ret (.raw (kg b (L.length-1) cap))/\H=[.row (kg b L.length cap) none 2 L.length D]):=by
 have hGL:ab G []:=aD;refine gL [(0,0,kg b L.length cap)] func43 call43 rfl rfl rfl rfl (by repeat (first|exact trivial|refine And.intro ⟨rfl,rfl⟩ ?_)) ?_;intro C hC;refine M6 (i:=0) rfl λhcap=> ?_;refine aI hC hGL (aT ?_);intros;refine vQ (oi (by omega)) hC hGL (.inl rfl) rfl rfl rfl (by omega) (by omega) hcap rfl rfl rfl rfl rfl ?_;refine aT ?_;intros;have hpos:0<L.length:=by omega
 have hpl:=fa L;have hpo:=AY L;obtain⟨yo,c1,hv2,hyo⟩:∃yo c1,sliced (some ⟨b,0,none⟩) (i+1) L.length cap 2= .slice (some ⟨b,yo,none⟩) (L.length-(i+1)) c1/\(L.length-(i+1)=0\/yo=(i+1)*2):=by
  by_cases hend:i+1=cap
  ·exact⟨0,0,by rw[hend,Au],.inl (by omega)⟩
  ·exact⟨_,_,oi (by omega),.inr rfl⟩
 refine dz mixed hC hGL false (λ_:Unit=>[(0,.raw (kg b (i+(L.length-(i+1))) cap)),(7,.int .i64 (L.length:Int))]) (λ_=>[.row (kg b L.length cap) none 2 L.length (gI (da L) (i*2) (((da L).drop ((i+1)*2)).take ((L.length-(i+1))*2)))]) (.t 0 (.t 1 (.t 3 (.t 4 (.br 2 (.b 5 (.b 6 (.t 7 .done))) (.b 5 (.b 2 (.b 6 (.t 7 .done))))))))) (by kernel_rfl) ?_ ?_
 ·refine xn ?_;repeat' first|exact .n|apply Lc.mk
  all_goals intros
  ·rename_i wC whC;refine rc (by assumption) hGL rfl rfl (by omega) (by omega) rfl rfl rfl rfl rfl ?_;repeat' (first|(conv=>whnf);first|refine .w ?_|refine .v ?_|refine bu ?_ ?_<;>(intro hb;try exact dd hb)|apply au|apply aM|(apply a6<;>intro hb)|(apply ba;intro hbd)|(apply bc;intro bl)|(apply bh;intro va vk vc hva)|(apply bg;intro v)|(apply bj;intro bl cap hcap)|apply bx|(apply bf<;>intro hnx)|exact True.intro|(apply cW;intro C hC)|apply cV|apply cT|(apply cU;exact rfl)|(show Rt _ _ _;exact a7)|fail)
   all_goals try conv=>whnf
   refine q9 hv2 (by assumption) hGL (.inl rfl) rfl (by omega) hcap rfl rfl rfl rfl rfl ?_;repeat' (first|(conv=>whnf);first|refine .w ?_|refine .v ?_|refine bu ?_ ?_<;>(intro hb;try exact dd hb)|apply au|apply aM|(apply a6<;>intro hb)|(apply ba;intro hbd)|(apply bc;intro bl)|(apply bh;intro va vk vc hva)|(apply bg;intro v)|(apply bj;intro bl cap hcap)|apply bx|(apply bf<;>intro hnx)|exact True.intro|(apply cW;intro C hC)|apply cV|apply cT|(apply cU;exact rfl)|(show Rt _ _ _;exact a7)|fail)
   all_goals try conv=>whnf
   refine kH (i:=0) (j1:=0) (sz:=2) (j:=i+1) (by assumption) hGL rfl rfl (.inl rfl) (.inr rfl) rfl rfl rfl rfl rfl hpos (by omega) (by omega) hpo hyo ?_;repeat' (first|(conv=>whnf);first|refine .w ?_|refine .v ?_|refine bu ?_ ?_<;>(intro hb;try exact dd hb)|apply au|apply aM|(apply a6<;>intro hb)|(apply ba;intro hbd)|(apply bc;intro bl)|(apply bh;intro va vk vc hva)|(apply bg;intro v)|(apply bj;intro bl cap hcap)|apply bx|(apply bf<;>intro hnx)|exact True.intro|(apply cW;intro C hC)|apply cV|apply cT|(apply cU;exact rfl)|(show Rt _ _ _;exact a7)|fail)
   all_goals try conv=>whnf
   exact⟨(),ai,rfl⟩
  ·rename_i wC whC;refine q9 hv2 (by assumption) hGL (.inl rfl) rfl (by omega) hcap rfl rfl rfl rfl rfl ?_;repeat' (first|(conv=>whnf);first|refine .w ?_|refine .v ?_|refine bu ?_ ?_<;>(intro hb;try exact dd hb)|apply au|apply aM|(apply a6<;>intro hb)|(apply ba;intro hbd)|(apply bc;intro bl)|(apply bh;intro va vk vc hva)|(apply bg;intro v)|(apply bj;intro bl cap hcap)|apply bx|(apply bf<;>intro hnx)|exact True.intro|(apply cW;intro C hC)|apply cV|apply cT|(apply cU;exact rfl)|(show Rt _ _ _;exact a7)|fail)
   all_goals try conv=>whnf
   refine rc (by assumption) hGL rfl rfl (by omega) (by omega) rfl rfl rfl rfl rfl ?_;repeat' (first|(conv=>whnf);first|refine .w ?_|refine .v ?_|refine bu ?_ ?_<;>(intro hb;try exact dd hb)|apply au|apply aM|(apply a6<;>intro hb)|(apply ba;intro hbd)|(apply bc;intro bl)|(apply bh;intro va vk vc hva)|(apply bg;intro v)|(apply bj;intro bl cap hcap)|apply bx|(apply bf<;>intro hnx)|exact True.intro|(apply cW;intro C hC)|apply cV|apply cT|(apply cU;exact rfl)|(show Rt _ _ _;exact a7)|fail)
   all_goals try conv=>whnf
   refine kH (i:=0) (j1:=0) (sz:=2) (j:=i+1) (by assumption) hGL rfl rfl (.inl rfl) (.inr rfl) rfl rfl rfl rfl rfl hpos (by omega) (by omega) hpo hyo ?_;repeat' (first|(conv=>whnf);first|refine .w ?_|refine .v ?_|refine bu ?_ ?_<;>(intro hb;try exact dd hb)|apply au|apply aM|(apply a6<;>intro hb)|(apply ba;intro hbd)|(apply bc;intro bl)|(apply bh;intro va vk vc hva)|(apply bg;intro v)|(apply bj;intro bl cap hcap)|apply bx|(apply bf<;>intro hnx)|exact True.intro|(apply cW;intro C hC)|apply cV|apply cT|(apply cU;exact rfl)|(show Rt _ _ _;exact a7)|fail)
   all_goals try conv=>whnf
   exact⟨(),ai,rfl⟩
 intro _;refine aT ?_;intros;refine yE (i:=0) (oi (by omega)) hC hGL (.inr rfl) rfl rfl (by omega) hcap rfl rfl rfl rfl rfl ?_;refine aT ?_;intros;have hps:=Em hi;obtain⟨Cs,hCs⟩:∃c,c=gI (da L) (i*2) (((da L).drop ((i+1)*2)).take ((L.length-(i+1))*2)):=⟨_,rfl⟩;rw[<-hCs] at hps ⊢;refine A0 (i:=0) (j0:=0) (c1:=cap-(i+(L.length-(i+1)))) (sz:=2) (o:=i+(L.length-(i+1))) (zs:=prCs Pr.z) hC hGL rfl (.inr (by rw[show L.length-(i+(L.length-(i+1)))=1 by omega];rfl)) rfl (by omega) rfl rfl rfl rfl rfl (λR=> ?_) rfl ?_
 ·exact⟨_,_,rfl,rfl,_,_,rfl,⟨none,0,rfl,Nat.le_refl _,.inl rfl⟩,rfl⟩
 refine aT ?_;intros;have hCl:Cs.length=L.length*2:=by rw[hCs,tK (by rw[List.length_take,List.length_drop,hpl];omega),hpl]
 refine⟨_,List.Sublist.refl _,_,?_,by rw[show i+(L.length-(i+1))=L.length-1 by omega],rfl⟩;rw[show i+(L.length-(i+1))=L.length-1 by omega,<-hps];unfold gI;rw[List.append_assoc,List.take_append_of_le_length (by rw[List.length_take];omega),List.take_take,Nat.min_self]
theorem AW {G:Glo}(L:List Pr)(b cap i:Nat)(hi:i<L.length)(hl:L.length<=10000):ad prog G 43 [.raw (kg b L.length cap),.int .i64 (i:Nat),.int .i64 ((i+1:Nat):Int)] [jq none b L.length cap L] (λr H=>r= .ret (.raw (kg b (L.length-1) cap))/\H=[jq none b (L.length-1) cap (L.eraseIdx i)]):=by
 refine p5 (λ_=>Iff.rfl) (λ_ _ _ h=>h) (yr L b cap i hi hl) ?_;rintro r H' ⟨D,hD,rfl,rfl⟩;refine⟨_,⟨rfl,rfl⟩,λC R w h=> ?_⟩;have:=h.shortZ (k:=L.length-1) (by omega);rw[hD] at this;exact this
end
section
theorem iQ {x y:Int}(h:x=y):some (AVal.int .i64 x)=some (.int .i64 y):=by rw[h]
theorem vN {L:List Pr}{i o:Nat}{x:Pr}(h:i<L.length)(ho:o=i*2)(hx:L.getD i Pr.z=x):((da L).drop o).take 2=prCs x:=by
 subst ho hx;exact qY h
theorem nw {A B:List Pr}{x:Pr}{i:Nat}(h:i=A.length):(A++x::B).getD i Pr.z=x:=by
 subst h;simp
theorem xF {A:List Pr}(h:0<A.length):A=A.take (A.length-1)++[A.getD (A.length-1) Pr.z]:=by
 rw[List.getD_eq_getElem?_getD,List.getElem?_eq_getElem (by omega)];have:=(List.take_append_getElem (l:=A) (i:=A.length-1) (by omega)).symm;rw[show A.length-1+1=A.length by omega,List.take_length] at this;exact this
theorem KO {L:List Pr}{m cap b o i s:Nat}{x:Pr}{K:List AVal->Prop}(hs:s=2)(ho:o=i*2)(hi:i<L.length)(hm:L.length=m)(hx:L.getD i Pr.z=x)(k:K (prCs x)):Sp (dL (kg b m cap) b m/\o+s<=m*2/\0<m) (Gs (da L) o s K):=by
 subst hs;exact⟨⟨⟨_,rfl⟩,by omega,by omega⟩,⟨_,vN hi ho hx,k⟩⟩
theorem Ok {L:List Pr}{m cap b o i s:Nat}{x:Pr}{eT:Option TypeId}{K:Heap->Prop}(hs:s=2)(ho:o=i*2)(hi:i<L.length)(hm:L.length=m)(k:K [jq eT b m cap (L.set i x)]):Sp (dL (kg b m cap) b m/\o+s<=m*2/\0<m) (cn ([jq eT b m cap L].set 0 (.row (kg b m cap) eT 2 m ((da L).take o++prCs x++(da L).drop (o+s)))) K):=by
 subst hs ho;refine⟨⟨⟨_,rfl⟩,by omega,by omega⟩,?_⟩;rw[aP];have e:(da L).take (i*2)++prCs x++(da L).drop (i*2+2)=da (L.set i x):=vM x hi;rw[e];exact k
theorem Co {A R:List Pr}{x y:Pr}{i:Nat}(h:i=A.length):((A++(y::x::R)).set (i+1) y).set i x=A++(x::y::R):=by
 subst h;simp[List.set_append]
attribute [local irreducible] bI ap aa az aW ab ad
attribute [local irreducible] da cO
theorem mh {G:Glo}(f:Nat)(hf:∀x y:Pr,an prog G f [.agg (prCs x),.agg (prCs y)] (.int .i64 (Lib.compareBytes x.n y.n)))(eT:Option TypeId)(b m cap:Nat)(e:Int)(L:List Pr)(hm:m=L.length)(he:e=m)(hml:m<=1000):
  ad prog G 167 [.raw (kg b m cap),.int .i64 0,.int .i64 e,.func (.func f) [] []] [jq eT b m cap L] (λr H=>r= .ret (.tuple [])/\H=[jq eT b m cap (cO L)]):=by
 have hGL:ab G []:=aD;refine gL [(0,0,kg b m cap)] func167 call167 rfl rfl rfl rfl (by repeat (first|exact trivial|refine And.intro ⟨rfl,rfl⟩ ?_)) ?_;intro C hC;refine aI hC hGL (aT ?_);by_cases h0:L.length=0
 ·obtain rfl:=List.eq_nil_of_length_eq_zero h0;refine ja hC hGL 1 ?_;rw[show cO []=[] by unfold cO;rfl];exact ez
 refine lp hC hGL (λk:Nat=>[(0,.own 0 (kg b m cap)),(1,.int .i64 0),(2,.int .i64 e),(3,.func (.func f) [] []),(8,.int .i64 (k:Nat))]) (λk=>[jq eT b m cap (cO (L.take k)++L.drop k)]) (λk=>1<=k/\k<=L.length) (λk=>L.length-k) 1 ⟨Nat.le_refl _,by omega⟩ ai ?_ ?_
 ·cases L with
  |nil=>exact absurd rfl h0
  |cons x L=>rw[show cO ((x::L).take 1)=[x] by unfold cO;rfl];rfl
 intro k ⟨hk1,hk2⟩;by_cases hk:k<L.length
 ·refine aT ?_;intros;have hx:L.drop k=L.getD k Pr.z::L.drop (k+1):=by rw[List.getD_eq_getElem?_getD,List.getElem?_eq_getElem hk];exact List.drop_eq_getElem_cons hk
  generalize L.getD k Pr.z=x at*
  refine lp hC hGL (λz:List Pr×List Pr=>[(0,.own 0 (kg b m cap)),(1,.int .i64 0),(2,.int .i64 e),(3,.func (.func f) [] []),(8,.int .i64 (k:Nat)),(9,.int .i64 (z.1.length:Nat))]) (λz=>[jq eT b m cap (z.1++(x::(z.2++L.drop (k+1))))]) (λz=>cO (L.take k)=z.1++z.2/\∀u∈z.2,jv x.n u.n=true) (λz=>z.1.length) (cO (L.take k),[]) ⟨(List.append_nil _).symm,λu hu=>by cases hu⟩ ⟨rfl,rfl,rfl,rfl,rfl,iQ ?_,trivial⟩ ?_ ?_
  ·dsimp only;rw[gC,List.length_take];omega
  ·rw[hx];rfl
  rintro⟨A,B⟩ ⟨h1,h2⟩;dsimp only at h1 h2 ⊢;have h3:=congrArg List.length h1;rw[gC,List.length_take,List.length_append] at h3;by_cases hA:0<A.length
  ·have hA2:=xF hA;generalize hyy:A.getD (A.length-1) Pr.z=y at*
   generalize hAA:A.take (A.length-1)=A' at*
   have hlA:A.length=A'.length+1:=by rw[hA2];simp
   obtain⟨i,hi⟩:∃i,i=A'.length:=⟨_,rfl⟩;obtain⟨L0,hL0⟩:∃l,l=A++(x::(B++L.drop (k+1))):=⟨_,rfl⟩;rw[<-hL0];have hl0:L0.length=m:=by rw[hL0];simp only[List.length_append,List.length_cons,List.length_drop];omega
   have e1:L0.getD (i+1) Pr.z=x:=by rw[hL0];exact nw (by omega)
   have e2:L0.getD i Pr.z=y:=by rw[hL0,hA2,List.append_assoc];exact nw hi
   have g1:((da L0).drop ((i+1)*2)).take 2=prCs x:=vN (by omega) rfl e1;have g2:((da L0).drop ((((i+1:Nat):Int)-1).toNat*2)).take 2=prCs y:=vN (i:=i) (by omega) (by omega) e2;have hc:=hf x y;have hcb:=Dn x.n y.n;have hcs:=Dm x.n y.n;have hj:A.length=i+1:=by omega
   have hsw:(L0.set (i+1) y).set i x=A'++(x::(y::B++L.drop (k+1))):=by
    rw[hL0,hA2,List.append_assoc];exact Co hi
   rw[hj];generalize Lib.compareBytes x.n y.n=cv at*
   refine aT ?_;intros;refine dz mixed hC hGL false (λ_:Unit=>[(0,.own 0 (kg b m cap)),(1,.int .i64 0),(2,.int .i64 e),(3,.func (.func f) [] []),(8,.int .i64 (k:Nat)),(9,.int .i64 ((i+1:Nat):Int)),(34,.bool (lP cv 0))]) (λ_=>[jq eT b m cap L0]) .p5 (by kernel_rfl) ?_ ?_
   ·refine xn ?_;repeat' first|exact .n|apply Lc.mk
    all_goals intros
    ·refine KO (i:=i+1) rfl rfl (by omega) hl0 e1 ?_;repeat' (first|(conv=>whnf);first|refine .w ?_|refine .v ?_|refine bu ?_ ?_<;>(intro hb;try exact dd hb)|apply au|apply aM|(apply a6<;>intro hb)|(apply ba;intro hbd)|(apply bc;intro bl)|(apply bh;intro va vk vc hva)|(apply bg;intro v)|(apply bj;intro bl cap hcap)|apply bx|(apply bf<;>intro hnx)|exact True.intro|(apply cW;intro C hC)|apply cV|apply cT|(apply cU;exact rfl)|(show Rt _ _ _;exact a7)|fail)
     all_goals try conv=>whnf
     refine KO (i:=i) rfl (by show(((i+1:Nat):Int)-1).toNat*2=i*2;omega) (by omega) hl0 e2 ?_;repeat' (first|(conv=>whnf);first|refine .w ?_|refine .v ?_|refine bu ?_ ?_<;>(intro hb;try exact dd hb)|apply au|apply aM|(apply a6<;>intro hb)|(apply ba;intro hbd)|(apply aJ;exact hc)|(apply ax (i:=0) rfl;exact hc)|(apply bc;intro bl)|(apply bh;intro va vk vc hva)|(apply bg;intro v)|(apply bj;intro bl cap hcap)|apply bx|(apply bf<;>intro hnx)|exact True.intro|(apply cW;intro C hC)|apply cV|apply cT|(apply cU;exact rfl)|(show Rt _ _ _;exact a7)|fail)
     all_goals try conv=>whnf
     exact⟨(),ai,rfl⟩
    ·refine KO (i:=i) rfl (by show(((i+1:Nat):Int)-1).toNat*2=i*2;omega) (by omega) hl0 e2 ?_;repeat' (first|(conv=>whnf);first|refine .w ?_|refine .v ?_|refine bu ?_ ?_<;>(intro hb;try exact dd hb)|apply au|apply aM|(apply a6<;>intro hb)|(apply ba;intro hbd)|(apply bc;intro bl)|(apply bh;intro va vk vc hva)|(apply bg;intro v)|(apply bj;intro bl cap hcap)|apply bx|(apply bf<;>intro hnx)|exact True.intro|(apply cW;intro C hC)|apply cV|apply cT|(apply cU;exact rfl)|(show Rt _ _ _;exact a7)|fail)
     all_goals try conv=>whnf
     refine KO (i:=i+1) rfl rfl (by omega) hl0 e1 ?_;repeat' (first|(conv=>whnf);first|refine .w ?_|refine .v ?_|refine bu ?_ ?_<;>(intro hb;try exact dd hb)|apply au|apply aM|(apply a6<;>intro hb)|(apply ba;intro hbd)|(apply aJ;exact hc)|(apply ax (i:=0) rfl;exact hc)|(apply bc;intro bl)|(apply bh;intro va vk vc hva)|(apply bg;intro v)|(apply bj;intro bl cap hcap)|apply bx|(apply bf<;>intro hnx)|exact True.intro|(apply cW;intro C hC)|apply cV|apply cT|(apply cU;exact rfl)|(show Rt _ _ _;exact a7)|fail)
     all_goals try conv=>whnf
     exact⟨(),ai,rfl⟩
   intro _;refine xn ?_;repeat' first|exact .n|apply Lc.mk
   all_goals intros
   ·refine dz mixed hC hGL false (λ_:Unit=>[(0,.own 0 (kg b m cap)),(1,.int .i64 0),(2,.int .i64 e),(3,.func (.func f) [] []),(8,.int .i64 (k:Nat)),(9,.int .i64 ((i+1:Nat):Int))]) (λ_=>[jq eT b m cap (A'++(x::(y::B++L.drop (k+1))))]) (.t 0 (.t 1 (.t 2 (.t 3 (.t 4 (.t 5 (.t 6 (.t 7 (.t 8 (.t 10 (.t 11 (.t 12 (.br 9 (.b 13 (.t 14 (.b 15 (.t 16 (.b 17 .done))))) (.b 13 (.b 9 (.t 14 (.b 15 (.t 16 (.b 17 .done))))))))))))))))))) (by kernel_rfl) ?_ ?_
    ·refine xn ?_;repeat' first|exact .n|apply Lc.mk
     all_goals intros
     ·refine KO (i:=i) rfl (by show(((i+1:Nat):Int)-1).toNat*2=i*2;omega) (by omega) hl0 e2 ?_;repeat' (first|(conv=>whnf);first|refine .w ?_|refine .v ?_|refine bu ?_ ?_<;>(intro hb;try exact dd hb)|apply au|apply aM|(apply a6<;>intro hb)|(apply ba;intro hbd)|(apply bc;intro bl)|(apply bh;intro va vk vc hva)|(apply bg;intro v)|(apply bj;intro bl cap hcap)|apply bx|(apply bf<;>intro hnx)|exact True.intro|(apply cW;intro C hC)|apply cV|apply cT|(apply cU;exact rfl)|(show Rt _ _ _;exact a7)|fail)
      all_goals try conv=>whnf
      refine KO (i:=i+1) rfl rfl (by omega) hl0 e1 ?_;repeat' (first|(conv=>whnf);first|refine .w ?_|refine .v ?_|refine bu ?_ ?_<;>(intro hb;try exact dd hb)|apply au|apply aM|(apply a6<;>intro hb)|(apply ba;intro hbd)|(apply bc;intro bl)|(apply bh;intro va vk vc hva)|(apply bg;intro v)|(apply bj;intro bl cap hcap)|apply bx|(apply bf<;>intro hnx)|exact True.intro|(apply cW;intro C hC)|apply cV|apply cT|(apply cU;exact rfl)|(show Rt _ _ _;exact a7)|fail)
      all_goals try conv=>whnf
      refine Ok (i:=i+1) rfl rfl (by omega) hl0 ?_;repeat' (first|(conv=>whnf);first|refine .w ?_|refine .v ?_|refine bu ?_ ?_<;>(intro hb;try exact dd hb)|apply au|apply aM|(apply a6<;>intro hb)|(apply ba;intro hbd)|(apply bc;intro bl)|(apply bh;intro va vk vc hva)|(apply bg;intro v)|(apply bj;intro bl cap hcap)|apply bx|(apply bf<;>intro hnx)|exact True.intro|(apply cW;intro C hC)|apply cV|apply cT|(apply cU;exact rfl)|(show Rt _ _ _;exact a7)|fail)
      all_goals try conv=>whnf
      refine Ok (i:=i) rfl (by show(((i+1:Nat):Int)-1).toNat*2=i*2;omega) (by rw[List.length_set];omega) (by rw[List.length_set];exact hl0) ?_;repeat' (first|(conv=>whnf);first|refine .w ?_|refine .v ?_|refine bu ?_ ?_<;>(intro hb;try exact dd hb)|apply au|apply aM|(apply a6<;>intro hb)|(apply ba;intro hbd)|(apply bc;intro bl)|(apply bh;intro va vk vc hva)|(apply bg;intro v)|(apply bj;intro bl cap hcap)|apply bx|(apply bf<;>intro hnx)|exact True.intro|(apply cW;intro C hC)|apply cV|apply cT|(apply cU;exact rfl)|(show Rt _ _ _;exact a7)|fail)
      all_goals try conv=>whnf
      exact⟨(),ai,by rw[hsw]⟩
     ·refine KO (i:=i+1) rfl rfl (by omega) hl0 e1 ?_;repeat' (first|(conv=>whnf);first|refine .w ?_|refine .v ?_|refine bu ?_ ?_<;>(intro hb;try exact dd hb)|apply au|apply aM|(apply a6<;>intro hb)|(apply ba;intro hbd)|(apply bc;intro bl)|(apply bh;intro va vk vc hva)|(apply bg;intro v)|(apply bj;intro bl cap hcap)|apply bx|(apply bf<;>intro hnx)|exact True.intro|(apply cW;intro C hC)|apply cV|apply cT|(apply cU;exact rfl)|(show Rt _ _ _;exact a7)|fail)
      all_goals try conv=>whnf
      refine KO (i:=i) rfl (by show(((i+1:Nat):Int)-1).toNat*2=i*2;omega) (by omega) hl0 e2 ?_;repeat' (first|(conv=>whnf);first|refine .w ?_|refine .v ?_|refine bu ?_ ?_<;>(intro hb;try exact dd hb)|apply au|apply aM|(apply a6<;>intro hb)|(apply ba;intro hbd)|(apply bc;intro bl)|(apply bh;intro va vk vc hva)|(apply bg;intro v)|(apply bj;intro bl cap hcap)|apply bx|(apply bf<;>intro hnx)|exact True.intro|(apply cW;intro C hC)|apply cV|apply cT|(apply cU;exact rfl)|(show Rt _ _ _;exact a7)|fail)
      all_goals try conv=>whnf
      refine Ok (i:=i+1) rfl rfl (by omega) hl0 ?_;repeat' (first|(conv=>whnf);first|refine .w ?_|refine .v ?_|refine bu ?_ ?_<;>(intro hb;try exact dd hb)|apply au|apply aM|(apply a6<;>intro hb)|(apply ba;intro hbd)|(apply bc;intro bl)|(apply bh;intro va vk vc hva)|(apply bg;intro v)|(apply bj;intro bl cap hcap)|apply bx|(apply bf<;>intro hnx)|exact True.intro|(apply cW;intro C hC)|apply cV|apply cT|(apply cU;exact rfl)|(show Rt _ _ _;exact a7)|fail)
      all_goals try conv=>whnf
      refine Ok (i:=i) rfl (by show(((i+1:Nat):Int)-1).toNat*2=i*2;omega) (by rw[List.length_set];omega) (by rw[List.length_set];exact hl0) ?_;repeat' (first|(conv=>whnf);first|refine .w ?_|refine .v ?_|refine bu ?_ ?_<;>(intro hb;try exact dd hb)|apply au|apply aM|(apply a6<;>intro hb)|(apply ba;intro hbd)|(apply bc;intro bl)|(apply bh;intro va vk vc hva)|(apply bg;intro v)|(apply bj;intro bl cap hcap)|apply bx|(apply bf<;>intro hnx)|exact True.intro|(apply cW;intro C hC)|apply cV|apply cT|(apply cU;exact rfl)|(show Rt _ _ _;exact a7)|fail)
      all_goals try conv=>whnf
      exact⟨(),ai,by rw[hsw]⟩
    intro _;refine aT ?_;intros;refine db (A',y::B) ⟨?_,?_⟩ ?_ ⟨rfl,rfl,rfl,rfl,rfl,iQ ?_,trivial⟩ rfl
    ·rw[h1,hA2,List.append_assoc];rfl
    ·intro u hu;rcases List.mem_cons.1 hu with rfl|hu
     ·exact hcs.1 (by omega)
     ·exact h2 u hu
    ·dsimp only;omega
    ·dsimp only;omega
   ·have h5:=vZ hx h1 h2 (.inr ⟨A',y,hA2,Bool.eq_false_iff.2 λh=>by have:=hcs.2 h;omega⟩);refine db (k+1) ⟨by omega,by omega⟩ (by omega) ⟨rfl,rfl,rfl,rfl,iQ (by omega),trivial⟩ ?_;rw[hL0,h5,List.append_assoc];rfl
  ·obtain rfl:=List.eq_nil_of_length_eq_zero (Nat.eq_zero_of_not_pos hA);have h5:=vZ hx h1 h2 (.inl rfl);refine aT ?_;intros;refine dz mixed hC hGL false (λ_:Unit=>[(0,.own 0 (kg b m cap)),(1,.int .i64 0),(2,.int .i64 e),(3,.func (.func f) [] []),(8,.int .i64 (k:Nat)),(34,.bool false)]) (λ_=>[jq eT b m cap ([]++(x::(B++L.drop (k+1))))]) .p5 (by kernel_rfl) xu ?_;intro _;refine aT ?_;intros;refine db (k+1) ⟨by omega,by omega⟩ (by omega) ⟨rfl,rfl,rfl,rfl,iQ (by omega),trivial⟩ ?_;rw[h5];rfl
 ·obtain rfl:k=L.length:=by omega
  rw[List.take_length,List.drop_length,List.append_nil];exact ez
end
section
theorem xG {G:Glo}(eT:Option TypeId)(b cap:Nat)(L:List (List UInt8))(hl:L.length<=1000000):ad prog G 47 [.raw (.slice (some ⟨b,0,none⟩) L.length cap)] [wU eT b cap L] (λr H=>r= .ret (.tuple [])/\H=[wU eT b cap (eS L)]):=
 pf call47 dS λw h1 h2 _=>slices_Sort_string b 0 cap L w h1 h2 (by omega)
theorem vf {G:Glo}(eT:Option TypeId)(b cap:Nat)(L:List (List UInt8))(hl:L.length<=1000000):ad prog G 25 [.raw (.slice (some ⟨b,0,none⟩) L.length cap)] [wU eT b cap L] (λr H=>r= .ret (.tuple [])/\H=[wU eT b cap (eS L)]):=
 pf call25 dS λw h1 h2 _=>sort_Strings b 0 cap L w h1 h2 (by omega)
theorem qx {G:Glo}(eT:Option TypeId)(b cap:Nat)(L:List (List UInt8))(hl:L.length<=1000000)(hc:(Lib.compact L).length<=L.length):ad prog G 48 [.raw (.slice (some ⟨b,0,none⟩) L.length cap)] [wU eT b cap L] (λr H=>r= .ret (.raw (.slice (some ⟨b,0,none⟩) (Lib.compact L).length cap))/\H=[wU eT b cap (Lib.compact L)]):=
 wm call48 hc λw h1 _ h3=>slices_Compact_string b 0 cap L w h1 (by omega) h3
theorem pq {G:Glo}(s t:List UInt8):an prog G 51 [.str s,.str t] (.int .i64 (Lib.compareBytes s t)):=by
 refine gg (.int .i64 (Lib.compareBytes s t)) (λR=>am.2 rfl) call51 ?_;rintro R args ⟨x,l1,e1,hx,y,l2,e2,hy,e3⟩ w hG hm;obtain rfl:=aF.1 hx;obtain rfl:=aF.1 hy;subst e3 e2;obtain rfl:=dN e1;refine(strings_Compare ⟨s.toArray⟩ ⟨t.toArray⟩ w).mono ?_;rintro e w' ⟨rfl,rfl⟩;exact⟨rfl,Below.refl _ _⟩
-- for the shelf: laysGt8
end
section
attribute [local irreducible] bI ap aa az aW ab ad
attribute [local irreducible] da cO
theorem rF {G:Glo}(f:Nat)(eT:Option TypeId)(b m cap:Nat)(a e:Int)(L:List Pr)(ha:0<=a)(ha2:a<=1000)(he:e<=a):
  ad prog G 167 [.raw (kg b m cap),.int .i64 a,.int .i64 e,.func (.func f) [] []] [jq eT b m cap L] (λr H=>r= .ret (.tuple [])/\H=[jq eT b m cap L]):=by
 have hGL:ab G []:=aD;refine gL [(0,0,kg b m cap)] func167 call167 rfl rfl rfl rfl (by repeat (first|exact trivial|refine And.intro ⟨rfl,rfl⟩ ?_)) ?_;intro C hC;refine aI hC hGL (aT ?_);refine ja hC hGL 1 ?_;exact ez
theorem Ap {G:Glo}(f:Nat)(hf:∀x y:Pr,an prog G f [.agg (prCs x),.agg (prCs y)] (.int .i64 (Lib.compareBytes x.n y.n)))(eT:Option TypeId)(b m cap:Nat)(L:List Pr)(hm:m=L.length)(hml:m<=20):
  ad prog G 99 [.raw (kg b m cap),.int .i64 (m:Int),.func (.func f) [] []] [jq eT b m cap L] (λr H=>r= .ret (.tuple [])/\H=[jq eT b m cap (cO L)]):=by
 by_cases h20:m=20
 ·have hI:=mh f hf eT b m cap 20 L hm (by omega) (by omega);have hN:=rF (G:=G) f eT b m cap 20 (m:Int) (cO L) (by omega) (by omega) (by omega);have hGL:ab G []:=aD;refine gL [(0,0,kg b m cap)] func99 call99 rfl rfl rfl rfl (by repeat (first|exact trivial|refine And.intro ⟨rfl,rfl⟩ ?_)) ?_;intro C hC;refine aI hC hGL (aT ?_);refine ja hC hGL 2 ?_;refine aT ?_;intros;refine ja hC hGL 1 ?_;exact ez
 ·have hI:=mh f hf eT b m cap (m:Int) L hm rfl (by omega);have hGL:ab G []:=aD;refine gL [(0,0,kg b m cap)] func99 call99 rfl rfl rfl rfl (by repeat (first|exact trivial|refine And.intro ⟨rfl,rfl⟩ ?_)) ?_;intro C hC;refine aI hC hGL (aT ?_);refine ja hC hGL 1 ?_;refine aT ?_;intros;refine ja hC hGL 1 ?_;exact ez
theorem xE {G:Glo}(f:Nat)(hf:∀x y:Pr,an prog G f [.agg (prCs x),.agg (prCs y)] (.int .i64 (Lib.compareBytes x.n y.n)))(eT:Option TypeId)(b m cap:Nat)(L:List Pr)(hm:m=L.length)(hml:m<=20):
  ad prog G 49 [.raw (kg b m cap),.func (.func f) [] []] [jq eT b m cap L] (λr H=>r= .ret (.tuple [])/\H=[jq eT b m cap (cO L)]):=by
 have hI:=Ap f hf eT b m cap L hm hml;have hGL:ab G []:=aD;refine gL [(0,0,kg b m cap)] func49 call49 rfl rfl rfl rfl (by repeat (first|exact trivial|refine And.intro ⟨rfl,rfl⟩ ?_)) ?_;intro C hC;refine aI hC hGL ?_;exact ez
theorem uI {G:Glo}(x y:Pr):an prog G 50 [.agg (prCs x),.agg (prCs y)] (.int .i64 (Lib.compareBytes x.n y.n)):=by
 have hc:=pq (G:=G) x.n y.n;unfold prCs;refine aw func50 call50 λC hC hGL=> ?_;exact bK
end
section
theorem nH {P:Program}[Tab P]{G:Glo}{f:FuncId}{avs:List AVal}{H:Heap}{K Kp:AVal->Heap->Prop}{m sz:Nat}{cs:List AVal}{eT:Option TypeId}(hs:ad P G f avs [] (λr H'=>∃b cap,r= .ret (.own 0 (.slice (some ⟨b,0,none⟩) m cap))/\H'=[.row (.slice (some ⟨b,0,none⟩) m cap) eT sz m cs]))
  (k:∀b cap:Nat,K (.own H.length (.slice (some ⟨b,0,none⟩) m cap)) (H++[.row (.slice (some ⟨b,0,none⟩) m cap) eT sz m cs])):Cx P G f avs H K Kp:=by
 have h1:=ff H hs;refine .mk (λr H'=>∃b cap,r= .ret (.own H.length (.slice (some ⟨b,0,none⟩) m cap))/\H'=H++[.row (.slice (some ⟨b,0,none⟩) m cap) eT sz m cs]) ?_ ?_ ?_
 ·intro R w args hG hm ha;have key:∀e w',(∃res H' R',(∃H1',(∃b cap,res= .ret (.own 0 (.slice (some ⟨b,0,none⟩) m cap))/\H1'=[.row (.slice (some ⟨b,0,none⟩) m cap) eT sz m cs])/\H'=H1'++H)/\ei R' res e/\MS ⟨w,R,dk H,G,hG,[]⟩ R' H' w')->∃res H' R',(∃b cap,res= .ret (.own H.length (.slice (some ⟨b,0,none⟩) m cap))/\H'=H++[.row (.slice (some ⟨b,0,none⟩) m cap) eT sz m cs])/\ei R' res e/\MS ⟨w,R,dk H,G,hG,[]⟩ R' H' w':=by
   rintro e w' ⟨res,H',R',⟨H1',⟨b,cap,rfl,rfl⟩,rfl⟩,⟨u,rfl,hu⟩,hms⟩;exact⟨_,_,R',⟨b,cap,rfl,rfl⟩,⟨u,rfl,aQ.2 (aQ.1 hu)⟩,hms.perm (List.perm_append_comm)⟩
  rcases h1 R w args hG (by simpa using hm) ha with⟨h2,h3⟩|⟨v,w',h2,h3⟩
  ·exact .inl ⟨h2,h3.mono key⟩
  ·exact .inr ⟨v,w',h2,key _ _ h3⟩
 ·rintro v H' ⟨b,cap,e,rfl⟩;cases e;exact k b cap
 ·rintro v H' ⟨b,cap,e,_⟩;cases e
end
end Go.Proofs.YtmdhmodenkjmdaaGreatDoor
