/- Parts of the proof of streamCards_card. -/
import Derived.Deep.AppendSrc
import Derived.Laws.IdiomStrings
import Derived.Deep.Quiet
import Derived.Test.YtgpjhbhdbjdlgaaGreatDoorBaa
set_option linter.unusedVariables false
set_option linter.unusedSimpArgs false
set_option linter.unusedSectionVars false
namespace Go.Proofs.YtgpjhbhdbjdlgaaGreatDoor
open Tryz
set_option maxRecDepth 20000
set_option maxHeartbeats 4000000
section
open Go
theorem NP.drew {w0 w:World}{B:List Nat}(h:NP w0 B w):NP w0 B w.drew:=⟨h.os,h.tape,h.output,h.size,h.block⟩
theorem MS.drew {C:Ctx}{R:Seal}{H:Heap}{w:World}(h:MS C R H w):MS C R H w.drew:=
 ⟨h.sealed,h.ge,h.fresh,⟨λy hy=>HEnt.holds_mono (h.heap.holds y hy) (Seal.le_refl R) λ_ _=>rfl,h.heap.nodup,h.heap.apart⟩,h.own,h.ext.drew⟩
theorem lT (w:World)(o:Obj):w.alloc o=grow w o:=rfl
theorem MS.replace {C:Ctx}{R:Seal}{H:Heap}{w:World}{i:Nat}{x y:HEnt}(h:MS C R H w)(hi:H[i]? =some x)(o:Obj)(hb:y.blk=some w.heap.size)
  (hy:y.holds R (grow w o)):MS C R (H.set i y) (grow w o):=by
 obtain⟨a,c,rfl,hset⟩:=pR (y:=y) hi;rw[hset];have h1:MS C R (a++c) w:=h.drop (List.Sublist.append (At a) (List.sublist_cons_self x c));exact(h1.alloc o y hb hy).perm List.perm_middle.symm
theorem MS.swap {C:Ctx}{R:Seal}{H:Heap}{w:World}{i:Nat}{x y:HEnt}(h:MS C R H w)(hi:H[i]? =some x)(hb:y.blk=x.blk)(hy:y.holds R w):MS C R (H.set i y) w:=by
 obtain⟨a,c,rfl,hset⟩:=pR (y:=y) hi;rw[hset];have hx:x∈a++x::c:=by simp
 have hmem:∀z,z∈a++y::c->z=y\/z∈a++x::c:=by
  intro z hz;simp only[List.mem_append,p_] at hz ⊢;rcases hz with hz|hz|hz
  ·exact .inr (.inl hz)
  ·exact .inl hz
  ·exact .inr (.inr (.inr hz))
 refine⟨h.sealed,h.ge,h.fresh,⟨?_,?_,?_⟩,?_,h.ext⟩
 ·intro z hz;rcases hmem z hz with rfl|hz
  ·exact hy
  ·exact h.heap.holds z hz
 ·have:=h.heap.nodup;rw[List.filterMap_append,List.filterMap_cons] at this ⊢;rw[hb];exact this
 ·intro z hz k hk;rcases hmem z hz with rfl|hz
  ·exact h.heap.apart x hx k (hb▸hk)
  ·exact h.heap.apart z hz k hk
 ·intro z hz k hk;rcases hmem z hz with rfl|hz
  ·exact h.own x hx k (hb▸hk)
  ·exact h.own z hz k hk
theorem In {v:Value}(h:dc v=false/\∀l,v≠ .tuple l):v.oneCell'=true:=by
 cases v<;>first|rfl|(simp[dc] at h;done)|exact absurd rfl (h.2 _)
theorem Pe {R:Seal}{cs:List AVal}{vs:List Value}(h:cb R cs vs)(ho:ld cs=true):∀u∈vs,u.oneCell'=true:=
 λu hu=>In (oh h ho u hu)
def G5 (P:Program)(R:Seal)(sz:Nat)(tx:TypeId)(v:Value)(m:Nat)(new:List AVal):Prop:=
 ∀w,fh R w->∃news,Src P sz tx v m news w/\cb R new news
section
variable {P:Program} [Tab P] {C:Ctx} {n:Nat} {env:Env} {H:Heap} {Q:aL->Env->Heap->Prop} {ops:Array Oper} {rest:List Oper}
variable {eT:Option TypeId}
variable {d:Nat} {t:TypeId} {p:String} {af:Array Edge} {g:Option (Nat×Bool)} {b:Bool} {av:AVal}
variable {x y:Operand} {T:TypeId} {xT:TI}
theorem IB {R:Seal}{w:World}(hs:fh R w){b o sz m:Nat}{Cs:Array Value}{e:TypeId}{fz:Nat×Nat}{f:Nat->AVal}(hR:R b=some (.cells Cs e fz))
  (hall:∀i,i<m->bI R (f i) ((Cs.toList.drop (o+i*sz)).take sz)) (hp:∀i,i<m->(f i).plain=true/\(f i).cells.length=sz):
  ((Cs.toList.drop o).take (m*sz)).length=m*sz/\cb R ((List.range m).flatMap λi=>(f i).cells) ((Cs.toList.drop o).take (m*sz))/\
   ∀(j:Nat) (u:Value),((Cs.toList.drop o).take (m*sz))[j]? =some u->w.cell? ((⟨b,o,none⟩:Addr).add j)=some u:=by
 refine⟨?_,?_,?_⟩
 ·induction m with
  |zero=>simp
  |succ m ih=>
   have:=ih (λi hi=>hall i a_) (λi hi=>hp i a_);have h1:=aJ (lK (hall m a_) (hp m a_).1);rw[(hp m a_).2] at h1;simp only[i_,k_,U_] at*
   omega
 ·induction m with
  |zero=>simp[cb]
  |succ m ih=>
   have h2:=ih (λi hi=>hall i a_) (λi hi=>hp i a_);have h1:=lK (hall m a_) (hp m a_).1;rw[List.range_succ,List.flatMap_append];simp only[O_,List.flatMap_nil,Dc];rw[U_,List.take_add];refine cp h2 ?_;rw[Q_];exact h1
 ·intro j u hu;have hj:j<m*sz:=by
   have:=(List.getElem?_eq_some_iff.1 hu).1;simp only[i_] at this
   omega
  rw[List.getElem?_take_of_lt hj,List.getElem?_drop] at hu
  have hadd:(⟨b,o,none⟩:Addr).add j=⟨b,o+j,none⟩:=by
   simp only[Addr.add]
   by_cases h0:j=0
   ·simp[h0]
   ·simp[h0]
  rw[hadd]
  simp only[World.cell?,hs b _ hR]
  simpa using hu
theorem En {R:Seal}{tx e:TypeId}{xx:TI}{sz m:Nat}{f:Nat->AVal}{v:Value}(hv:bn R (.list sz m f) v)(h1:bj P tx=some xx)(h2:xx.desc= .slice e)
  (hp:∀i,i<m->(f i).plain=true/\(f i).cells.length=sz/\ld (f i).cells=true):G5 P R sz tx v m ((List.range m).flatMap λi=>(f i).cells):=by
 intro w hs;obtain⟨a,cap,e1,hle0,h5⟩:=bC hv rfl;clear hle0;simp only[o_,and_true] at e1;subst e1;have hk:P.underlying tx=some (.slice e):=by rw[bR h1,h2]
 by_cases hm:m=0
 ·subst hm;refine⟨[],?_,by simp[cb]⟩;cases a with
  |none=>exact Src.ofNil w hk cap
  |some a=>exact Src.ofSlice w hk a 0 cap [] (by simp) (by simp) (by simp)
 ·rcases h5 with h5|⟨bl,o,Cs,el,fz,rfl,hR,hall⟩
  ·exact absurd h5 hm
  obtain⟨h3,h4,h6⟩:=IB hs hR hall (λi hi=>⟨(hp i hi).1,(hp i hi).2.1⟩);refine⟨_,Src.ofSlice w hk _ m cap _ h3 h6 (Pe h4 ?_),h4⟩;clear h3 h4 h6 hall hm hv;induction m with
  |zero=>rfl
  |succ m ih=>
   have happ:∀a b:List AVal,ld (a++b)=(ld a&&ld b):=by
    intro a b;induction a with
    |nil=>rfl
    |cons c a ih=>simp[ld,ih,Bool.and_assoc]
   rw[List.range_succ,List.flatMap_append,happ,ih (λi hi=>hp i a_)];simp[(hp m a_).2.2]
theorem S1 {R:Seal}{tx:TypeId}{xx:TI}{s:ω}{v:Value}(hv:bn R (.str s) v)(h1:bj P tx=some xx)(h2:xx.desc= .string):
  G5 P R 1 tx v s.length (s.map λc=>.int .u8 (c.toNat:Int)):=by
 intro w _;have hv:=aD.1 hv;subst hv;have hk:P.underlying tx=some .string:=by rw[bR h1,h2]
 have:=Src.ofString w hk ⟨s.toArray⟩;rw[bM] at this;refine⟨_,this,?_⟩;simp only[byteCells];clear this hv;induction s with
 |nil=>rfl
 |cons c s ih=>exact⟨_,_,rfl,rfl,ih⟩
theorem zg {R:Seal}{w:World}{i m n0 sz:Nat}{v xv:Value}{cs new:List AVal}{T tx e:TypeId}{xT xe:TI}(ty:TypeId)(hm:MS C R H w)(hi:H[i]? =some (.row v eT sz n0 cs))
  (h1:bj P T=some xT) (h2:xT.desc= .slice e) (h3:bj P e=some xe) (h4:xe.size=sz) (hz:∃z,xe.zero=some z/\z.cells.size=sz) (hby:xe.bytes<=1024) (hs:G5 P R sz tx xv m new) (_hsz:1<=sz)
  (hlen:n0+m<=137438953472) (hty:∀t,eT=some t->e=t):
  ∃v' w',(Builtin.append_ #[T,tx] ty #[v,xv]).run P w= .ok v' w'/\MS C R (H.set i (.row v' eT sz (n0+m) (cs++new))) w':=by
 have hht:P.underlying T=some (.slice e):=by rw[bR h1,h2]
 obtain⟨ie,hie,hs1,hs2,hs3,_⟩:=ii h3;obtain⟨z,hz1,hz2⟩:=hz;rw[hz1] at hs3;obtain⟨news,hsrc,hnew⟩:=hs w hm.sealed;have hnl:=aJ hnew;obtain⟨hcl,hx⟩:=hm.heap.holds _ (q_ hi);have hns:=hsrc.newsLen;have hgrow:∀(old:Nat) (base:Option Addr) (olds:List Value),cb R cs olds->old<n0+m->(Builtin.firstCells ie.size n0 (.slice base n0 old)).run P w.drew= .ok olds.toArray w.drew->v= .slice base n0 old->
   ∃v' w',(Builtin.append_ #[T,tx] ty #[v,xv]).run P w= .ok v' w'/\MS C R (H.set i (.row v' eT sz (n0+m) (cs++new))) w':=by
  rintro old base olds hol hold hfc rfl;have hfit:=growslice_fits (bytes:=ie.bytes) hold (by
   have:(n0+m)*ie.bytes<=137438953472*1024:=Nat.mul_le_mul hlen (by rw[hs2];exact hby);omega)
  have hr:=run_append_grow_src w T tx ty e ie z hht hie hs3 base n0 old olds hfc xv m news (by rw[hs1,h4];exact hsrc) hold a_ hfit;refine⟨_,_,hr,?_⟩;have hm':=hm.drew;rw[lT];have hge:=grownCap_ge w (n0+m) old e;refine hm'.replace hi _ rfl ⟨by rw[d_,hcl,<-hnl,hns,Nat.add_mul],.inr ⟨w.heap.size,_,_,_,_,rfl,gn w.drew _,?_,hge,?_,.inl (Nat.le_refl _),hty⟩⟩
  ·have hol':=aJ hol;simp only[Array.size_append,Y_,d_,size_zeroCells,hz2,hol',hcl,hns,<-Nat.add_mul];congr 1
   omega
  ·have hol':=aJ hol;simp only[Array.toList_append,An];rw[<-An,List.take_append_of_le_length (by simp only[d_];rw[hol',hcl,hns,Nat.add_mul];exact Nat.le_refl _)];rw[u_ (by simp only[d_];rw[hol',hcl,hns,Nat.add_mul];exact Nat.le_refl _)];exact cp hol hnew
 rcases hx with⟨rfl,rfl⟩|⟨bl,cap,Cs,el,fz,rfl,hb,hcs,hnc,hl,hfz⟩
 ·have hcs0:cs=[]:=s_ (by simpa using hcl);subst hcs0;by_cases hm0:m=0
  ·subst hm0;have hnews:news=[]:=s_ (by simpa using hns);subst hnews;have hnew0:new=[]:=s_ (by simpa using hnl.symm);subst hnew0;have hfit:Builtin.append_ #[T,tx] ty #[.slice none 0 0,xv]=Builtin.append_ #[T,tx] ty #[.slice none 0 0,xv]:=rfl;refine⟨.slice none 0 0,w,?_,hm.swap hi rfl ⟨by simp,.inl ⟨rfl,rfl⟩⟩⟩;rcases hsrc.kind with⟨e',hk⟩|hk<;>
    simp[Builtin.append_,run_underlying hht,run_underlying hk,sizeOf,typeInfo,hie,hsrc.len,hs1,h4,hsrc.cells]
  ·exact hgrow 0 none [] rfl a_ (run_firstCells_none w.drew ie.size 0 0 0) rfl
 ·have hll:cb R cs (Cs.toList.take (n0*sz)):=hl;have hlen':=aJ hll;by_cases hroom:n0+m<=cap
  ·have hfit:n0*sz+news.length<=Cs.size:=by rw[hns,hcs,<-Nat.add_mul];exact aah _ hroom
   have hfro:∀j,j<Cs.size->w.frozen? ⟨bl,j,none⟩=false:=by
    intro j hj;obtain⟨lo,hi⟩:=fz;have hfz:=hfz.1;simp only[World.frozen?,hb,ow] at hfz ⊢;simp;omega
   have hr:=run_append_room_src (P:=P) w T tx ty e ie hht hie bl 0 n0 cap xv m news (by rw[hs1,h4];exact hsrc) hroom
    (λj hj=>by rw[hs1,h4];simp only[World.cell?,hb];simp;omega) (λj hj=>hfro _ (by rw[hs1,h4];omega))
   refine⟨_,_,hr,?_⟩;rw[hs1,h4];simp only[Nat.zero_add];obtain⟨w',hw',ho⟩:=fu (P:=P) news (n0*sz) 0 Cs w hb a_ hfz.1 (λu hu=>by
    have:=hsrc.one u hu;cases u<;>first|(simp[dc];done)|(simp[Value.oneCell'] at this))
   have hst:=run_storeCells_cells (P:=P) bl (n0*sz) news 0 w (λj hj=>by simp only[World.cell?,hb];simp;omega) (λj hj=>hfro _ a_) hsrc.one;rw[hst] at hw';simp only[Result.ok.injEq,true_and] at hw';simp only[Nat.add_zero] at hw' ho;rw[hw'];refine hm.write hi rfl ho rfl ⟨by rw[d_,hcl,<-hnl,hns,Nat.add_mul],.inr ⟨bl,cap,_,_,_,rfl,ho.at_,?_,hroom,?_,?_⟩⟩
   ·simp only[Y_,d_,i_,k_,r_];omega
   ·have h6:(Cs.toList.take (n0*sz)++news).length=(n0+m)*sz:=by
     rw[d_,hlen',hcl,hns,Nat.add_mul]
    simp only[];rw[List.take_append_of_le_length a_,u_ a_];exact cp hll hnew
   ·have:(Cs.toList.take (n0*sz)++news++Cs.toList.drop (n0*sz+news.length)).toArray.size=Cs.size:=by
     simp only[Y_,d_,i_,k_,r_];omega
    rw[this];exact hfz
  ·refine hgrow cap (some ⟨bl,0,none⟩) _ hll a_ ?_ rfl;have hsz':(Cs.toList.take (n0*sz)).length=n0*ie.size:=by rw[hlen',hcl,hs1,h4]
   refine run_firstCells_some (P:=P) w.drew ie.size n0 ⟨bl,0,none⟩ n0 cap (Cs.toList.take (n0*sz)) hsz' ?_;intro j u hu;have hj:j<n0*sz:=by
    have:=(List.getElem?_eq_some_iff.1 hu).1;simp only[i_] at this;omega
   rw[List.getElem?_take_of_lt hj] at hu;have hadd:(⟨bl,0,none⟩:Addr).add j=⟨bl,j,none⟩:=by
    simp only[Addr.add];by_cases h0:j=0
    ·simp[h0]
    ·simp[h0]
   have hb':w.drew.heap[bl]? =some (.cells Cs el fz):=hb;rw[hadd];simp only[World.cell?,hb'];simpa using hu
theorem Al {xe:TI}{sz:Nat}{z:List AVal}(h:bK xe.zero=some z)(hl:z.length=sz):∃v,xe.zero=some v/\v.cells.size=sz:=by
 obtain⟨v,hv,hr⟩:=dp (R:=λ_=>none) h;have:=aJ hr;simp only[r_] at this;exact⟨v,hv,a_⟩
theorem NK {i m n0 sz:Nat}{v:Value}{xa:AVal}{cs new z:List AVal}{tx e:TypeId}{xe:TI}(hg:aQ ops env g=some (b,b))(hdn:Nat.ble (d+1) n=true)
  (hx:ah env x=some (.raw v)) (hi:H[i]? =some (.row v eT sz n0 cs)) (hy:ah env y=some xa)
  (h1:bj P T=some xT) (h2:xT.desc= .slice e) (h3:bj P e=some xe) (h4:xe.size=sz) (h5:Nat.ble 1 sz=true) (h6:Nat.ble xe.bytes 1024=true) (h7:bK xe.zero=some z) (h8:z.length=sz)
  (hs:∀R v,bn R xa v->G5 P R sz tx v m new) (hlen:n0+m<=137438953472) (hty:∀t,eT=some t->e=t)
  (h:∀v':Value,au P C n ops rest ((d,.raw v')::env) (H.set i (.row v' eT sz (n0+m) (cs++new))) Q):
  au P C n ops ({dst:=some d,op:=.call {callee:=.builtin .append,args:=[x,y].toArray,argTypes:=[T,tx].toArray},type:=t,pos:=p,after:=af,guard:=g}::rest) env H Q:=by
 refine gR (av:=λv':Value=>.raw v') (H':=λv'=>H.set i (.row v' eT sz (n0+m) (cs++new))) hg rfl hdn (λR ρ w hm hf=> ?_) h;obtain⟨v',w',hr,hm'⟩:=zg (T:=T) (tx:=tx) t hm hi h1 h2 h3 h4 (Al h7 h8) (v_ h6) (hs R _ (hf _ _ hy)) (v_ h5) hlen hty;refine⟨v',v',w',R,?_,Seal.le_refl R,aq.2 rfl,hm'⟩;simp only[execOp,resolve,e_,h_,c_,invoke,builtin,X_,S_,Z_,aq.1 (hf _ _ hx),hr]
theorem MS.ghost {R:Seal}{w:World}(h:MS C R H w)(sz:Nat):MS C R (.row (.slice none 0 0) eT sz 0 []::H) w:=by
 refine⟨h.sealed,h.ge,h.fresh,⟨λy hy=> ?_,?_,λy hy k hk=> ?_⟩,λy hy k hk=> ?_,h.ext⟩
 ·rcases List.mem_cons.1 hy with rfl|hy
  ·exact⟨by simp,.inl ⟨rfl,rfl⟩⟩
  ·exact h.heap.holds y hy
 ·show(List.filterMap HEnt.blk H).Nodup;exact h.heap.nodup
 ·rcases List.mem_cons.1 hy with rfl|hy
  ·cases hk
  ·exact h.heap.apart y hy k hk
 ·rcases List.mem_cons.1 hy with rfl|hy
  ·cases hk
  ·exact h.own y hy k hk
theorem oe {c:Code}(sz:Nat)(h:bJ P C n c env (.row (.slice none 0 0) eT sz 0 []::H) Q):bJ P C n c env H Q:=
 λR a w hm hf=>h R a w (hm.ghost sz) hf
theorem DI {l:List Oper}(sz:Nat)(h:au P C n ops l env (.row (.slice none 0 0) eT sz 0 []::H) Q):au P C n ops l env H Q:=
 λR a w hm hf=>h R a w (hm.ghost sz) hf
theorem qG {R:Seal}{a:AVal}{vs:List Value}(h:cb R a.cells vs)(hp:a.plain=true):bI R a vs:=by
 have one:∀x,a=x->cb R [x] vs->(∀v,bI R x [v]->bI R a [v])->bI R a vs:=by
  rintro x rfl ⟨v,t,rfl,hv,ht⟩ _;simp only[cb] at ht;subst ht;exact hv
 cases a with
 |agg cs=>exact h
 |_=>exact one _ rfl h (λ_ h=>h)
theorem MS.seal_row {R:Seal}{w:World}{v:Value}{sz m:Nat}{cs:List AVal}{f:Nat->AVal}(h:MS C R (.row v eT sz m cs::H) w)
  (hf:∀i,i<m->(f i).cells=(cs.drop (i*sz)).take sz/\(f i).plain=true):
  ∃R',R.le R'/\MS C R' H w/\bn R' (.list sz m f) v:=by
 obtain⟨hlen,hx⟩:=h.heap.holds _ (z_ ..);rcases hx with⟨rfl,rfl⟩|⟨bl,cap,Cs,el,fz,rfl,hb,hcs,hnc,hl,hfz⟩
 ·exact⟨R,Seal.le_refl R,h.drop (List.sublist_cons_self _ _),⟨⟨none,0,rfl,Nat.le_refl _,.inl rfl⟩,rfl⟩⟩
 ·obtain⟨h1,h2⟩:=h.fixed (b:=bl) rfl hb;refine⟨_,h2,h1,⟨⟨_,cap,rfl,hnc,?_⟩,rfl⟩⟩;refine .inr ⟨bl,0,Cs,el,fz,rfl,Seal.put_at _ _ _,λi hi=> ?_⟩;refine qG ?_ (hf i hi).2;rw[(hf i hi).1,Nat.zero_add];have:=di sz (dz (i*sz) (ec h2 _ _ hl));rw[List.drop_take,R_] at this;have hle:sz<=m*sz-i*sz:=by
   rw[<-Nat.sub_mul];exact Nat.le_mul_of_pos_left _ a_
  rw[Nat.min_eq_left hle] at this;exact this
theorem fd {α:Type}{l:List α}{i:Nat}{x:α}(h:l[i]? =some x):l.Perm (x::l.eraseIdx i):=by
 induction l generalizing i with
 |nil=>simp at h
 |cons y t ih=>
  cases i with
  |zero=>simp only[I_,g_] at h;subst h;exact N_ _
  |succ i=>
   simp only[J_] at h;exact((ih h).cons y).trans (List.Perm.swap x y _)
theorem FS.set {D:List Deferred}{R:Seal}{a:Act}{k:Nat}{av:AVal}{v:Value}(h:FS D n R env a)(hk:Env.get env k=some (.raw v))(hv:bn R av v):FS D n R ((k,av)::env) a:=by
 refine⟨λj x hj=> ?_,h.size,h.defers⟩;simp only[Env.get] at hj;cases hb:Nat.beq k j with
 |true=>
  rw[hb] at hj;have:=m_ hb;subst this;simp only[g_] at hj;subst hj;obtain⟨y,hy,hr⟩:=h.fr k _ hk;rw[aq.1 hr] at hy;exact⟨v,hy,hv⟩
 |false=>rw[hb] at hj;exact h.fr j x hj
theorem q9 (R:Seal):∀s:ω,cb R (s.map byteA) (s.map λc=>Value.int .u8 (c.toNat:Int))
 |[]=>rfl
 |_::s=>⟨_,_,rfl,rfl,q9 R s⟩
theorem oR {R:Seal}:∀{s:ω} {vs:List Value},cb R (s.map byteA) vs->vs=s.map λc=>Value.int .u8 (c.toNat:Int)
 |[],_,h=>by simpa[cb] using h
 |c::s,_,h=>by
  obtain⟨v,t,rfl,hv,h⟩:=h;simp only[byteA,bI,o_,and_true] at hv;rw[hv,oR h];rfl
theorem jq {R:Seal}{a:AVal}{v:Value}(h:bI R a [v]):∀k,cb R (List.replicate k a) (List.replicate k v)
 |0=>rfl
 |k+1=>⟨_,_,rfl,h,jq h k⟩
theorem EL {ρ:Operand->Value}{S:TypeId}{w w':World}{v u:Value}(hv:ρ x=v)(hr:(convert S T v).run P w= .ok u w'):
  (execOp ρ {dst:=some d,op:=.convert S T x,type:=t,pos:=p,after:=af,guard:=g}).run P w= .ok (.value u) w':=by
 simp only[execOp,hv,e_,hr,c_,h_]
theorem DJ {s:ω}{S e:TypeId}{xS xe:TI}(hg:aQ ops env g=some (b,b))(hdn:Nat.ble (d+1) n=true)(hx:ah env x=some (.str s))
  (h1:bj P S=some xS) (h2:xS.desc= .string) (h3:bj P T=some xT) (h4:xT.desc= .slice e) (h5:bj P e=some xe) (h6:xe.desc= .int .u8)
  (h:∀(bl cap:Nat),s.length<=cap->au P C n ops rest ((d,.raw (.slice (some ⟨bl,0,none⟩) s.length cap))::env) (.cells bl none (s.map byteA++List.replicate (cap-s.length) (.int .u8 0))::H) Q):
  au P C n ops ({dst:=some d,op:=.convert S T x,type:=t,pos:=p,after:=af,guard:=g}::rest) env H Q:=by
 refine gR (X:={z:Nat×Nat//s.length<=z.2}) (av:=λz=>.raw (.slice (some ⟨z.1.1,0,none⟩) s.length z.1.2)) (H':=λz=>.cells z.1.1 none (s.map byteA++List.replicate (z.1.2-s.length) (.int .u8 0))::H) hg rfl hdn (λR ρ w hm hf=> ?_) (λz=>h z.1.1 z.1.2 z.2);have hr:=run_bytes_of_string (P:=P) w S T e ⟨s.toArray⟩ (by rw[bR h1,h2]) (by rw[bR h3,h4]) (by rw[bR h5,h6]);rw[bM] at hr;have hle:=grownCap_ge w s.length 0 e;have hrun:=EL (d:=d) (t:=t) (p:=p) (af:=af) (g:=g) (aD.1 (hf _ _ hx)) hr;refine⟨⟨(w.heap.size,grownCap w s.length 0 e),hle⟩,_,_,R,hrun,Seal.le_refl R,aq.2 rfl,?_⟩
 ·rw[lT];refine hm.drew.alloc _ _ rfl ⟨_,_,_,gn w.drew _,?_,.inr (Nat.le_refl _),λ_ h=>nomatch h⟩;have:(bytesRow ⟨s.toArray⟩ (grownCap w s.length 0 e)).toList=(s.map λc=>Value.int .u8 (c.toNat:Int))++List.replicate (grownCap w s.length 0 e-s.length) (.int .u8 0):=by
   simp[bytesRow,bM]
  rw[this];exact cp (q9 R s) (jq (show bI R (.int .u8 0) [.int .u8 0] from rfl) _)
theorem rB {w:World}{S e:TypeId}{xS xe:TI}{a:Addr}{s:ω}{cap:Nat}(h1:bj P S=some xS)(h2:xS.desc= .slice e)(h5:bj P e=some xe)(h6:xe.desc= .int .u8)(h3:bj P T=some xT)(h4:xT.desc= .string)
  (hc:∀j (hj:j<s.length),w.cell? (a.add j)=some (.int .u8 (s[j].toNat:Int))):
  (convert S T (.slice (some a) s.length cap)).run P w= .ok (.string ⟨s.toArray⟩) w:=
 run_convert_bytes_back w S T e a cap s (by rw[bR h1,h2]) (by rw[bR h5,h6]) (by rw[bR h3,h4]) hc
theorem DM (bl o j:Nat):(⟨bl,o,none⟩:Addr).add j=⟨bl,o+j,none⟩:=by
 simp only[Addr.add]
 by_cases h0:j=0
 ·simp[h0]
 ·simp[h0]
theorem rA {R:Seal}{w:World}{bl o:Nat}{Cs:Array Value}{e:TypeId}{fz:Nat×Nat}{s:ω}(hb:w.heap[bl]? =some (.cells Cs e fz))(hl:cb R (s.map byteA) ((Cs.toList.drop o).take s.length)):
  ∀j (hj:j<s.length),w.cell? ((⟨bl,o,none⟩:Addr).add j)=some (.int .u8 (s[j].toNat:Int)):=by
 intro j hj;have:=oR hl;rw[DM];simp only[World.cell?,hb];have h2:((Cs.toList.drop o).take s.length)[j]? =(s.map λc=>Value.int .u8 (c.toNat:Int))[j]? :=by rw[this]
 rw[List.getElem?_take_of_lt hj,List.getElem?_drop] at h2;simpa[y_ hj] using h2
def lq:Nat->List (Nat×AVal)->Bool
 |_,[]=>true
 |i,(j,v)::t=>Nat.beq i j&&v.plain&&lq (i+1) t
def eW:List (Nat×AVal)->List AVal
 |[]=>[]
 |(_,v)::t=>v.cells++eW t
def fA (sz:Nat):List (Nat×AVal)->Bool
 |[]=>true
 |(_,v)::t=>Nat.beq v.cells.length sz&&fA sz t
theorem sJ {R:Seal}{sz:Nat}:∀{ps:List (Nat×AVal)} {vs:List (Nat×Value)} {i:Nat} {pre:List Value} {Cs:Array Value},nw R ps vs->lq i ps=true->fA sz ps=true->
  pre.length=i*sz->(∃z,Cs.toList=pre++z/\z.length=ps.length*sz)->∃Cs' new,Instr.fill (λi=>some (i*sz,sz)) Cs vs=some Cs'/\Cs'.toList=pre++new/\cb R (eW ps) new
 |[],_,i,pre,Cs,hp,_,_,_,hz=>by
  simp only[nw] at hp;subst hp;obtain⟨z,hz,hl⟩:=hz;have:z=[]:=s_ (by simpa using hl);subst this;exact⟨Cs,[],rfl,by simpa using hz,rfl⟩
 |(j,a)::ps,_,i,pre,Cs,hp,ho,hs,hpre,hz=>by
  obtain⟨⟨j',v⟩,vs,rfl,⟨e,hr⟩,hp⟩:=hp
  simp only at e hr
  subst e
  simp only[lq,l_] at ho
  simp only[fA,l_] at hs
  have hj:=m_ ho.1.1
  subst hj
  have hsz:=m_ hs.1
  have hv:=lA hr ho.1.2
  have hvl:=aJ hv
  simp only[r_] at hvl
  obtain⟨z,hz,hzl⟩:=hz
  simp only[j_,U_] at hzl
  have hCs:Cs.size=i*sz+z.length:=by rw[<-r_,hz,d_,hpre]
  have hf:(v.cells.zipIdx.foldl (λcs (x:Value×Nat)=>cs.setIfInBounds (i*sz+x.2) x.1) Cs).toList=(pre++v.cells.toList)++z.drop sz:=by
   have:=Bm v.cells.toList (i*sz) 0 Cs (by simp;omega)
   rw[<-Array.foldl_toList,Array.toList_zipIdx]
   rw[this,Nat.add_zero,hz,List.take_append_of_le_length a_,u_ a_,List.drop_append,List.drop_eq_nil_of_le (by simp;omega),L_]
   congr 2
   simp only[r_]
   omega
  obtain⟨Cs',new,h1,h2,h3⟩:=sJ hp ho.2 hs.2 (pre:=pre++v.cells.toList) (Cs:=v.cells.zipIdx.foldl (λcs (x:Value×Nat)=>cs.setIfInBounds (i*sz+x.2) x.1) Cs)
   (by rw[d_,hpre,r_,hvl,hsz,U_]) ⟨z.drop sz,hf,by rw[k_];omega⟩
  refine⟨Cs',v.cells.toList++new,?_,by rw[h2,An],cp hv h3⟩
  simp only[Instr.fill]
  rw[if_neg (by simp only[Wk,n_,not_or];omega)]
  exact h1
theorem qM {sz:Nat}:∀{ps:List (Nat×AVal)} {i:Nat},lq i ps=true->fA sz ps=true->∀k (hk:k<ps.length),((eW ps).drop (k*sz)).take sz=(ps[k].2).cells/\(ps[k].2).plain=true
 |[],_,_,_,k,hk=>by simp at hk
 |(j,a)::ps,i,ho,hs,k,hk=>by
  simp only[lq,l_] at ho;simp only[fA,l_] at hs;have hsz:=m_ hs.1;cases k with
  |zero=> 
   refine⟨?_,ho.1.2⟩;simp only[eW,Nat.zero_mul,aa_,List.getElem_cons_zero];rw[List.take_append_of_le_length a_,u_ a_]
  |succ k=>
   have:=qM ho.2 hs.2 k (by simpa using hk);refine⟨?_,by simpa using this.2⟩;simp only[eW,List.getElem_cons_succ];rw[List.drop_append,List.drop_eq_nil_of_le (by rw[hsz,U_];omega),L_,hsz];rw[show(k+1)*sz-sz=k*sz by rw[U_];omega];exact this.1
theorem nh {sz:Nat}:∀{ps:List (Nat×AVal)},fA sz ps=true->(eW ps).length=ps.length*sz
 |[],_=>by simp[eW]
 |(_,a)::ps,hs=>by
  simp only[fA,l_] at hs;simp only[eW,d_,j_,U_,nh hs.2,m_ hs.1];omega
theorem py {R:Seal}{ρ:Operand->Value}{w:World}{l:List (Nat×Operand)}{ps:List (Nat×AVal)}{m:Nat}{e:TypeId}{xe:TI}{z:List AVal}(hf:qU R env ρ)
  (hl:jr env l=some ps) (h1:bj P T=some xT) (h2:xT.desc= .slice e) (h3:bj P e=some xe) (h4:bK xe.zero=some z) (h5:Nat.beq z.length xe.size=true) (h6:lq 0 ps=true) (h7:fA xe.size ps=true) (h8:Nat.beq ps.length m=true)
  (h9:Nat.ble (m*xe.size) 16777216=true):
  ∃Cs:Array Value,(Instr.buildSlice T m (l.toArray.map λ(i,x)=>(i,ρ x))).run P w= .ok (.slice (some ⟨w.heap.size,0,none⟩) m m) (grow w (.cells Cs e))/\cb R (eW ps) Cs.toList:=by
 have h8:=m_ h8;subst h8;have h9:=v_ h9;have h5:=m_ h5;obtain⟨v,hv,hr⟩:=dp (R:=R) h4;have hzl:=aJ hr;simp only[r_] at hzl;have hmap:(l.toArray.map λx:Nat×Operand=>(x.1,ρ x.2)).toList=l.map λx=>(x.1,ρ x.2):=by simp
 obtain⟨Cs,new,hC,hCl,hn⟩:=sJ (R:=R) (pre:=[]) (Cs:=(Array.range (ps.length*xe.size)).map (λi=>(if ps.length*xe.size=0 then#[] else v.cells)[i%(if ps.length*xe.size=0 then#[] else v.cells).size]!)) (jS hf hl) h6 h7 (by simp) ⟨_,by simp;rfl,by simp⟩;refine⟨Cs,?_,by rw[hCl];exact hn⟩;simp only[Instr.buildSlice,e_,ao h1,h2,c_,aM h3];rw[if_neg a_];by_cases hz0:ps.length*xe.size=0
 ·simp only[hz0,aap] at hC ⊢;simp only[e_,h_,c_];rw[show(Array.map (λx:Nat×Operand=>match x with|(i,x)=>(i,ρ x)) l.toArray).toList=l.map λx=>(x.1,ρ x.2) from hmap,hC];rfl
 ·simp only[if_neg hz0] at hC ⊢;simp only[e_,h_,c_,dT h3 hv];rw[show(Array.map (λx:Nat×Operand=>match x with|(i,x)=>(i,ρ x)) l.toArray).toList=l.map λx=>(x.1,ρ x.2) from hmap,hC];rfl
theorem rY {ρ:Operand->Value}{w w':World}{l:List (Nat×Operand)}{m:Nat}{u:Value}(hr:(Instr.buildSlice T m (l.toArray.map λ(i,x)=>(i,ρ x))).run P w= .ok u w'):
  (execOp ρ {dst:=some d,op:=.buildSlice T m l.toArray,type:=t,pos:=p,after:=af,guard:=g}).run P w= .ok (.value u) w':=by
 show(Sem.run P (do pure (.value (<-Instr.buildSlice T m (l.toArray.map λ(i,x)=>(i,ρ x)))):Sem Next) w)=_;rw[e_,hr];rfl
def dH (ps:List (Nat×AVal))(i:Nat):AVal:=match ps[i]? with
 |some x=>x.2
 |none=>.raw undef
theorem pG {l:List (Nat×Operand)}{ps:List (Nat×AVal)}{m:Nat}{e:TypeId}{xe:TI}{z:List AVal}(hg:aQ ops env g=some (b,b))(hdn:Nat.ble (d+1) n=true)
  (hl:jr env l=some ps) (h1:bj P T=some xT) (h2:xT.desc= .slice e) (h3:bj P e=some xe) (h4:bK xe.zero=some z) (h5:Nat.beq z.length xe.size=true) (h6:lq 0 ps=true) (h7:fA xe.size ps=true) (h8:Nat.beq ps.length m=true)
  (h9:Nat.ble (m*xe.size) 16777216=true)
  (h:au P C n ops rest ((d,.list xe.size m (dH ps))::env) H Q):
  au P C n ops ({dst:=some d,op:=.buildSlice T m l.toArray,type:=t,pos:=p,after:=af,guard:=g}::rest) env H Q:=by
 refine uz hg rfl hdn (λR ρ w hm hf=> ?_) h
 obtain⟨Cs,hr,hrel⟩:=py (T:=T) (w:=w) hf hl h1 h2 h3 h4 h5 h6 h7 h8 h9
 have hfree:=hm.seal_free
 have h8:=m_ h8
 subst h8
 refine⟨_,_,_,rY hr,Seal.put_le hfree,⟨⟨_,_,rfl,Nat.le_refl _,.inr ⟨w.heap.size,0,Cs,e,_,rfl,Seal.put_at _ _ _,λi hi=> ?_⟩⟩,rfl⟩,hm.alloc_sealed _⟩
 ·obtain⟨k1,k2⟩:=qM h6 h7 i hi
  have:dH ps i=(ps[i]).2:=by simp[dH,hi]
  rw[this,Nat.zero_add]
  refine qG ?_ k2
  rw[<-k1]
  exact di _ (dz _ (ec (Seal.put_le hfree) _ _ hrel))
theorem tb {l:List (Nat×Operand)}{ps:List (Nat×AVal)}{m:Nat}{e:TypeId}{xe:TI}{z:List AVal}(hg:aQ ops env g=some (b,b))(hdn:Nat.ble (d+1) n=true)
  (hl:jr env l=some ps) (h1:bj P T=some xT) (h2:xT.desc= .slice e) (h3:bj P e=some xe) (h4:bK xe.zero=some z) (h5:Nat.beq z.length xe.size=true) (h6:lq 0 ps=true) (h7:fA xe.size ps=true) (h8:Nat.beq ps.length m=true)
  (h9:Nat.ble (m*xe.size) 16777216=true)
  (h:∀v:Value,au P C n ops rest ((d,.raw v)::env) (.row v none xe.size m (eW ps)::H) Q):
  au P C n ops ({dst:=some d,op:=.buildSlice T m l.toArray,type:=t,pos:=p,after:=af,guard:=g}::rest) env H Q:=by
 refine gR (av:=λv:Value=>.raw v) (H':=λv=>.row v none xe.size m (eW ps)::H) hg rfl hdn (λR ρ w hm hf=> ?_) h;obtain⟨Cs,hr,hrel⟩:=py (T:=T) (w:=w) hf hl h1 h2 h3 h4 h5 h6 h7 h8 h9;have h8:=m_ h8;subst h8;have hpl:=nh h7;have hcl:=aJ hrel;simp only[r_] at hcl;refine⟨.slice (some ⟨w.heap.size,0,none⟩) ps.length ps.length,_,_,R,rY hr,Seal.le_refl R,aq.2 rfl,hm.alloc _ _ rfl ⟨hpl,.inr ⟨w.heap.size,ps.length,Cs,e,(0,0),rfl,gn w _,a_,Nat.le_refl _,?_,.inl (Nat.le_refl _),λ_ h=>nomatch h⟩⟩⟩
 ·rw[u_ (by simp;omega)];exact hrel
end
end
section
open Go
section
variable {P:Program} [Tab P] {C:Ctx} {n:Nat} {env:Env} {H:Heap} {Q:aL->Env->Heap->Prop} {ops:Array Oper} {rest:List Oper}
variable {eT:Option TypeId}
variable {d:Nat} {t:TypeId} {p:String} {af:Array Edge} {g:Option (Nat×Bool)} {b:Bool} {av:AVal}
variable {x y:Operand} {T:TypeId} {xT:TI}
theorem DG {s:ω}(hg:aQ ops env g=some (b,b))(hdn:Nat.ble (d+1) n=true)(hx:ah env x=some (.str s))(h1:bj P T=some xT)(h2:xT.desc= .string)
  (h:∀bl:Nat,au P C n ops rest ((d,.raw (.pointer (some ⟨bl,0,none⟩)))::env) (.iter bl s 0::H) Q):
  au P C n ops ({dst:=some d,op:=.range T x,type:=t,pos:=p,after:=af,guard:=g}::rest) env H Q:=by
 refine gR (av:=λbl:Nat=>.raw (.pointer (some ⟨bl,0,none⟩))) (H':=λbl=>.iter bl s 0::H) hg rfl hdn (λR ρ w hm hf=> ?_) h;refine⟨w.heap.size,_,grow w (.stringIter ⟨s.toArray⟩ 0),R,?_,Seal.le_refl R,aq.2 rfl,hm.alloc _ _ rfl (gn w _)⟩;simp only[execOp,aD.1 (hf _ _ hx),Instr.range,e_,ao h1,h2,c_];rfl
theorem gc {w:World}{bl:Nat}{o:Obj}(h:w.heap[bl]? =some o)(hc:∀c e f,o≠ .cells c e f):(getObj bl).run P w= .ok o w:=by
 unfold getObj;cases o with
 |cells c e f=>exact absurd rfl (hc _ _ _)
 |_=>simp only[Sem.run,h]
def gQ:TypeDesc->Bool
 |.interface _=>true
 |_=>false
theorem AG {R:Seal}{ty:TypeId}{a:AVal}{v:Value}(h:bn R a v):bn R (.iface ty a) (.iface ty v):=by
 refine⟨?_,rfl⟩;show bI R (.iface ty a) [.iface ty v];exact⟨v,rfl,h.1,h.2⟩
def wz:Option Value->Option AVal
 |some (.agg cs)=>match cs.toList.all λv=> !dc v with
  |true=>some (.agg (cs.toList.map KB))
  |false=>none
 |some v=>some (KB v)
 |none=>none
theorem Am {R:Seal}{z:Option Value}{a:AVal}(h:wz z=some a):∃v,z=some v/\bn R a v:=by
 cases z with
 |none=>simp[wz] at h
 |some v=>
  refine⟨v,rfl,?_⟩
  cases v<;>simp only[wz,g_] at h
  case agg l=>
   split at h
   ·rename_i hall
    simp only[g_] at h
    subst h
    exact⟨xy R (λv hv=>by have:=List.all_eq_true.1 hall v hv;simpa using this),rfl⟩
   ·cases h
  all_goals (subst h;exact vN R _)
theorem R5 {v:AVal}{ty:TypeId}{dst:Option Nat}(hg:aQ ops env g=some (b,b))(hx:ah env x=some (.iface ty v))(h:Q (.panic (.iface ty v)) env H):
  au P C n ops ({dst:=dst,op:=.panic x,type:=t,pos:=p,after:=af,guard:=g}::rest) env H Q:=by
 intro R a w hm hf;refine wpList_step λK hK=> ?_;rw[cE hf hg,if_pos (by simp)];have hr:=hf.eval hx;obtain⟨u,e,_⟩:=bC hr rfl;simp only[o_,and_true] at e;rw[e] at hr;have hrun:(execOp a.eval {dst:=dst,op:=.panic x,type:=t,pos:=p,after:=af,guard:=g:Oper}).run P w= .halt (.panic (.iface ty u)) w:=by
  simp only[execOp,e,Instr.panic];rfl
 rw[Oper.wp,hrun,Oper.upon_panic];exact⟨.panic (.iface ty v),env,H,R,h,⟨_,rfl,hr⟩,hm,hf⟩
def ro:TypeDesc->AVal->Option Bool
 |.interface _,.raw .nilIface=>some true
 |.interface _,.iface _ _=>some false
 |.pointer _,.raw (.pointer a)=>some a.isNone
 |.pointer _,.rop _ _=>some false
 |.slice _,.raw (.slice a _ _)=>some a.isNone
 |.map _ _,.raw (.map a)=>some a.isNone
 |_,_=>none
def qN:TypeDesc->Option Value
 |.interface _=>some .nilIface
 |.pointer _=>some (.pointer none)
 |.slice _=>some (.slice none 0 0)
 |.map _ _=>some (.map none)
 |_=>none
theorem yO {R:Seal}{w:World}{v z:Value}{c:Bool}(hv:bn R av v)(h1:bj P T=some xT)(hn:ro xT.desc av=some c)(hz:qN xT.desc=some z):
  (Op.equal T v z).run P w= .ok c w/\(∀op yt,(eqGuard op T x (.const yt) v z).run P w= .ok () w)/\(∀op,op=BinOp.eql\/op= .neq->Go.binOp op T v z=if op= .eql then(do pure (.bool (<-Op.equal T v z))) else(do pure (.bool (!(<-Op.equal T v z))))):=by
 have key:∀u,v=u->(Op.equalIn (9999+1) T u z).run P w= .ok c w->(∀op yt,(eqGuard op T x (.const yt) u z).run P w= .ok () w)->(∀op,op=BinOp.eql\/op= .neq->Go.binOp op T u z=if op= .eql then(do pure (.bool (<-Op.equal T u z))) else(do pure (.bool (!(<-Op.equal T u z)))))->
   (Op.equal T v z).run P w= .ok c w/\(∀op yt,(eqGuard op T x (.const yt) v z).run P w= .ok () w)/\(∀op,op=BinOp.eql\/op= .neq->Go.binOp op T v z=if op= .eql then(do pure (.bool (<-Op.equal T v z))) else(do pure (.bool (!(<-Op.equal T v z))))):=by
  rintro u rfl h2 h3 h4;exact⟨h2,h3,h4⟩
 have hu:=ao h1 w;have guardOK:∀(u z:Value),(u= .nilIface\/dc u=false)->(u≠ .nilIface\/z≠ .nilIface\/True)->∀op yt,(eqGuard op T x (.const yt) u z).run P w= .ok () w:=by
  intro u z hu _ op yt;cases op<;>first|rfl|skip
  all_goals
   cases u<;>cases z<;>first|rfl|(simp[dc] at hu;done)|(simp[eqGuard];done)
 cases hd:xT.desc<;>rw[hd] at hn hz hu<;>simp only[qN,g_] at hz<;>first|(cases hz;done)|skip
 case pointer e=>
  subst hz;cases av<;>simp only[ro] at hn<;>first|(cases hn;done)|skip
  case raw u=>
   cases u<;>simp only[] at hn<;>first|(cases hn;done)|skip
   rename_i a;simp only[g_] at hn;subst hn;refine key _ (aq.1 hv) ?_ (guardOK _ _ (.inr rfl) (.inr (.inr trivial))) ?_
   ·rw[Op.equalIn];simp only[e_,hu,c_];cases a<;>rfl
   ·rintro op (rfl|rfl)<;>cases a<;>rfl
  case rop cs off=>
   simp only[g_] at hn;subst hn;obtain⟨bl,o,e1,_⟩:=iw hv;refine key _ e1 ?_ (guardOK _ _ (.inr rfl) (.inr (.inr trivial))) ?_
   ·rw[Op.equalIn];simp only[e_,hu,c_];rfl
   ·rintro op (rfl|rfl)<;>rfl
 case slice e=>
  subst hz;cases av<;>simp only[ro] at hn<;>first|(cases hn;done)|skip
  rename_i u;cases u<;>simp only[] at hn<;>first|(cases hn;done)|skip
  rename_i a l c';simp only[g_] at hn;subst hn;refine key _ (aq.1 hv) ?_ (guardOK _ _ (.inr rfl) (.inr (.inr trivial))) ?_
  ·rw[Op.equalIn];simp only[e_,hu,c_];cases a<;>rfl
  ·rintro op (rfl|rfl)<;>rfl
 case map k e=>
  subst hz;cases av<;>simp only[ro] at hn<;>first|(cases hn;done)|skip
  rename_i u;cases u<;>simp only[] at hn<;>first|(cases hn;done)|skip
  rename_i a;simp only[g_] at hn;subst hn;refine key _ (aq.1 hv) ?_ (guardOK _ _ (.inr rfl) (.inr (.inr trivial))) ?_
  ·rw[Op.equalIn];simp only[e_,hu,c_];cases a<;>rfl
  ·rintro op (rfl|rfl)<;>rfl
 case interface ms=>
  subst hz;cases av<;>simp only[ro] at hn<;>first|(cases hn;done)|skip
  case raw u=>
   cases u<;>simp only[] at hn<;>first|(cases hn;done)|skip
   simp only[g_] at hn;subst hn;refine key _ (aq.1 hv) ?_ (guardOK _ _ (.inl rfl) (.inr (.inr trivial))) ?_
   ·rw[Op.equalIn];simp only[e_,hu,c_];rfl
   ·rintro op (rfl|rfl)<;>rfl
  case iface ty v'=>
   simp only[g_] at hn;subst hn;obtain⟨u,e1,_⟩:=bC hv rfl;simp only[o_,and_true] at e1;refine key _ e1 ?_ (guardOK _ _ (.inr rfl) (.inr (.inr trivial))) ?_
   ·rw[Op.equalIn];simp only[e_,hu,c_];rfl
   ·rintro op (rfl|rfl)<;>rfl
def CZ (d:TypeDesc):AVal->Option Bool
 |.own _ v=>ro d (.raw v)
 |a=>ro d a
theorem uq {R:Seal}{w:World}{v z:Value}{c:Bool}(hv:bn R av v)(h1:bj P T=some xT)(hn:CZ xT.desc av=some c)(hz:qN xT.desc=some z):
  (Op.equal T v z).run P w= .ok c w/\(∀op yt,(eqGuard op T x (.const yt) v z).run P w= .ok () w)/\(∀op,op=BinOp.eql\/op= .neq->Go.binOp op T v z=if op= .eql then(do pure (.bool (<-Op.equal T v z))) else(do pure (.bool (!(<-Op.equal T v z))))):=by
 cases av with
 |own i u=>exact yO (x:=x) (R:=R) (aq.2 (aE.1 hv).1) h1 hn hz
 |_=>exact yO (x:=x) hv h1 hn hz
end
end
section
open Go
section
variable {P:Program} {C:Ctx} {n:Nat} {env:Env} {H:Heap} {Q:aL->Env->Heap->Prop} {ops:Array Oper} {rest:List Oper}
variable {dst:Option Nat} {t:TypeId} {p:String} {af:Array Edge} {g:Option (Nat×Bool)} {d:Nat} {b:Bool}
def Ry (op:BinOp)(x y:Int):Option AVal:=
 match op with
 |.eql=>some (.bool (bV x y))
 |.neq=>some (.bool (!bV x y))
 |.lss=>some (.bool (nT x y))
 |.leq=>some (.bool (!nT y x))
 |.gtr=>some (.bool (nT y x))
 |.geq=>some (.bool (!nT x y))
 |_=>none
def ai (P:Program)(G:Glo)(f:FuncId)(args:List AVal)(v:AVal):Prop:=ad P G f args [] (λx H=>x= .ret v/\H=[])
end
end
section
open Go
theorem PA {s:ω}{cap i:Nat}(h:i<s.length):(gp s cap)[i]? =some (.int .u8 (aa s i:Int)):=by
 unfold gp;rw[H_ (by simpa using h),List.getElem?_map,y_ h];simp[byteA,aa,h]
theorem Fg {s:ω}{cap:Nat}(h:s.length<=cap):(gp s cap).length=cap:=by
 unfold gp;simp;omega
theorem MG (s:ω)(cap:Nat):(gp s cap).take s.length=s.map byteA:=by
 unfold gp;rw[List.take_left' (by simp)]
theorem Py {s:ω}{cap i:Nat}{m:Int}(h:i<s.length)(h0:0<=m)(h1:m<=255):
  (gp s cap).take i++[.int .u8 m]++(gp s cap).drop (i+1)=gp (s.set i (UInt8.ofNat m.toNat)) cap:=by
 have e:byteA (UInt8.ofNat m.toNat)= .int .u8 m:=by
  unfold byteA;have:(UInt8.ofNat m.toNat).toNat=m.toNat:=by rw[UInt8.toNat_ofNat'];omega
  rw[this];congr 1;omega
 unfold gp;rw[List.take_append_of_le_length (by simp;omega),List.drop_append_of_le_length (by simp;omega),F_,List.map_set,e];rw[List.set_eq_take_append_cons_drop,if_pos (by simpa using h)];simp
theorem JB {s:ω}{i j:Nat}{m:Int}(h:i<s.length)(h0:0<=m)(h1:m<=255):(aa (s.set i (UInt8.ofNat m.toNat)) j:Int)=if j=i then m else aa s j:=by
 unfold aa;by_cases e:j=i
 ·subst e;simp[List.getD,List.getElem?_set,h];omega
 ·simp[List.getD,List.getElem?_set,Ne.symm e,e]
section
variable {P:Program} [Tab P] {C:Ctx} {n:Nat} {env:Env} {H:Heap} {Q:aL->Env->Heap->Prop} {ops:Array Oper} {rest:List Oper}
variable {eT:Option TypeId}
variable {d:Nat} {t:TypeId} {p:String} {af:Array Edge} {g:Option (Nat×Bool)} {b:Bool} {av:AVal}
variable {x y:Operand} {T:TypeId} {xT:TI}
theorem X5 {s:ω}{S e:TypeId}{xS xe:TI}(hg:aQ ops env g=some (b,b))(hdn:Nat.ble (d+1) n=true)(hx:ah env x=some (.str s))
  (h1:bj P S=some xS) (h2:xS.desc= .string) (h3:bj P T=some xT) (h4:xT.desc= .slice e) (h5:bj P e=some xe) (h6:xe.desc= .int .u8)
  (h:∀(bl cap:Nat),s.length<=cap->au P C n ops rest ((d,.raw (.slice (some ⟨bl,0,none⟩) s.length cap))::env) (.cells bl none (gp s cap)::H) Q):
  au P C n ops ({dst:=some d,op:=.convert S T x,type:=t,pos:=p,after:=af,guard:=g}::rest) env H Q:=
 DJ hg hdn hx h1 h2 h3 h4 h5 h6 h
end
end
section
open Go
def bE (P:Program)(C:Ctx)(H:Heap)(env:Env)(op:Op)(av:AVal):Prop:=
 ∀(R:Seal) (ρ:Operand->Value) (w:World),MS C R H w->qU R env ρ->∀(dst:Option Nat) (t:TypeId) (p:String) (af:Array Edge) (g:Option (Nat×Bool)),
  ∃v,(execOp ρ {dst:=dst,op:=op,type:=t,pos:=p,after:=af,guard:=g}).run P w= .ok (.value v) w/\bn R av v
section
variable {P:Program} [Tab P] {C:Ctx} {n:Nat} {env:Env} {H:Heap}
variable {eT:Option TypeId}
variable {av:AVal} {x y:Operand} {T:TypeId} {xT:TI} {tx ty:TypeId}
theorem lJ {op:BinOp}{k:IntKind}{x y:Operand}{tx ty:TypeId}{m q:Int} 
  (hx:ah env x=some (.int k m)) (hy:ah env y=some (.int k q)) (ho:lR op k m q=some av)
  :bE P C H env (.binOp op tx x y ty) (av):=by
 intro R ρ w hm hf dst t p af g;obtain⟨v,hv,hr⟩:=HV (P:=P) (tx:=tx) (x:=x) (y:=y) (w:=w) ho;refine⟨v,?_,hr R⟩;simp only[execOp,ap.1 (hf _ _ hx),ap.1 (hf _ _ hy)];simp only[e_] at hv ⊢;rw[hv];rfl
theorem Wo {k:IntKind}{m q:Int} 
  (hx:ah env x=some (.int k m)) (hy:ah env y=some (.int k q)) (hm:0<=m) (hq:0<q) (hw:gY k m)
  :bE P C H env (.binOp .quo tx x y ty) (.int k (m/q)):=by
 intro R ρ w _hm hf dst t p af g;refine⟨_,?_,ap.2 rfl⟩;have h1:m.tdiv q=m/q:=Int.tdiv_eq_ediv_of_nonneg hm;have h2:0<=m/q:=Int.ediv_nonneg hm a_;have h3:m/q<=m:=Int.ediv_le_self q hm;have hw':gY k (m/q):=by cases k<;>simp only[gY] at hw ⊢ <;>omega
 simp only[execOp,ap.1 (hf _ _ hx),ap.1 (hf _ _ hy),Go.binOp,eqGuard,Op.intDiv,aan,aao,aaq];rw[if_neg (show ¬q=0 by omega),h1,iS hw'];rfl
theorem Wn {k:IntKind}{m q:Int} 
  (hx:ah env x=some (.int k m)) (hy:ah env y=some (.int k q)) (hm:0<=m) (hq:0<q)
  :bE P C H env (.binOp .rem tx x y ty) (.int k (m%q)):=by
 intro R ρ w _hm hf dst t p af g;refine⟨_,?_,ap.2 rfl⟩;simp only[execOp,ap.1 (hf _ _ hx),ap.1 (hf _ _ hy),Go.binOp,eqGuard,Op.intDiv,aan,aao,aaq];rw[if_neg (show ¬q=0 by omega),Int.tmod_eq_emod_of_nonneg hm];rfl
theorem Wl {k j:IntKind}{m c:Int}{s:Nat} 
  (hx:ah env x=some (.int k m)) (hs:Nat.ble s k.bits=true) (hc:CM NT s=some c) (hw:gY k (m*c))
  :bE P C H env (.binOp .shl tx x (.const (.int j (Int.ofNat s))) ty) (.int k (m*c)):=by
 rw[<-E1 hc] at*
 intro R ρ w hm hf dst t p af g;refine⟨_,?_,ap.2 rfl⟩;have hs:=v_ hs;simp only[execOp,ap.1 (hf _ _ hx),ap.1 (hf (.const (.int j (Int.ofNat s))) _ rfl),Go.binOp,eqGuard,Op.shift];rw[if_neg (show ¬(Int.ofNat s<0) by simp only[Int.ofNat_eq_natCast];omega)];simp only[Int.ofNat_eq_natCast,B_,Nat.min_eq_left hs];have:(m*2^s:Int)=m*((2^s:Nat):Int):=by simp
 rw[this,iS hw];rfl
theorem Wj {k j:IntKind}{m c:Int}{s:Nat} 
  (hx:ah env x=some (.int k m)) (hs:Nat.ble s k.bits=true) (hc:CM NT s=some c)
  :bE P C H env (.binOp .shr tx x (.const (.int j (Int.ofNat s))) ty) (.int k (m/c)):=by
 rw[<-E1 hc] at*
 intro R ρ w hm hf dst t p af g;refine⟨_,?_,ap.2 rfl⟩;have hs:=v_ hs;simp only[execOp,ap.1 (hf _ _ hx),ap.1 (hf (.const (.int j (Int.ofNat s))) _ rfl),Go.binOp,eqGuard,Op.shift];rw[if_neg (show ¬(Int.ofNat s<0) by simp only[Int.ofNat_eq_natCast];omega)];simp only[Int.ofNat_eq_natCast,B_,Nat.min_eq_left hs];have:(m.fdiv (2^s):Int)=m/((2^s:Nat):Int):=by rw[Int.fdiv_eq_ediv_of_nonneg _ (by simpa using Int.natCast_nonneg (2^s))];simp
 rw[this];rfl
theorem Wq {k:IntKind}{m:Int} 
  (hx:ah env x=some (.int k m)) (hw:gY k (0-m))
  :bE P C H env (.unOp .neg tx x) (.int k (0-m)):=by
 intro R ρ w hm hf dst t p af g;refine⟨_,?_,ap.2 rfl⟩;simp only[execOp,ap.1 (hf _ _ hx),Op.unary,Op.intArith,iS hw];rfl
theorem Wp {c:Bool}(hx:ah env x=some (.bool c))
  :bE P C H env (.unOp .not tx x) (.bool (!c)):=by
 intro R ρ w hm hf dst t p af g;refine⟨_,?_,aO.2 rfl⟩;simp only[execOp,aO.1 (hf _ _ hx),Op.unary];rfl
theorem Wu {c e:Bool}(hx:ah env x=some (.bool c))(hy:ah env y=some (.bool e))
  (hu:P.underlying tx=some .bool)
  :bE P C H env (.binOp .eql tx x y ty) (.bool (c==e)):=by
 intro R ρ w hm hf dst t p af g;refine⟨_,?_,aO.2 rfl⟩;have e1:(Op.equal tx (.bool c) (.bool e)).run P w= .ok (c==e) w:=by
  show(Op.equalIn (9999+1) tx (.bool c) (.bool e)).run P w=_;rw[Op.equalIn];simp only[e_,run_underlying hu,c_];rfl
 have e2:(eqGuard .eql tx x y (.bool c) (.bool e)).run P w= .ok () w:=rfl;simp only[execOp,aO.1 (hf _ _ hx),aO.1 (hf _ _ hy),Go.binOp,e_,e1,e2,c_,h_]
theorem EH [Tab P]{k j:IntKind}{m:Int}{s e:TypeId}{xs xe:TI}(hx:ah env x=some (.int k m))
  (h1:bj P s=some xs) (h2:bj P e=some xe) (h3:xe.desc= .int j) (hw:gY j m)
  :bE P C H env (.convert s e x) (.int j m):=by
 intro R ρ w hm hf dst t p af g;refine⟨_,?_,ap.2 rfl⟩;simp only[execOp,ap.1 (hf _ _ hx),convert,e_,ao h1,ao h2,c_,h3,Conv.intToInt,iS hw];cases xs.desc<;>rfl
theorem Cl [Tab P]{k j:IntKind}{m:Int}{s e:TypeId}{xs xe:TI}(hx:ah env x=some (.int k m))
  (h1:bj P s=some xs) (h2:bj P e=some xe) (h3:xe.desc= .int j)
  :bE P C H env (.convert s e x) (.int j (j.wrap m)):=by
 intro R ρ w hm hf dst t p af g;refine⟨_,?_,ap.2 rfl⟩;simp only[execOp,ap.1 (hf _ _ hx),convert,e_,ao h1,ao h2,c_,h3,Conv.intToInt];cases xs.desc<;>rfl
theorem Wi {op:BinOp}{m q:ω} 
  (hx:ah env x=some (.str m)) (hy:ah env y=some (.str q)) (ho:HE op m q=some av)
  :bE P C H env (.binOp op tx x y ty) (av):=by
 intro R ρ w hm hf dst t p af g;simp only[execOp,aD.1 (hf _ _ hx),aD.1 (hf _ _ hy)];cases op<;>simp only[HE,g_] at ho<;>
  first
   |(cases ho;done)
   |(subst ho;refine⟨.bool _,?_,aO.2 rfl⟩;simp only[Go.binOp,eqGuard,Op.stringOp,ByteArray.toList_mk,OY,OW];rfl)
theorem Wt {m q:ω} 
  (hx:ah env x=some (.str m)) (hy:ah env y=some (.str q)) (hw:m.length+q.length<=9223372036854775807)
  :bE P C H env (.binOp .add tx x y ty) (.str (m++q)):=by
 intro R ρ w hm hf dst t p af g;refine⟨_,?_,aD.2 rfl⟩;simp only[execOp,aD.1 (hf _ _ hx),aD.1 (hf _ _ hy),Go.binOp,eqGuard,Op.stringOp,HD,bM];have hmx:IntKind.i64.max=9223372036854775807:=by decide
 rw[if_neg (show ¬((m.length+q.length:Nat):Int)>IntKind.i64.max by rw[hmx];omega)];rfl
theorem HS [Tab P]{m:ω}{T:TypeId}{xT:TI}(hx:ah env x=some (.str m))
  (h1:bj P T=some xT) (h2:xT.desc= .string)
  :bE P C H env (.call {callee:=.builtin .len,args:=[x].toArray,argTypes:=[T].toArray}) (.int .i64 (m.length:Int)):=by
 intro R ρ w hm hf dst t p af g;refine⟨_,?_,ap.2 rfl⟩;simp only[execOp,resolve,e_,h_,c_,invoke,builtin,Builtin.len_,X_,S_,Z_,aD.1 (hf _ _ hx)];simp only[Wm,I_,e_,ao h1,h2,c_,h_,goInt,bM]
theorem Cj [Tab P]{m:ω}{k:IntKind}{i:Int}{T:TypeId}{xT:TI}(hx:ah env x=some (.str m))(hy:ah env y=some (.int k i))
  (h1:bj P T=some xT) (h2:xT.desc= .string) (hi0:0<=i) (hi:i<m.length)
  :bE P C H env (.index T x y) (.int .u8 (aa m i.toNat:Int)):=by
 intro R ρ w hm hf dst t p af g;refine⟨_,?_,ap.2 rfl⟩;have hlt:i.toNat<m.length:=by omega
 have e:(⟨m.toArray⟩:ByteArray)[i.toNat]? =some m[i.toNat]:=SU m i.toNat hlt;simp only[execOp,aD.1 (hf _ _ hx),ap.1 (hf _ _ hy),Instr.index,asIntOf,e_,h_,c_,ao h1,h2,if_pos hi0,e];simp[hlt,aa]
theorem Ce [Tab P]{m:ω}{lo hi:Option Operand}{i j:Int}{T:TypeId}{xT:TI}(hx:ah env x=some (.str m))
  (h1:bj P T=some xT) (h2:xT.desc= .string) (hlo:iP env 0 lo=some i) (hhi:iP env (m.length:Int) hi=some j) (h0:0<=i) (hij:i<=j) (hj:j<=m.length)
  :bE P C H env (.slice T x lo hi none) (.str ((m.take j.toNat).drop i.toNat)):=by
 intro R ρ w hm hf dst t p af g;refine⟨_,?_,aD.2 rfl⟩;have hb:=za (P:=P) (isS:=false) (len:=m.length) (cap:=m.length) hf hlo hhi h0 hij hj (Nat.le_refl _) w;simp only[execOp,aD.1 (hf _ _ hx),Instr.sliceAt,Instr.slice,e_,h_,c_,ao h1,h2,bM,Option.map_none,Option.isSome_none,Bu,aaq,hb,El]
theorem HU {cs:List AVal}{i:Nat}(hx:ah env x=some (.tuple cs))(hi:cs[i]? =some av)
  :bE P C H env (.extract x i) (av):=by
 intro R ρ w hm hf dst t p af g;obtain⟨ws,e,hr⟩:=bC (hf _ _ hx) rfl;simp only[o_,and_true] at e;have key:∀{cs:List AVal} {vs:List Value} {i:Nat},dy R cs vs->cs[i]? =some av->∃v,vs[i]? =some v/\bn R av v:=by
  intro cs;induction cs with
  |nil=>intro vs i _ hi;simp at hi
  |cons c cs ih=>
   intro vs i hr hi;obtain⟨v,t,rfl,hv,hr⟩:=hr;cases i with
   |zero=>simp only[I_,g_] at hi;subst hi;exact⟨v,rfl,hv⟩
   |succ i=>exact ih (vs:=t) (i:=i) hr (by simpa using hi)
 obtain⟨v,hv,hrv⟩:=key hr hi;refine⟨v,?_,hrv⟩;simp only[execOp,e,Instr.extract];have:ws[i]? =some v:=by simpa using hv
 simp only[this];rfl
theorem zA {e:TypeId}{xe:TI}{sz m:Nat}{f:Nat->AVal}{k:IntKind}{i:Int} 
  (hx:ah env x=some (.list sz m f)) (hy:ah env y=some (.int k i)) (h1:bj P T=some xT) (h2:xT.desc= .slice e) (h3:bj P e=some xe) (h4:xe.size=sz)
  (hi0:0<=i) (hi:i<m) (hp:(f i.toNat).plain=true)
  :bE P C H env (.indexAddr T x y) (.rop (f i.toNat).cells 0):=by
 intro R ρ w hm hf dst t p af g;obtain⟨a,cap,e1,_,h5⟩:=bC (hf _ _ hx) rfl;simp only[o_,and_true] at e1;rcases h5 with h5|⟨bl,o,Cs,el,fz,rfl,hR,hall⟩
 ·omega
 have hr:=hall i.toNat a_;have hl:=lK hr hp;have hlen:=aJ hl;refine⟨.pointer (some ⟨bl,o+i.toNat*sz,none⟩),?_,ik (Nat.zero_le _) ⟨Cs,el,fz,hR,?_⟩⟩
 ·simp only[execOp,e1,ap.1 (hf _ _ hy),Instr.indexAt,asIntOf,e_,h_,c_,ao h1,h2];rw[if_pos (show 0<=i/\i<(m:Int) from⟨hi0,hi⟩)];simp only[e_,aM h3,h4,c_,h_,Addr.add];by_cases h0:i.toNat*sz=0
  ·simp[h0]
  ·simp[h0]
 ·rw[Nat.sub_zero,Ay hlen];exact hl
theorem EC {cs:List AVal}{off:Nat} 
  (hx:ah env x=some (.rop cs off)) (h1:bj P T=some xT) (h2:cv xT.desc=false) (hc:cs[off]? =some av) (ha:av.isAgg=false)
  :bE P C H env (.load T x) (av):=by
 intro R ρ w hm hf dst t p af g;obtain⟨bl,o,e1,ho,hs⟩:=iw (hf _ _ hx);obtain⟨v,hv,hr⟩:=hs.cell hm.sealed hc;rw[Nat.sub_add_cancel ho] at hv;refine⟨v,?_,cT hr ha⟩;simp only[execOp,e1,Instr.loadAt,Instr.sureAddr,e_,h_,c_,iX h1 h2 hv]
theorem vj {cs:List AVal}{off:Nat} 
  (hx:ah env x=some (.rop cs off)) (h1:bj P T=some xT) (h2:cv xT.desc=true) (hc:off+xT.size<=cs.length)
  :bE P C H env (.load T x) (.agg ((cs.drop off).take xT.size)):=by
 intro R ρ w hm hf dst t p af g;obtain⟨bl,o,e1,ho,Cs,el,fz,hR,hl⟩:=iw (hf _ _ hx);have hlen:=aJ hl;simp only[i_,k_,r_] at hlen;refine⟨.agg ((Cs.toList.drop o).take xT.size).toArray,?_,?_,rfl⟩
 ·simp only[execOp,e1,Instr.loadAt,Instr.sureAddr,e_,h_,c_];by_cases hz:xT.size=0
  ·simp only[loadVar,e_,dX h1,h2,aap,aM h1,loadCells,hz,loadCellsFrom,c_];simp
  ·rw[pb h1 h2 (hm.sealed _ _ hR) a_];simp
 ·have:=di xT.size (dz off hl);simp only[Value.cells,bI];rw[List.drop_take,Q_,Nat.sub_add_cancel ho,R_] at this;rw[Nat.min_eq_left a_] at this;simpa using this
theorem tA {cs:List AVal}{off k:Nat}{fs:Array Field}{f:Field}{xf:TI} 
  (hx:ah env x=some (.rop cs off)) (h1:bj P T=some xT) (h2:xT.desc= .struct fs) (h3:fs[k]? =some f) (h4:bj P f.type=some xf) (h5:Nat.ble 1 xf.size=true)
  :bE P C H env (.fieldAddr T x k) (.rop cs (off+f.offset)):=by
 intro R ρ w hm hf dst t p af g;have h5:=v_ h5;obtain⟨bl,o,e1,ho,hs⟩:=iw (hf _ _ hx);refine⟨.pointer (some ⟨bl,o+f.offset,none⟩),?_,ik a_ (by rw[Nat.add_sub_add_right];exact hs)⟩;simp only[execOp,e1,Instr.fieldAt,e_,ao h1,h2,c_,h3,Instr.sureAddr,h_,fieldPlace,aM h4];rw[if_neg a_];simp only[Addr.add];by_cases h0:f.offset=0
 ·simp[h0]
 ·simp[h0]
theorem vg {cs:List AVal}{off:Nat}(hx:ah env x=some (.rop cs off))
  :bE P C H env (.nilCheck x) (.rop cs off):=by
 intro R ρ w hm hf dst t p af g;have hr:=hf _ _ hx;obtain⟨bl,o,e1,ho,hs⟩:=iw hr;rw[e1] at hr;exact⟨_,by simp only[execOp,e1];rfl,hr⟩
theorem rW {gl len:Nat}{e:TypeId}{xe:TI}{cs:List AVal}{k:IntKind}{i:Int}(hG:LN C.G gl cs) 
  (hy:ah env y=some (.int k i)) (h1:bj P T=some xT) (h2:xT.desc= .array len e) (h3:bj P e=some xe)
  (hi0:0<=i) (hi:i<len)
  :bE P C H env (.indexAddr T (.global gl) y) (.rop cs (i.toNat*xe.size)):=by
 intro R ρ w hm hf dst t p af g;have hr:=aq.1 (hf (.global gl) _ rfl);refine⟨.pointer (some ⟨gl,i.toNat*xe.size,none⟩),?_,ik (Nat.le_refl _) (by rw[Nat.sub_self];exact hG R hm.glo)⟩;simp only[execOp,hr,ap.1 (hf _ _ hy),Instr.indexAt,asIntOf,e_,h_,c_,ao h1,h2,Instr.sureAddr];rw[if_pos (show 0<=i/\i<(len:Int) from⟨hi0,hi⟩)];simp only[e_,aM h3,c_,h_,Addr.add];by_cases h0:i.toNat*xe.size=0
 ·simp[h0]
 ·simp[h0]
theorem Ci {gl:Nat}{cs:List AVal}(hG:LN C.G gl cs) 
  (h1:bj P T=some xT) (h2:cv xT.desc=false) (hc:cs[0]? =some av) (ha:av.isAgg=false)
  :bE P C H env (.load T (.global gl)) (av):=by
 intro R ρ w hm hf dst t p af g;have hr:=aq.1 (hf (.global gl) _ rfl);obtain⟨v,hv,hrv⟩:=(hG R hm.glo).cell hm.sealed hc;refine⟨v,?_,cT hrv ha⟩;simp only[execOp,hr,Instr.loadAt,Instr.sureAddr,e_,h_,c_,iX h1 h2 hv]
theorem ED {i bl o:Nat}{cs:List AVal} 
  (hx:ah env x=some (.raw (.pointer (some ⟨bl,o,none⟩)))) (hi:H[i]? =some (.cells bl eT cs)) (h1:bj P T=some xT) (h2:cv xT.desc=false) (hc:cs[o]? =some av) (ha:av.isAgg=false)
  :bE P C H env (.load T x) (av):=by
 intro R ρ w hm hf dst t p af g;obtain⟨Cs,el,fz,hb,hl,_⟩:=lB hm hi;obtain⟨v,hv,hr⟩:=fy hl hc;refine⟨v,?_,cT hr ha⟩;have hcell:w.cell? ⟨bl,o,none⟩=some v:=by simp only[World.cell?,hb];simpa using hv
 simp only[execOp,aq.1 (hf _ _ hx),Instr.loadAt,Instr.sureAddr,e_,h_,c_,iX h1 h2 hcell]
theorem vl {i bl o:Nat}{cs:List AVal} 
  (hx:ah env x=some (.raw (.pointer (some ⟨bl,o,none⟩)))) (hi:H[i]? =some (.cells bl eT cs)) (h1:bj P T=some xT) (h2:cv xT.desc=true) (hc:o+xT.size<=cs.length)
  :bE P C H env (.load T x) (.agg ((cs.drop o).take xT.size)):=by
 intro R ρ w hm hf dst t p af g;obtain⟨Cs,el,fz,hb,hl,_⟩:=lB hm hi;have hlen:=aJ hl;simp only[r_] at hlen;refine⟨.agg ((Cs.toList.drop o).take xT.size).toArray,?_,?_,rfl⟩
 ·simp only[execOp,aq.1 (hf _ _ hx),Instr.loadAt,Instr.sureAddr,e_,h_,c_,pb h1 h2 hb (show o+xT.size<=Cs.size by omega)]
 ·simpa[Value.cells,bI] using di xT.size (dz o hl)
def bZ (v:Value)(b n:Nat):Prop:=∃cap,v= .slice (some ⟨b,0,none⟩) n cap
theorem tC {R:Seal}{w:World}{i bl n0 sz:Nat}{v:Value}{cs:List AVal}(hm:MS C R H w)(hi:H[i]? =some (.row v eT sz n0 cs))(hr:bZ v bl n0)(h0:0<n0):
  cs.length=n0*sz/\∃cap Cs e fz,v= .slice (some ⟨bl,0,none⟩) n0 cap/\w.heap[bl]? =some (.cells Cs e fz)/\Cs.size=cap*sz/\n0<=cap/\cb R cs (Cs.toList.take (n0*sz))/\ow fz Cs.size/\∀t,eT=some t->e=t:=by
 obtain⟨hlen,hx⟩:=hm.heap.holds _ (q_ hi);obtain⟨cap0,rfl⟩:=hr;refine⟨hlen,?_⟩;rcases hx with⟨h,hn⟩|⟨b',cap,Cs,e,fz,h,r⟩
 ·omega
 ·cases h;exact⟨_,Cs,e,fz,rfl,r⟩
theorem EB {i bl o n0 sz:Nat}{v:Value}{cs:List AVal} 
  (hx:ah env x=some (.raw (.pointer (some ⟨bl,o,none⟩)))) (hi:H[i]? =some (.row v eT sz n0 cs)) (hr:bZ v bl n0) (ho:o<n0*sz) (h1:bj P T=some xT) (h2:cv xT.desc=false) (hc:cs[o]? =some av) (ha:av.isAgg=false)
  :bE P C H env (.load T x) (av):=by
 intro R ρ w hm hf dst t p af g;obtain⟨hlen,cap,Cs,el,fz,_,hb,_,_,hl,_⟩:=tC hm hi hr (by rcases Nat.eq_zero_or_pos n0 with h|h;subst h;simp at ho;exact h);obtain⟨u,hv,hr⟩:=fy hl hc;refine⟨u,?_,cT hr ha⟩;rw[List.getElem?_take_of_lt ho] at hv;have hcell:w.cell? ⟨bl,o,none⟩=some u:=by simp only[World.cell?,hb];simpa using hv
 simp only[execOp,aq.1 (hf _ _ hx),Instr.loadAt,Instr.sureAddr,e_,h_,c_,iX h1 h2 hcell]
theorem vi {i bl o n0 sz:Nat}{v:Value}{cs c:List AVal} 
  (hx:ah env x=some (.raw (.pointer (some ⟨bl,o,none⟩)))) (hi:H[i]? =some (.row v eT sz n0 cs)) (hr:bZ v bl n0) (ho:o+xT.size<=n0*sz) (h0:0<n0) (h1:bj P T=some xT) (h2:cv xT.desc=true) (hc:(cs.drop o).take xT.size=c)
  :bE P C H env (.load T x) (.agg c):=by
 subst hc;intro R ρ w hm hf dst t p af g;obtain⟨hlen,cap,Cs,el,fz,_,hb,hsz,hnc,hl,_⟩:=tC hm hi hr h0;have hmul:n0*sz<=cap*sz:=aah _ hnc;refine⟨.agg ((Cs.toList.drop o).take xT.size).toArray,?_,?_,rfl⟩
 ·simp only[execOp,aq.1 (hf _ _ hx),Instr.loadAt,Instr.sureAddr,e_,h_,c_,pb h1 h2 hb (show o+xT.size<=Cs.size by omega)]
 ·have:=di xT.size (dz o hl);rw[List.drop_take,R_,Nat.min_eq_left a_] at this;simpa[Value.cells,bI] using this
theorem tB {bl o k:Nat}{fs:Array Field}{f:Field}{xf:TI} 
  (hx:ah env x=some (.raw (.pointer (some ⟨bl,o,none⟩)))) (h1:bj P T=some xT) (h2:xT.desc= .struct fs) (h3:fs[k]? =some f) (h4:bj P f.type=some xf) (h5:Nat.ble 1 xf.size=true)
  :bE P C H env (.fieldAddr T x k) (.raw (.pointer (some ⟨bl,o+f.offset,none⟩))):=by
 intro R ρ w hm hf dst t p af g;refine⟨_,?_,aq.2 rfl⟩;have h5:=v_ h5;simp only[execOp,aq.1 (hf _ _ hx),Instr.fieldAt,e_,ao h1,h2,c_,h3,Instr.sureAddr,h_,fieldPlace,aM h4];rw[if_neg a_];simp only[Addr.add];by_cases h0:f.offset=0
 ·simp[h0]
 ·simp[h0]
theorem tz {bl o len:Nat}{e:TypeId}{xe:TI}{k:IntKind}{i:Int} 
  (hx:ah env x=some (.raw (.pointer (some ⟨bl,o,none⟩)))) (hy:ah env y=some (.int k i)) (h1:bj P T=some xT) (h2:xT.desc= .array len e) (h3:bj P e=some xe)
  (hi0:0<=i) (hi:i<len)
  :bE P C H env (.indexAddr T x y) (.raw (.pointer (some ⟨bl,o+i.toNat*xe.size,none⟩))):=by
 intro R ρ w hm hf dst t p af g;refine⟨_,?_,aq.2 rfl⟩;simp only[execOp,aq.1 (hf _ _ hx),ap.1 (hf _ _ hy),Instr.indexAt,asIntOf,e_,h_,c_,ao h1,h2,Instr.sureAddr];rw[if_pos (show 0<=i/\i<(len:Int) from⟨hi0,hi⟩)];simp only[e_,aM h3,c_,h_,Addr.add];by_cases h0:i.toNat*xe.size=0
 ·simp[h0]
 ·simp[h0]
theorem vh {a:Addr}(hx:ah env x=some (.raw (.pointer (some a))))
  :bE P C H env (.nilCheck x) (.raw (.pointer (some a))):=by
 intro R ρ w hm hf dst t p af g;refine⟨_,?_,aq.2 rfl⟩;simp only[execOp,aq.1 (hf _ _ hx)];rfl
theorem O3 {cs:List AVal}{k:Nat}{fs:Array Field}{f:Field}{xf:TI} 
  (hx:ah env x=some (.agg cs)) (h1:bj P T=some xT) (h2:xT.desc= .struct fs) (h3:fs[k]? =some f) (h4:bj P f.type=some xf) (h5:cv xf.desc=false)
  (hc:cs[f.offset]? =some av) (ha:av.isAgg=false)
  :bE P C H env (.field T x k) (av):=by
 intro R ρ w hm hf dst t p af g;have hr:=hf _ _ hx;obtain⟨vs,hvs⟩:∃vs,ρ x= .agg vs:=by
  have:=hr.2;cases hv:ρ x<;>rw[hv] at this<;>simp[AVal.isAgg,dc] at this
  exact⟨_,rfl⟩
 rw[hvs] at hr;obtain⟨v,hv,hrv⟩:=fy (R:=R) (cs:=cs) (vs:=vs.toList) hr.1 hc;refine⟨v,?_,cT hrv ha⟩;have hv':vs[f.offset]? =some v:=by simpa using hv
 simp only[execOp,hvs,Instr.field,e_,ao h1,h2,c_,h3,asAgg,h_,part,dX h4,h5,Bu,aaq,hv']
theorem Ck {cs:List AVal}{k:Nat}{fs:Array Field}{f:Field}{xf:TI} 
  (hx:ah env x=some (.agg cs)) (h1:bj P T=some xT) (h2:xT.desc= .struct fs) (h3:fs[k]? =some f) (h4:bj P f.type=some xf) (h5:cv xf.desc=true)
  :bE P C H env (.field T x k) (.agg ((cs.drop f.offset).take xf.size)):=by
 intro R ρ w hm hf dst t p af g;have hr:=hf _ _ hx;obtain⟨vs,hvs⟩:∃vs,ρ x= .agg vs:=by
  have:=hr.2;cases hv:ρ x<;>rw[hv] at this<;>simp[AVal.isAgg,dc] at this
  exact⟨_,rfl⟩
 rw[hvs] at hr;refine⟨.agg (vs.extract f.offset (f.offset+xf.size)),?_,?_,rfl⟩
 ·simp only[execOp,hvs,Instr.field,e_,ao h1,h2,c_,h3,asAgg,h_,part,dX h4,h5,aap,aM h4]
 ·have:=di xf.size (dz f.offset (vs:=vs.toList) hr.1);simp only[Value.cells,bI];rw[Array.toList_extract];simpa[List.extract_eq_take_drop] using this
theorem O5 {l:List (Nat×Operand)}{ps:List (Nat×AVal)}{fs:List Field}{pl:List (Nat×Nat)}{z cs:List AVal} 
  (hl:jr env l=some ps) (h1:bj P T=some xT) (h2:xT.desc= .struct fs.toArray) (h3:nP P fs=some pl) (h4:bK xT.zero=some z) (h5:qQ pl z ps=some cs)
  :bE P C H env (.build T l.toArray) (.agg cs):=by
 intro R ρ w hm hf dst t p af g;obtain⟨v,hv,hr⟩:=dp (R:=R) h4;obtain⟨Cs,hC,hrC⟩:=nn (place:=(pl.toArray[·]?)) (λi x hi=>by simpa using hi) (jS hf hl) hr h5;refine⟨.agg Cs,?_,hrC,rfl⟩;have hmap:(l.toArray.map λx=>(x.1,ρ x.2)).toList=l.map λx=>(x.1,ρ x.2):=by simp
 simp only[execOp,Instr.build,e_,dT h1 hv,c_,ao h1,h2,Array.mapM_eq_mapM_toList,Sem.run_map,oV h3];rw[show(Array.map (λx:Nat×Operand=>match x with|(i,x)=>(i,ρ x)) l.toArray).toList=l.map λx=>(x.1,ρ x.2) from hmap,hC];rfl
def uZ:Nat->Nat->Nat->List (Nat×Nat)
 |0,_,_=>[]
 |m+1,i,sz=>(i*sz,sz)::uZ m (i+1) sz
theorem zf:∀{m i sz k:Nat} {x:Nat×Nat},(uZ m i sz)[k]? =some x->x=((i+k)*sz,sz)
 |0,_,_,_,_,h=>by simp[uZ] at h
 |m+1,i,sz,0,x,h=>by simpa[uZ] using h.symm
 |m+1,i,sz,k+1,x,h=>by
  have:=zf (m:=m) (i:=i+1) (sz:=sz) (k:=k) (by simpa[uZ] using h);rw[this,show i+1+k=i+(k+1) by omega]
theorem Cm {l:List (Nat×Operand)}{ps:List (Nat×AVal)}{m e:Nat}{xe:TI}{z cs:List AVal} 
  (hl:jr env l=some ps) (h1:bj P T=some xT) (h2:xT.desc= .array m e) (h3:bj P e=some xe) (h4:bK xT.zero=some z) (h5:qQ (uZ m 0 xe.size) z ps=some cs)
  :bE P C H env (.build T l.toArray) (.agg cs):=by
 intro R ρ w hm hf dst t p af g;obtain⟨v,hv,hr⟩:=dp (R:=R) h4;obtain⟨Cs,hC,hrC⟩:=nn (place:=λi=>some (i*xe.size,xe.size)) (λi x hi=>by rw[zf hi,Nat.zero_add]) (jS hf hl) hr h5;refine⟨.agg Cs,?_,hrC,rfl⟩;have hmap:(l.toArray.map λx=>(x.1,ρ x.2)).toList=l.map λx=>(x.1,ρ x.2):=by simp
 simp only[execOp,Instr.build,e_,dT h1 hv,c_,ao h1,h2,aM h3];rw[show(Array.map (λx:Nat×Operand=>match x with|(i,x)=>(i,ρ x)) l.toArray).toList=l.map λx=>(x.1,ρ x.2) from hmap,hC];rfl
theorem HQ {s:ω}{i m:Nat}{v:Value}{cs:List AVal}{S e:TypeId}{xS xe:TI} 
  (hx:ah env x=some (.raw v)) (hi:H[i]? =some (.row v eT 1 m cs)) (hc:cs=s.map byteA)
  (h1:bj P S=some xS) (h2:xS.desc= .slice e) (h5:bj P e=some xe) (h6:xe.desc= .int .u8) (h3:bj P T=some xT) (h4:xT.desc= .string)
  :bE P C H env (.convert S T x) (.str s):=by
 intro R ρ w hm hf dst t p af g;refine⟨_,?_,aD.2 rfl⟩;obtain⟨hlen,hx'⟩:=hm.heap.holds _ (q_ hi);have hm':m=s.length:=by rw[hc] at hlen;simpa using hlen.symm
 subst hm';rcases hx' with⟨rfl,h0⟩|⟨bl,cap,Cs,el,fz,rfl,hb,hcs,hnc,hl,hfz⟩
 ·have:s=[]:=s_ h0;subst this;simp only[execOp,aq.1 (hf _ _ hx),e_];rw[run_convert_bytes_string w S T e none 0 0 (by rw[bR h1,h2]) (by rw[bR h5,h6]) (by rw[bR h3,h4])];rfl
 ·rw[hc] at hl;simp only[execOp,aq.1 (hf _ _ hx),e_,rB h1 h2 h5 h6 h3 h4 (rA (o:=0) hb (by simpa using hl)),c_,h_]
theorem Ex {m:Nat}(s:ω){f:Nat->AVal}{S e:TypeId}{xS xe:TI} 
  (hx:ah env x=some (.list 1 m f)) (hl:s.length=m) (hc:∀i,i<s.length->f i=byteA (s.getD i 0))
  (h1:bj P S=some xS) (h2:xS.desc= .slice e) (h5:bj P e=some xe) (h6:xe.desc= .int .u8) (h3:bj P T=some xT) (h4:xT.desc= .string)
  :bE P C H env (.convert S T x) (.str s):=by
 subst hl;intro R ρ w hm hf dst t p af g;refine⟨_,?_,aD.2 rfl⟩;obtain⟨a,cap,e1,_,h7⟩:=bC (hf _ _ hx) rfl;simp only[o_,and_true] at e1;rcases h7 with h7|⟨bl,o,Cs,el,fz,rfl,hR,hall⟩
 ·have:s=[]:=s_ h7;subst this;simp only[execOp,e1,e_,E_];rw[run_convert_bytes_string w S T e a 0 cap (by rw[bR h1,h2]) (by rw[bR h5,h6]) (by rw[bR h3,h4])];cases a with
  |none=>rfl
  |some a=>simp[Conv.bytesToString,loadCells,loadCellsFrom];rfl
 ·have hcell:∀j (hj:j<s.length),w.cell? ((⟨bl,o,none⟩:Addr).add j)=some (.int .u8 (s[j].toNat:Int)):=by
   intro j hj;have hr:=hall j hj;rw[hc j hj] at hr;simp only[byteA,bI,Nat.mul_one] at hr;rw[DM];simp only[World.cell?,hm.sealed _ _ hR];have:(List.take 1 (List.drop (o+j) Cs.toList))[0]? =some (Value.int .u8 ((s.getD j 0).toNat:Int)):=by rw[hr];rfl
   rw[List.getElem?_take_of_lt a_,List.getElem?_drop] at this;simpa[y_ hj] using this
  simp only[execOp,e1,e_,rB h1 h2 h5 h6 h3 h4 hcell,c_,h_]
theorem Cf {v:AVal}(hx:ah env x=some v)(h1:bj P T=some xT)(h2:gQ xT.desc=false)
  :bE P C H env (.makeInterface T x) (.iface T v):=by
 intro R ρ w hm hf dst t p af g;refine⟨.iface T (ρ x),?_,AG (hf _ _ hx)⟩;simp only[execOp,Instr.makeInterface,e_,ao h1,c_];cases hd:xT.desc<;>first|rfl|(rw[hd] at h2;simp[gQ] at h2)
theorem zC {v:AVal}{S:TypeId}{ty:TypeId}(hx:ah env x=some (.iface ty v))(h1:bj P T=some xT)(h2:gQ xT.desc=false)(he:ty=T)
  :bE P C H env (.typeAssert x S T true) (.tuple [v,.bool true]):=by
 subst he;intro R ρ w hm hf dst t p af g;obtain⟨u,e,h3,h4⟩:=bC (hf _ _ hx) rfl;simp only[o_,and_true] at e;refine⟨.tuple #[u,.bool true],?_,⟨⟨_,rfl,_,_,rfl,⟨h3,h4⟩,_,_,rfl,⟨rfl,rfl⟩,rfl⟩,rfl⟩⟩;simp only[execOp,e,Instr.typeAssert,e_,ao h1,c_];cases hd:xT.desc<;>first|(simp;done)|(rw[hd] at h2;simp[gQ] at h2)
theorem xl {v z:AVal}{S:TypeId}{ty:TypeId}(hx:ah env x=some (.iface ty v))(h1:bj P T=some xT)(h2:gQ xT.desc=false)(he:Nat.beq ty T=false)
  (hz:wz xT.zero=some z)
  :bE P C H env (.typeAssert x S T true) (.tuple [z,.bool false]):=by
 have he:ty≠T:=by rintro rfl;rw[Nat.beq_refl] at he;cases he
 intro R ρ w hm hf dst t p af g;obtain⟨u,e,h3,h4⟩:=bC (hf _ _ hx) rfl;simp only[o_,and_true] at e;obtain⟨zv,hzv,hzr⟩:=Am (R:=R) hz;refine⟨.tuple #[zv,.bool false],?_,⟨⟨_,rfl,_,_,rfl,hzr,_,_,rfl,⟨rfl,rfl⟩,rfl⟩,rfl⟩⟩;simp only[execOp,e,Instr.typeAssert,e_,ao h1,c_];cases hd:xT.desc<;>first|(simp[he,dT h1 hzv];done)|(rw[hd] at h2;simp[gQ] at h2)
theorem zB {z:AVal}{S:TypeId}(hx:ah env x=some (.raw .nilIface))(h1:bj P T=some xT)
  (hz:wz xT.zero=some z)
  :bE P C H env (.typeAssert x S T true) (.tuple [z,.bool false]):=by
 intro R ρ w hm hf dst t p af g;obtain⟨zv,hzv,hzr⟩:=Am (R:=R) hz;refine⟨.tuple #[zv,.bool false],?_,⟨⟨_,rfl,_,_,rfl,hzr,_,_,rfl,⟨rfl,rfl⟩,rfl⟩,rfl⟩⟩;simp only[execOp,aq.1 (hf _ _ hx),Instr.typeAssert,e_,ao h1,c_];cases xT.desc<;>simp[dT h1 hzv]
theorem Mf {a:AVal}{c:Bool}{z:Value}(hx:ah env x=some a)(h1:bj P T=some xT)(hn:CZ xT.desc a=some c)(hz:qN xT.desc=some z){ty:TypeId}
  :bE P C H env (.binOp .eql T x (.const z) ty) (.bool c):=by
 intro R ρ w hm hf dst t p af g;refine⟨_,?_,aO.2 rfl⟩;have hc:ρ (.const z)=z:=by
  have:=hf (.const z) _ (gE env z);have hz':∀z':Value,qN xT.desc=some z'->KB z'= .raw z':=by
   intro z' hz';cases hd:xT.desc<;>rw[hd] at hz'<;>simp only[qN,g_] at hz'<;>first|(cases hz';done)|(subst hz';rfl)
  rw[hz' z hz] at this;exact aq.1 this
 obtain⟨h3,h4,h5⟩:=uq (x:=x) (w:=w) (hf _ _ hx) h1 hn hz;simp only[execOp,hc,e_,h4,c_,h5 .eql (.inl rfl),aap,h3,h_]
theorem Me {a:AVal}{c:Bool}{z:Value}(hx:ah env x=some a)(h1:bj P T=some xT)(hn:CZ xT.desc a=some c)(hz:qN xT.desc=some z){ty:TypeId}
  :bE P C H env (.binOp .neq T x (.const z) ty) (.bool (!c)):=by
 intro R ρ w hm hf dst t p af g;refine⟨_,?_,aO.2 rfl⟩;have hc:ρ (.const z)=z:=by
  have:=hf (.const z) _ (gE env z);have hz':∀z':Value,qN xT.desc=some z'->KB z'= .raw z':=by
   intro z' hz';cases hd:xT.desc<;>rw[hd] at hz'<;>simp only[qN,g_] at hz'<;>first|(cases hz';done)|(subst hz';rfl)
  rw[hz' z hz] at this;exact aq.1 this
 obtain⟨h3,h4,h5⟩:=uq (x:=x) (w:=w) (hf _ _ hx) h1 hn hz;have h6:=h5 .neq (.inr rfl);rw[if_neg b_] at h6;simp only[execOp,hc,e_,h4,c_,h6,h3,h_]
theorem EF {sz m:Nat}{f:Nat->AVal}{e:TypeId}(hx:ah env x=some (.list sz m f))(h1:bj P T=some xT)(h2:xT.desc= .slice e)
  :bE P C H env (.call {callee:=.builtin .len,args:=[x].toArray,argTypes:=[T].toArray}) (.int .i64 (m:Int)):=by
 intro R ρ w hm hf dst t p af g;refine⟨_,?_,ap.2 rfl⟩;obtain⟨a,cap,e1,_⟩:=bC (hf _ _ hx) rfl;simp only[o_,and_true] at e1;simp only[execOp,resolve,e_,h_,c_,invoke,builtin,Builtin.len_,X_,S_,Z_,e1];simp only[Wm,I_,e_,ao h1,h2,c_,h_,goInt]
theorem xj {a:Option Addr}{m cap:Nat}{e:TypeId}(hx:ah env x=some (.raw (.slice a m cap)))(h1:bj P T=some xT)(h2:xT.desc= .slice e)
  :bE P C H env (.call {callee:=.builtin .len,args:=[x].toArray,argTypes:=[T].toArray}) (.int .i64 (m:Int)):=by
 intro R ρ w hm hf dst t p af g;refine⟨_,?_,ap.2 rfl⟩;simp only[execOp,resolve,e_,h_,c_,invoke,builtin,Builtin.len_,X_,S_,Z_,aq.1 (hf _ _ hx)];simp only[Wm,I_,e_,ao h1,h2,c_,h_,goInt]
theorem HT {i sz m:Nat}{v:Value}{cs:List AVal}{e:TypeId}(hx:ah env x=some (.raw v))(hi:H[i]? =some (.row v eT sz m cs))(h1:bj P T=some xT)(h2:xT.desc= .slice e)
  :bE P C H env (.call {callee:=.builtin .len,args:=[x].toArray,argTypes:=[T].toArray}) (.int .i64 (m:Int)):=by
 intro R ρ w hm hf dst t p af g;refine⟨_,?_,ap.2 rfl⟩;have hv:=aq.1 (hf _ _ hx);obtain⟨_,hh⟩:=hm.heap.holds _ (q_ hi);rcases hh with⟨rfl,rfl⟩|⟨bl,cap,Cs,el,fz,rfl,_⟩
 all_goals
  simp only[execOp,resolve,e_,h_,c_,invoke,builtin,Builtin.len_,X_,S_,Z_,hv];simp only[Wm,I_,e_,ao h1,h2,c_,h_,goInt]
theorem Wr {k:IntKind}{m q:Int}{ts:Array TypeId}(hx:ah env x=some (.int k m))(hy:ah env y=some (.int k q))
  :bE P C H env (.call {callee:=.builtin .min,args:=[x,y].toArray,argTypes:=ts}) (.int k (min m q)):=by
 intro R ρ w hm hf dst t p af g;refine⟨_,?_,ap.2 rfl⟩;have e:min m q=if q<m then q else m:=by split<;>omega
 simp only[execOp,resolve,e_,h_,c_,invoke,builtin,X_,S_,Z_,ap.1 (hf _ _ hx),ap.1 (hf _ _ hy),e];rfl
theorem Ws {k:IntKind}{m q:Int}{ts:Array TypeId}(hx:ah env x=some (.int k m))(hy:ah env y=some (.int k q))
  :bE P C H env (.call {callee:=.builtin .max,args:=[x,y].toArray,argTypes:=ts}) (.int k (max m q)):=by
 intro R ρ w hm hf dst t p af g;refine⟨_,?_,ap.2 rfl⟩;have e:max m q=if m<q then q else m:=by split<;>omega
 simp only[execOp,resolve,e_,h_,c_,invoke,builtin,X_,S_,Z_,ap.1 (hf _ _ hx),ap.1 (hf _ _ hy),e];rfl
theorem Ez {fn:Fn}{l1 l2:List Operand}{a1 a2:List AVal}(h1:kH env l1=some a1)(h2:kH env l2=some a2)
  :bE P C H env (.makeFunc fn l1.toArray l2.toArray) (.func fn a1 a2):=by
 intro R ρ w hm hf dst t p af g;refine⟨_,rfl,?_⟩;exact⟨⟨_,_,rfl,by simpa using i6 hf h1,by simpa using i6 hf h2⟩,rfl⟩
theorem zz {lo hi:Option Operand}{sz m:Nat}{f:Nat->AVal}{i j:Int}{e:TypeId}{xe:TI}(hx:ah env x=some (.list sz m f))
  (h1:bj P T=some xT) (h2:xT.desc= .slice e) (h3:bj P e=some xe) (h4:xe.size=sz) (hlo:iP env 0 lo=some i) (hhi:iP env (m:Int) hi=some j) (h0:0<=i) (hij:i<=j) (hj:j<=m)
  :bE P C H env (.slice T x lo hi none) (.list sz (j.toNat-i.toNat) (λk=>f (i.toNat+k))):=by
 intro R ρ w hm hf dst t p af g;obtain⟨a,cap,e1,hle,h5⟩:=bC (hf _ _ hx) rfl;simp only[o_,and_true] at e1;have hb:=za (P:=P) (isS:=true) (len:=m) (cap:=cap) hf hlo hhi h0 hij a_ hle w;refine⟨.slice (if cap=i.toNat then a else a.map (·.add (i.toNat*sz))) (j.toNat-i.toNat) (cap-i.toNat),?_,⟨_,_,rfl,a_,?_⟩,rfl⟩
 ·simp only[execOp,e1,Instr.sliceAt,Instr.slice,e_,h_,c_,ao h1,h2,Option.map_none,hb,aM h3,h4]
 ·by_cases hz:j.toNat-i.toNat=0
  ·exact .inl hz
  ·rcases h5 with h5|⟨bl,o,Cs,el,fz,rfl,hR,hall⟩
   ·omega
   refine .inr ⟨bl,o+i.toNat*sz,Cs,el,fz,?_,hR,λk hk=> ?_⟩
   ·rw[if_neg a_];simp only[aal,DM]
   ·have:=hall (i.toNat+k) a_;rw[Nat.add_mul,<-Nat.add_assoc] at this;exact this
theorem Ey {k j:IntKind}{m c:Int}{s:Nat}{x:Operand}{tx ty:TypeId} 
  (hx:ah env x=some (.int k m)) (hs:Nat.ble s k.bits=true) (hc:CM NT s=some c)
  :bE P C H env (.binOp .shl tx x (.const (.int j (Int.ofNat s))) ty) (.int k (k.wrap (m*c))):=by
 rw[<-E1 hc] at*
 intro R ρ w hm hf dst t p af g;refine⟨_,?_,ap.2 rfl⟩;have hs:=v_ hs;simp only[execOp,ap.1 (hf _ _ hx),ap.1 (hf (.const (.int j (Int.ofNat s))) _ rfl),Go.binOp,eqGuard,Op.shift];rw[if_neg (show ¬(Int.ofNat s<0) by simp only[Int.ofNat_eq_natCast];omega)];simp only[Int.ofNat_eq_natCast,B_,Nat.min_eq_left hs];have:(m*2^s:Int)=m*((2^s:Nat):Int):=by simp
 rw[this];rfl
end
end
section
open Go
def AVal.det:AVal->Bool
 |.bool _=>true
 |.int _ _=>true
 |.str _=>true
 |.raw _=>true
 |.own _ v=> !dc v
 |.iface _ (.int _ _)=>true
 |_=>false
def AVal.conc:AVal->Value
 |.bool b=>.bool b
 |.int k m=>.int k m
 |.str s=>.string ⟨s.toArray⟩
 |.raw x=>x
 |.own _ x=>x
 |.iface t (.int k m)=>.iface t (.int k m)
 |_=>undef
theorem Jl {R:Seal}{av:AVal}{v:Value}(h:bn R av v)(hd:av.det=true):v=av.conc:=by
 unfold AVal.det at hd;split at hd
 ·exact aO.1 h
 ·exact ap.1 h
 ·exact aD.1 h
 ·exact aq.1 h
 ·exact(aE.1 h).1
 ·obtain⟨w,e,h1,h2⟩:=bC h rfl;have e:v=_:=(List.cons.inj e).1;rw[e,ap.1 ⟨h1,h2⟩];rfl
 ·cases hd
theorem vZ {R:Seal}{av:AVal}(hd:av.det=true):bn R av av.conc:=by
 unfold AVal.det at hd;split at hd
 ·exact aO.2 rfl
 ·exact ap.2 rfl
 ·exact aD.2 rfl
 ·exact aq.2 rfl
 ·exact aE.2 ⟨rfl,by simpa using hd⟩
 ·exact⟨⟨_,rfl,rfl,rfl⟩,rfl⟩
 ·cases hd
def CW (C:Ctx)(R:Seal)(H:Heap):World->Prop:=λw=>∃R',R.le R'/\MS C R' H w
def AQ (P:Program)(C:Ctx)(n:Nat)(ops:Array Oper)(l:List Oper)(env:Env)(H:Heap)(K:Env->Prop):Prop:=
 ∀R a,FS C.D n R env a->wpQuiet P ops (CW C R H) (λa'=>∃env',K env'/\FS C.D n R env' a') l a
theorem MS.drawn {C:Ctx}{R:Seal}{H:Heap}{w:World}(h:MS C R H w)(k:Nat):MS C R H {w with drawn:=k}:=by
 refine⟨λb o hb=>h.sealed b o hb,h.ge,h.fresh,⟨λx hx=> ?_,h.heap.nodup,h.heap.apart⟩,h.own,⟨h.ext.os,h.ext.tape,h.ext.output,h.ext.size,h.ext.block⟩⟩;exact HEnt.holds_mono (h.heap.holds x hx) (Seal.le_refl R) (λ_ _=>rfl)
section
variable {P:Program} {C:Ctx} {n:Nat} {env:Env} {H:Heap} {Q:aL->Env->Heap->Prop} {K:Env->Prop} {ops:Array Oper} {rest:List Oper}
theorem zc {id:Nat}{l:List Oper}(hm:P.follows .mixedOrders=true)(hB:Region.lexB .any l.toArray=true)(h:AQ P C n l.toArray l env H (λe=>Q .normal e H)):
  bJ P C n (.region id l.toArray true) env H Q:=by
 intro R a w hw hf;refine wp_region_quiet (C:=CW C R H) hm hB ⟨R,Seal.le_refl R,hw.drawn _⟩ ?_;have h1:=h R a hf;have h2:∀(l':List Oper) (a:Act),wpQuiet P l.toArray (CW C R H) (λa'=>∃env',Q .normal env' H/\FS C.D n R env' a') l' a->
   wpQuiet P l.toArray (CW C R H) (λa'=>∀w',CW C R H w'->mg C n Q .normal a' w') l' a:=by
  intro l';induction l' with
  |nil=>rintro a ⟨env',hq,hfs⟩ w' ⟨R',hle,hms⟩;exact⟨.normal,env',H,R',hq,rfl,hms,hfs.mono hle⟩
  |cons o r ih=>
   intro a h;have h':=h;unfold wpQuiet at h';refine wpQuiet_step λX hX=> ?_;split
   ·rename_i hw;rw[if_pos hw] at h';exact Oper.quiet_mono (λa' q=>hX _ (ih a' q)) h'
   ·rename_i hw;rw[if_neg hw] at h';exact hX _ (ih _ h')
 exact h2 _ _ (by simpa using h1)
theorem X0 (h:K env):AQ P C n ops [] env H K:=λ_ _ hf=>⟨env,h,hf⟩
theorem UR {o:Oper}{d:Nat}(hg:aQ ops env o.guard=some (true,false))(hd:o.dst=some d)(hdn:Nat.ble (d+1) n=true)
  (h:AQ P C n ops rest ((d,.raw undef)::env) H K):AQ P C n ops (o::rest) env H K:=by
 intro R a hf;refine wpQuiet_step λX hX=> ?_;rw[cE hf hg,if_neg (by simp),hd];exact hX _ (h R _ (hf.put hdn (aq.2 rfl)))
theorem RY {o:Oper}{d:Nat}(hg:aQ ops env o.guard=some (false,true))(hd:o.dst=some d)(hdn:Nat.ble (d+1) n=true)
  (h:AQ P C n ops rest ((d,.raw undef)::env) H K):AQ P C n ops (o::rest) env H K:=by
 intro R a hf;refine wpQuiet_step λX hX=> ?_;rw[cE hf hg,if_neg (by simp),hd];exact hX _ (h R _ (hf.put hdn (aq.2 rfl)))
theorem R3 {fv:Operand}{args:List Operand}{ts:Array TypeId}{f:FuncId}{avs:List AVal}{v:AVal}{d:Nat}{t:TypeId}{p:String}{af:Array Edge}{g:Option (Nat×Bool)}{b:Bool}
  (hg:aQ ops env g=some (b,b)) (hdn:Nat.ble (d+1) n=true) (hfv:ah env fv=some (.func (.func f) [] [])) (ha:kH env args=some avs)
  (hs:ai P C.G f avs v) (hc:∀args w,(callFunc f args).run P w= .ok (.enter f args) w) (hdet:v.det=true) (h:AQ P C n ops rest ((d,v)::env) H K):
  AQ P C n ops ({dst:=some d,op:=.call {callee:=.value fv,args:=args.toArray,argTypes:=ts},type:=t,pos:=p,after:=af,guard:=g}::rest) env H K:=by
 intro R a hf;refine wpQuiet_step λX hX=> ?_;rw[cE hf hg,if_pos (by simp)];refine⟨v.conc,?_,hX _ (h R _ (hf.put hdn (vZ hdet)))⟩;rintro w ⟨R',hle,hms⟩;have hf':=hf.mono hle;obtain⟨x1,x2,e,r1,r2⟩:=bC (hf'.eval hfv) rfl;simp only[o_,and_true] at e;have hrel:dy R' avs (x1++args.toArray.map a.eval++x2).toList:=by
  have:=ku r1 (ku (i6 (λx av h=>hf'.eval h) ha) r2);simpa using this
 have hrun:(execOp a.eval {dst:=some d,op:=.call {callee:=.value fv,args:=args.toArray,argTypes:=ts},type:=t,pos:=p,after:=af,guard:=g:Oper}).run P w=
   (callFunc f (x1++args.toArray.map a.eval++x2)).run P w:=by
  simp only[execOp,resolve,e,Deferred.ofValue,e_,h_,c_,invoke]
 show Oper.quietUpon P _ w _ ((execOp a.eval _).run P w);rw[hrun];have hent:=hms.enter (H1:=[]) (H2:=H) (G:=C.G) (hG:=hms.glo);rcases hs R' w _ hms.glo hent hrel with⟨h1,h2⟩|⟨v',w',h1,_⟩
 ·rw[h1];refine⟨rfl,h2.mono ?_⟩;rintro en w' ⟨res,H',R'',⟨rfl,rfl⟩,⟨y,rfl,hy⟩,hm'⟩;refine⟨by rw[Jl hy hdet],R'',λb o hb=>hm'.ge b o (hle b o hb),?_⟩;exact MS.call (H1:=[]) (H2:=H) hms hm'
 ·rw[hc] at h1;cases h1
end
end
end Go.Proofs.YtgpjhbhdbjdlgaaGreatDoor
