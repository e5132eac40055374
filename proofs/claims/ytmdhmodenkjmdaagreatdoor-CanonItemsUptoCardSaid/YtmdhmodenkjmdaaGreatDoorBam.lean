/- Parts of the proof of canonItems_card. -/
import Derived.Laws.IdiomRangeMap
import Derived.Test.YtmdhmodenkjmdaaGreatDoorBal
set_option linter.unusedVariables false
set_option linter.unusedSimpArgs false
set_option linter.unusedSectionVars false
namespace Go.Proofs.YtmdhmodenkjmdaaGreatDoor
open Go Go.RowKit
open Go.Proofs.Tryz Go.Proofs.YtmdhmodenkjmdaaGreatDoor.Tryz
set_option maxRecDepth 20000
set_option maxHeartbeats 4000000
section
attribute [local irreducible] bI ap aa az aW ab ad
attribute [local irreducible] escF escS
theorem DE {G:Glo}(l:List (List UInt8))(hn:l.length<=2000000)(hl:Lib.lens l<=2000000):an prog G 199 [.list 1 l.length (aE l)] (.tuple [.str (joinT l),(ns l).A]):=by
 have hE:=λk=>oV (G:=G) (l.getD k []) (by have:=cR (l:=l) (k:=k);omega) (lJ _);have hj:=lw l;refine aw func199 call199 λC hC hGL=> ?_;cases l with
 |nil=>
  exact bK
 |cons x r=>
  refine aZ ?_;intros;refine kK 4 1 rfl ?_;refine lp hC hGL (λ(y:List (List UInt8)×Value)=>[(4,.own 0 y.2),(11,.list 1 (x::r).length (aE (x::r))),(12,.int .i64 ((x::r).length:Nat)),(13,.int .i64 (y.1.length:Nat))]) (λy=>[.row y.2 none 1 y.1.length (aY y.1)]) (λy=>y.1.length<=(x::r).length/\y.1=((x::r).map escS).take y.1.length) (λy=>(x::r).length-y.1.length) ([],.slice none 0 0) ?_ ai rfl ?_
  ·exact⟨Nat.zero_le _,rfl⟩
  ·rintro⟨ps,v⟩ ⟨h1,h2⟩;have h1:ps.length<=(x::r).length:=h1;have h2:ps=((x::r).map escS).take ps.length:=h2;repeat' (first|(conv=>whnf);first|refine .w ?_|refine .v ?_|refine bu ?_ ?_<;>(intro hb;try exact dd hb)|apply au|apply aM|(apply a6<;>intro hb)|(apply ba;intro hbd)|(apply aJ;exact hE _)|(apply ax (i:=0) rfl;exact hE _)|(apply bc;intro bl)|(apply bh;intro va vk vc hva)|(apply bg;intro v)|(apply bj;intro bl cap hcap)|apply bx|(apply bf<;>intro hnx)|apply ct mixed hC hGL (by kernel_rfl)|(apply cq;assumption;exact hE _;exact rfl)|(show Rt _ _ _;exact a7)|fail)
   all_goals try conv=>whnf
   ·have hb:((ps.length:Nat):Int)<(((x::r).length:Nat):Int):=hb
    have hlt:ps.length<(x::r).length:=by omega
    refine db (ps++[escS ((x::r).getD ps.length [])],.slice va vk vc) ?_ ?_ ⟨rfl,rfl,rfl,?_,trivial⟩ ?_
    ·refine⟨?_,?_⟩
     ·show(ps++[escS ((x::r).getD ps.length [])]).length<=(x::r).length
      rw[List.length_append,List.length_singleton];omega
     ·show ps++[escS ((x::r).getD ps.length [])]=((x::r).map escS).take (ps++[escS ((x::r).getD ps.length [])]).length
      rw[List.length_append,List.length_singleton,sF hlt,<-h2]
    ·show(x::r).length-(ps++[escS ((x::r).getD ps.length [])]).length<(x::r).length-ps.length
     rw[List.length_append,List.length_singleton];omega
    ·show some (AVal.int .i64 (((ps.length:Nat):Int)+1))=some (AVal.int .i64 ((ps++[escS ((x::r).getD ps.length [])]).length:Nat))
     rw[List.length_append];rfl
    ·dsimp only
     rw[<-cM,List.length_append]
     rfl
   ·have hb:(((x::r).length:Nat):Int)<=((ps.length:Nat):Int):=hb
    have h3:ps=(x::r).map escS:=by rw[h2,List.take_of_length_le (by rw[List.length_map];omega)]
    subst h3
    refine ax (i:=0) rfl (cd ((x::r).map escS) [44] v (by omega) (by have:(Lib.join ((x::r).map escS) [44]).length<=_:=hj;omega)) ?_
    exact bK
theorem Gv {G:Glo}(l:List (List UInt8))(hn:l.length<=2000000)(hl:Lib.lens l<=2000000):an prog G 132 [.list 1 l.length (aE l)] (.tuple [.str (joinT l),.int .i64 (ns l).e]):=by
 have hE:=λk=>qP (G:=G) (l.getD k []) (by have:=cR (l:=l) (k:=k);omega);have hj:=lw l;refine aw func132 call132 λC hC hGL=> ?_;cases l with
 |nil=>
  exact bK
 |cons x r=>
  have hq:∀k,(escS x++Lib.joinTail [44] ((r.map escS).take k)).length<=(joinT (x::r)).length:=λk=>by
   unfold joinT;rw[List.map_cons,Lib.join_cons,List.length_append,List.length_append];have:=Lib.joinTail_take_le [44] (r.map escS) k;omega
  have hx:∀k,(escS ((x::r).getD k [])).length<=4000000:=λk=>by
   have h1:=(nF ((x::r).getD k [])).2;have h2:=cR (l:=x::r) (k:=k);omega
  have k1:=@hE;refine aZ ?_;intros;refine lp hC hGL (λk:Nat=>[(4,.str (escS x++Lib.joinTail [44] ((r.map escS).take k))),(15,.list 1 ((x::r).length-1) (λk=>aE (x::r) (1+k))),(16,.int .i64 (((x::r).length-1:Nat):Int)),(17,.int .i64 (k:Nat))]) (λ_=>[]) (λk=>k<=r.length) (λk=>r.length-k) 0 (Nat.zero_le _) ⟨?_,rfl,rfl,rfl,trivial⟩ rfl ?_
  ·show some (AVal.str (escS x))=some (AVal.str (escS x++Lib.joinTail [44] []));simp[Lib.joinTail]
  ·intro k hk;have hq1:=hq k;have hx1:=hx (1+k);have hgl:(x::r).getD (1+k) []=r.getD k []:=by rw[Nat.add_comm];rfl
   repeat' (first|(conv=>whnf);first|refine .w ?_|refine .v ?_|refine bu ?_ ?_<;>(intro hb;try exact dd hb)|apply au|apply aM|(apply a6<;>intro hb)|(apply ba;intro hbd)|(apply aJ;exact hE _)|(apply ax (i:=0) rfl;exact hE _)|(apply bc;intro bl)|(apply bh;intro va vk vc hva)|(apply bg;intro v)|(apply bj;intro bl cap hcap)|apply bx|(apply bf<;>intro hnx)|apply ct mixed hC hGL (by kernel_rfl)|(apply cq;assumption;exact hE _;exact rfl)|(show Rt _ _ _;exact a7)|fail)
   all_goals try conv=>whnf
   ·have hb2:((k:Nat):Int)<((r.length:Nat):Int):=hb;have hlt:k<r.length:=by omega
    refine db (k+1) ?_ ?_ ⟨?_,rfl,rfl,rfl,trivial⟩ rfl
    ·exact hlt
    ·show r.length-(k+1)<r.length-k;omega
    ·show some (AVal.str (escS x++Lib.joinTail [44] ((r.map escS).take k)++([44]++escS ((x::r).getD (1+k) []))))=some (AVal.str (escS x++Lib.joinTail [44] ((r.map escS).take (k+1))));rw[Lib.joinTail_take_succ [44] (r.map escS) k (escS (r.getD k [])) (by rw[List.getElem?_map,List.getD_eq_getElem?_getD,List.getElem?_eq_getElem hlt];rfl),hgl];simp only[List.append_assoc]
   ·have hb2:((r.length:Nat):Int)<=((k:Nat):Int):=hb;apply aj;unfold joinT;rw[List.take_of_length_le (by rw[List.length_map];omega),List.map_cons,Lib.join_cons];rfl
end
section
attribute [local irreducible] bI ap aa az aW ab ad
attribute [local irreducible] escF escS joinT ns
theorem uh:ns []= .errno 8:=by unfold ns;rw[if_pos rfl]
theorem rD {l:List (List UInt8)}(h:l≠[]):ns l= .none:=by unfold ns;rw[if_neg h]
theorem qr {G:Glo}(L:List (List (List UInt8)))(hs:Small L):an prog G 149 [.list 1 L.length (bF L)] (.tuple [.str (eC L),(fd L).A]):=by
 have hJ:=λk=>DE (G:=G) (L.getD k []) (hs.k k).1 (hs.k k).2;have hn:=hs.n;by_cases h0:L=[]
 ·subst h0;refine aw func149 call149 λC hC hGL=> ?_;exact bK
 ·have h00:L.length≠0:=λh=>h0 (List.eq_nil_of_length_eq_zero h);refine aw func149 call149 λC hC hGL=> ?_;refine aZ ?_;intros;refine kK 4 1 rfl ?_;refine lp hC hGL (λ(y:List (List UInt8)×Value)=>[(4,.own 0 y.2),(13,.list 1 L.length (bF L)),(14,.int .i64 (L.length:Nat)),(15,.int .i64 (y.1.length:Nat))]) (λy=>[.row y.2 none 1 y.1.length (aY y.1)]) (λy=>y.1.length<=cX L/\y.1=(L.map joinT).take y.1.length) (λy=>L.length-y.1.length) ([],.slice none 0 0) ?_ ai rfl ?_
  ·exact⟨Nat.zero_le _,rfl⟩
  ·rintro⟨ps,v⟩ ⟨h1,h2⟩;have h1:ps.length<=cX L:=h1;have h2:ps=(L.map joinT).take ps.length:=h2;have h3:=nl L;by_cases hlt:ps.length<L.length
   ·have hJ1:=hJ ps.length;by_cases hnil:L.getD ps.length []=[]
    ·have hk:=oC hlt h1 hnil;rw[show ns (L.getD ps.length [])= .errno 8 by rw[hnil];exact uh] at hJ1;refine aZ ?_;intros;apply aj;unfold eC fd;rw[if_pos (by omega),if_neg h0,if_pos (by omega),hk];rfl
    ·rw[rD hnil] at hJ1;repeat' (first|(conv=>whnf);first|refine .w ?_|refine .v ?_|refine bu ?_ ?_<;>(intro hb;try exact dd hb)|apply au|apply aM|(apply a6<;>intro hb)|(apply ba;intro hbd)|(apply aJ;exact hJ1)|(apply ax (i:=0) rfl;exact hJ1)|(apply bc;intro bl)|(apply bh;intro va vk vc hva)|(apply bg;intro v)|(apply bj;intro bl cap hcap)|apply bx|(apply bf<;>intro hnx)|apply ct mixed hC hGL (by kernel_rfl)|(apply cq;assumption;exact hJ1;exact rfl)|(show Rt _ _ _;exact a7)|fail)
     all_goals try conv=>whnf
     have hm:=mB hlt h1 hnil;refine db (ps++[joinT (L.getD ps.length [])],.slice va vk vc) ?_ ?_ ⟨rfl,rfl,rfl,?_,trivial⟩ ?_
     ·refine⟨?_,?_⟩
      ·show(ps++[joinT (L.getD ps.length [])]).length<=cX L;rw[List.length_append,List.length_singleton];exact hm
      ·show ps++[joinT (L.getD ps.length [])]=(L.map joinT).take (ps++[joinT (L.getD ps.length [])]).length;rw[List.length_append,List.length_singleton,ki hlt,<-h2]
     ·show L.length-(ps++[joinT (L.getD ps.length [])]).length<L.length-ps.length;rw[List.length_append,List.length_singleton];omega
     ·show some (AVal.int .i64 (((ps.length:Nat):Int)+1))=some (AVal.int .i64 ((ps++[joinT (L.getD ps.length [])]).length:Nat));rw[List.length_append];rfl
     ·dsimp only
      rw[<-cM,List.length_append];rfl
   ·refine aZ ?_;intros;have h5:cX L=L.length:=by omega
    have h4:ps=L.map joinT:=by rw[h2,List.take_of_length_le (by rw[List.length_map];omega)]
    subst h4;refine ax (i:=0) rfl (cd (L.map joinT) [59] v (by omega) (qw hs)) ?_;refine aZ ?_;intros;apply aj;unfold eC fd;rw[if_neg (by omega),if_neg h0,if_neg (by omega)];rfl
theorem sQ {G:Glo}(L:List (List (List UInt8)))(hs:Small L):an prog G 79 [.list 1 L.length (bF L)] (.tuple [.str (eC L),.agg [.int .i64 (fd L).e,.int .i64 (fd L).p]]):=by
 have hJ:=λk=>Gv (G:=G) (L.getD k []) (hs.k k).1 (hs.k k).2;have hn:=hs.n;have hb8:=kA (G:=G) 8;have hg:=i7 (G:=G);by_cases h0:L=[]
 ·subst h0;refine aw func79 call79 λC hC hGL=> ?_;exact bK
 ·have h00:L.length≠0:=λh=>h0 (List.eq_nil_of_length_eq_zero h);refine aw func79 call79 λC hC hGL=> ?_;refine aZ ?_;intro bl;intros;refine kK 4 1 rfl ?_;refine lp hC hGL (λ(y:List (List UInt8)×Value)=>[(0,.list 1 L.length (bF L)),(3,.own 0 (pv bl 0)),(4,.own 1 y.2),(13,.int .i64 (L.length:Nat)),(14,.int .i64 (y.1.length:Nat))]) (λy=>[.cells bl (some 59) [.int .i64 0,.int .i64 0],.row y.2 none 1 y.1.length (aY y.1)]) (λy=>y.1.length<=cX L/\y.1=(L.map joinT).take y.1.length) (λy=>L.length-y.1.length) ([],.slice none 0 0) ?_ ai rfl ?_
  ·exact⟨Nat.zero_le _,rfl⟩
  ·rintro⟨ps,v⟩ ⟨h1,h2⟩;have h1:ps.length<=cX L:=h1;have h2:ps=(L.map joinT).take ps.length:=h2;have h3:=nl L;by_cases hlt:ps.length<L.length
   ·have hJ1:=hJ ps.length;by_cases hnil:L.getD ps.length []=[]
    ·have hk:=oC hlt h1 hnil;rw[show ns (L.getD ps.length [])= .errno 8 by rw[hnil];exact uh] at hJ1;have hJ1:an prog G 132 [.list 1 (L.getD ps.length []).length (aE (L.getD ps.length []))] (.tuple [.str (joinT (L.getD ps.length [])),.int .i64 8]):=hJ1;refine aZ ?_;intros;apply aj;unfold eC fd;rw[if_pos (by omega),if_neg h0,if_pos (by omega),hk];rfl
    ·rw[rD hnil] at hJ1;have hJ1:an prog G 132 [.list 1 (L.getD ps.length []).length (aE (L.getD ps.length []))] (.tuple [.str (joinT (L.getD ps.length [])),.int .i64 0]):=hJ1;repeat' (first|(conv=>whnf);first|refine .w ?_|refine .v ?_|refine bu ?_ ?_<;>(intro hb;try exact dd hb)|apply au|apply aM|(apply a6<;>intro hb)|(apply ba;intro hbd)|(apply aJ;exact hJ1)|(apply ax (i:=0) rfl;exact hJ1)|(apply bc;intro bl)|(apply bh;intro va vk vc hva)|(apply bg;intro v)|(apply bj;intro bl cap hcap)|apply bx|(apply bf<;>intro hnx)|apply ct mixed hC hGL (by kernel_rfl)|(apply cq;assumption;exact hJ1;exact rfl)|(show Rt _ _ _;exact a7)|fail)
     all_goals try conv=>whnf
     have hm:=mB hlt h1 hnil;refine db (ps++[joinT (L.getD ps.length [])],.slice va vk vc) ?_ ?_ ⟨rfl,rfl,rfl,rfl,?_,trivial⟩ ?_
     ·refine⟨?_,?_⟩
      ·show(ps++[joinT (L.getD ps.length [])]).length<=cX L;rw[List.length_append,List.length_singleton];exact hm
      ·show ps++[joinT (L.getD ps.length [])]=(L.map joinT).take (ps++[joinT (L.getD ps.length [])]).length;rw[List.length_append,List.length_singleton,ki hlt,<-h2]
     ·show L.length-(ps++[joinT (L.getD ps.length [])]).length<L.length-ps.length;rw[List.length_append,List.length_singleton];omega
     ·show some (AVal.int .i64 (((ps.length:Nat):Int)+1))=some (AVal.int .i64 ((ps++[joinT (L.getD ps.length [])]).length:Nat));rw[List.length_append];rfl
     ·dsimp only
      rw[<-cM,List.length_append];rfl
   ·refine aZ ?_;intros;have h5:cX L=L.length:=by omega
    have h4:ps=L.map joinT:=by rw[h2,List.take_of_length_le (by rw[List.length_map];omega)]
    subst h4;refine ax (i:=1) rfl (cd (L.map joinT) [59] v (by omega) (qw hs)) ?_;refine aZ ?_;intros;apply aj;unfold eC fd;rw[if_neg (by omega),if_neg h0,if_neg (by omega)];rfl
end
section
attribute [local irreducible] bI ap aa az aW ab ad
attribute [local irreducible] ao cD Pr.fit Ln.E Ln.T Vl.E Vl.T eK bO E2
theorem zx {G:Glo}(s:List UInt8)(hs:s.length<=1000000):an prog G 86 [.str s] (.bool (Db s)):=by
 have h1:=dW (G:=G) s (by omega);unfold Db;generalize ao 97 122 (-32) s=u at*
 refine aw func86 call86 λC hC hGL=> ?_;refine xw ?_;repeat' first|exact .n|apply Lc.mk
 all_goals intros
 all_goals
  apply aj;refine congrArg AVal.bool ?_;rw[Bool.eq_iff_iff];simp only[Bool.or_eq_true,dE];simp[*]
theorem FE {G:Glo}{m:Int}(hE:ab G errTy)(hM:ab G (cw m))(x:Vl)(hs:x.s.length<=10000)(hL:Small x.L)(hv:x.OK):an prog G 92 [x.A] (.tuple [.str x.T,x.E.A]):=
 w7 x (oT hE hM x hv) (oV x.s (by omega) (lJ _)) (qr x.L hL) (zZ hM x.st)
theorem uF {G:Glo}{m:Int}(hE:ab G errTy)(hM:ab G (cw m))(v:Int)(x:Itm)(hx:x.OK 10000):an prog G 39 [ij x,.int .i64 v] (.tuple [x.ln.A,x.2.E.A]):=by
 have h1:=FE hE hM x.2 hx.s hx.L hx.v;generalize x.2.E=e at*
 unfold Vl.A at h1;rcases e with _|e|⟨e,p⟩
 ·simp only[Err.A] at h1 ⊢;refine aw func39 call39 λC hC hGL=> ?_;exact bK
 ·simp only[Err.A,kS] at h1 ⊢;refine aw func39 call39 λC hC hGL=> ?_;exact bK
 ·simp only[Err.A,K7] at h1 ⊢;refine aw func39 call39 λC hC hGL=> ?_;exact bK
theorem Id {G:Glo}{m:Int}(hE:ab G errTy)(hE2:mn G)(hP:ew G)(hM:ab G (cw m))(hS:kb G)(v:Int)(hv:v=3\/v=4)(x:Itm)(hx:x.OK 10000):an prog G 38 [ij x,.int .i64 v] (.int .i64 (x.w v)):=by
 have q1:=call41;have q2:=call85;have q3:=call40;have hc:=pm (G:=G) v;have h1:=rn (G:=G) x.p (cY v 4) hx.p.fit;have h4:=sq (G:=G) hE (x.p.E (cY v 4));have hn:x.1.n.length<=10000:=hx.p.n;have hps:x.1.ps.length<=10000:=hx.p.ps;have hq:∀k,(x.1.ps.getD k Pr.z).n.length<=1100000/\(x.1.ps.getD k Pr.z).vs.length<=10000/\Lib.lens (x.1.ps.getD k Pr.z).vs<=10000:=hx.p.q;have hvl:∀k j,((x.1.ps.getD k Pr.z).vs.getD j []).length<=10000:=λk j=>by
  have:=cR (l:=(x.1.ps.getD k Pr.z).vs) (k:=j);have:=(hq k).2.2;omega
 have hF:=zx (G:=G) x.1.n (by omega);have hve:fK v= .none:=by unfold fK;rw[if_pos hv]
 have hT:=qF (G:=G) hS v x.1.n x.1.ps (by omega) (by omega) (λk=>by have:=(hq k).1;omega) (λk=>⟨by have:=(hq k).2.1;omega,by have:=hvl k 0;omega⟩);have hV:=oT hE hM x.2 hx.v;have h5:=sq (G:=G) hE x.2.E;have hR:=yd (G:=G) hS v x.1.n (by omega);have hpr:=uF (G:=G) hE hM v x hx;have hLP:=ro (G:=G) x.ln (cY v 4) (Itm.fit hx);have hw:∀(_:x.p.E (cY v 4)= .none) (_:Db x.1.n=false),(kG x.1.ps≠0->x.w v=kG x.1.ps)/\(kG x.1.ps=0->(x.k v≠x.2.t->x.w v=1)/\(x.k v=x.2.t->(x.2.E≠ .none->x.w v=x.2.E.e)/\(x.2.E= .none->x.w v=x.r v))):=λa b=>⟨Fz a b,λc=>⟨FA a b c,λd=>⟨KH a b c d,w_r a b c d⟩⟩⟩;have hwl:=λa=>IV (v:=v) (x:=x) a;have hwf:=λa b=>Lj (v:=v) (x:=x) a b;have hln:x.2.E= .none->x.p.E (cY v 4)= .none->x.ln.E (cY v 4)= .none:=λ_ b=>Ln.E_v (p:=x.ln) b (Vl.T_hd _);rw[hve] at hT hR;generalize x.w v=W at*
 unfold Itm.r Itm.L at hw;unfold Itm.k at hw;obtain⟨⟨g,n,ps,vv⟩,u⟩:=x;unfold ij at hpr ⊢;unfold Vl.A at hV;unfold Itm.p at h1 h4 hw hwl hwf hln;unfold Itm.ln at hpr hLP hln hw;dsimp only at*
 generalize Ln.E (cY v 4) ⟨g,n,ps,u.T⟩=eL at*
 generalize Ln.T (cY v 4) ⟨g,n,ps,u.T⟩=tL at*
 generalize eK v n ps=K at*
 generalize bO v n=r at*
 unfold Rl.A at hR;obtain⟨r0,r1,r2,r3⟩:=r;dsimp only at*
 generalize u.E=eV at*
 generalize u.T=tV at*
 generalize hE0:Ln.E (cY v 4) ⟨g,n,ps,[]⟩=e0 at*
 rcases e0 with _|e|⟨e,p⟩
 ·simp only[Err.A] at h1;cases hfr:Db n with
  |true=>
   rw[hwf rfl hfr];rw[hfr] at hF;refine aw func38 call38 λC hC hGL=> ?_;exact bK
  |false=>
   rw[hfr] at hF;have hw:=hw rfl hfr;refine aw func38 call38 λC hC hGL=> ?_;refine aZ ?_;intros;refine lp hC hGL (λk:Nat=>[(1,.int .i64 v),(2,.rop (bR (⟨g,n,ps,vv⟩,u)) 0),(35,.list 2 ps.length (dM ps)),(36,.int .i64 (ps.length:Nat)),(37,.int .i64 (k:Nat))]) (λ_=>[]) (λk=>k<=ps.length/\∀j,j<k->pE ps j=0) (λk=>ps.length-k) 0 ⟨Nat.zero_le _,λj h=>absurd h (Nat.not_lt_zero _)⟩ ai rfl ?_;rintro k ⟨k1,k2⟩;by_cases hk:k<ps.length
   ·have hqk:=hq k;have hfi:=AI hE2 hP hM (ps.getD k Pr.z) (by omega) (by omega) (λj=>by have:=hvl k j;omega);have hsa:=tT (G:=G) (ps.getD k Pr.z).n nTYP (by omega) (by decide);rw[show ao 97 122 (-32) nTYP=nTYP by decide+kernel] at hsa;have hfd:=qG (G:=G) ps (ps.getD k Pr.z).n (by omega) (λk=>by have:=(hq k).1;omega) (by omega);cases hf:(ps.getD k Pr.z).fit with
    |false=>
     rw[hf] at hfi;have e:=L6 hf;rw[hw.1 (by rw[ig hk k2 (by rw[e];decide),e];decide),ig hk k2 (by rw[e];decide),e];exact bK
    |true=>
     rw[hf] at hfi;cases hty:ca (ao 97 122 (-32) (ps.getD k Pr.z).n) nTYP with
     |true=>
      rw[hty] at hsa;have e:=L7 hf (λh=>h.1 (dE.1 hty));refine aZ ?_;intros;exact eg (k+1) ⟨by omega,dl k2 e⟩ (by omega) ai aH
     |false=>
      rw[hty] at hsa;by_cases hd:cD (ps.getD k Pr.z).n ps 0<(k:Int)
      ·have e:=NF hf (kq.1 hty) hd;rw[hw.1 (by rw[ig hk k2 (by rw[e];decide),e];decide),ig hk k2 (by rw[e];decide),e];exact bK
      ·have e:=L7 hf (λh=>hd h.2);refine aZ ?_;intros;exact eg (k+1) ⟨by omega,dl k2 e⟩ (by omega) ai aH
   ·have hw:=hw.2 (GE (by omega) k2);by_cases hK:K=u.t
    ·have hw:=hw.2 hK;rcases eV with _|e|⟨e,p⟩
     ·have hw:=hw.2 rfl;have hln:=hln rfl rfl;subst hln;simp only[Err.A] at hV hpr hLP;subst hw;obtain rfl:=hK;by_cases ha:u.t=3/\0<r3/\r3≠(u.L.length:Int)
      ·rw[if_pos ha];obtain⟨a1,a2,a3⟩:=ha;have a4:(u.L.length:Int)≠r3:=λh=>a3 h.symm;exact bK
      ·rw[if_neg ha];by_cases a1:u.t=3
       ·by_cases a2:0<r3
        ·have a3:(u.L.length:Int)=r3:=by
          apply Classical.byContradiction;intro h;exact ha ⟨a1,a2,λk=>h k.symm⟩
         by_cases hl:1500<tL.length
         ·rw[if_pos hl];refine aT ?_;intros;rename_i b11 b13 _ _ _ _ _;refine pi (bZ (i:=1) (k:=13) rfl rfl) ?_;refine dz mixed hC hGL false (λ_:Unit=>[(15,.str tL)]) (λ_=>[.cells b11 (some 66) [.int .i64 r0,.int .i64 r1,.int .i64 r2,.int .i64 r3],iC]) .p0 (by kernel_rfl) xu ?_;intro _;exact bK
         ·rw[if_neg hl];refine aT ?_;intros;rename_i b11 b13 _ _ _ _ _;refine pi (bZ (i:=1) (k:=13) rfl rfl) ?_;refine dz mixed hC hGL false (λ_:Unit=>[(15,.str tL)]) (λ_=>[.cells b11 (some 66) [.int .i64 r0,.int .i64 r1,.int .i64 r2,.int .i64 r3],iC]) .p0 (by kernel_rfl) xu ?_;intro _;exact bK
        ·have a2':¬0<r3:=a2;by_cases hl:1500<tL.length
         ·rw[if_pos hl];refine aT ?_;intros;rename_i b11 b13 _ _ _ _;refine pi (bZ (i:=1) (k:=13) rfl rfl) ?_;refine dz mixed hC hGL false (λ_:Unit=>[(15,.str tL)]) (λ_=>[.cells b11 (some 66) [.int .i64 r0,.int .i64 r1,.int .i64 r2,.int .i64 r3],iC]) .p0 (by kernel_rfl) xu ?_;intro _;exact bK
         ·rw[if_neg hl];refine aT ?_;intros;rename_i b11 b13 _ _ _ _;refine pi (bZ (i:=1) (k:=13) rfl rfl) ?_;refine dz mixed hC hGL false (λ_:Unit=>[(15,.str tL)]) (λ_=>[.cells b11 (some 66) [.int .i64 r0,.int .i64 r1,.int .i64 r2,.int .i64 r3],iC]) .p0 (by kernel_rfl) xu ?_;intro _;exact bK
       ·by_cases hl:1500<tL.length
        ·rw[if_pos hl];refine aT ?_;intros;rename_i b11 b13 _ _ _;refine pi (bZ (i:=1) (k:=13) rfl rfl) ?_;refine dz mixed hC hGL false (λ_:Unit=>[(15,.str tL)]) (λ_=>[.cells b11 (some 66) [.int .i64 r0,.int .i64 r1,.int .i64 r2,.int .i64 r3],iC]) .p0 (by kernel_rfl) xu ?_;intro _;exact bK
        ·rw[if_neg hl];refine aT ?_;intros;rename_i b11 b13 _ _ _;refine pi (bZ (i:=1) (k:=13) rfl rfl) ?_;refine dz mixed hC hGL false (λ_:Unit=>[(15,.str tL)]) (λ_=>[.cells b11 (some 66) [.int .i64 r0,.int .i64 r1,.int .i64 r2,.int .i64 r3],iC]) .p0 (by kernel_rfl) xu ?_;intro _;exact bK
     ·rw[hw.1 (λh=>by cases h)];simp only[Err.A,Err.e,kS] at hV h5 ⊢;exact bK
     ·rw[hw.1 (λh=>by cases h)];simp only[Err.A,Err.e,K7] at hV h5 ⊢;exact bK
    ·rw[hw.1 hK];exact bK
 ·rw[hwl (λh=>by cases h)];simp only[Err.A,Err.e,kS] at h1 h4 ⊢;refine aw func38 call38 λC hC hGL=> ?_;exact bK
 ·rw[hwl (λh=>by cases h)];simp only[Err.A,Err.e,K7] at h1 h4 ⊢;refine aw func38 call38 λC hC hGL=> ?_;refine aT ?_;intros;refine dz mixed hC hGL false (λ_:Unit=>[(5,K7 e p)]) (λ_=>[]) (.t 0 (.t 1 (.t 2 (.t 3 (.t 4 (.t 5 (.t 6 (.t 7 (.b 8 (.b 9 (.t 10 .done))))))))))) (by kernel_rfl) xu ?_;intro _;exact bK
end
section
attribute [local irreducible] bI ap aa az aW ab ad
attribute [local irreducible] ao bO E2 ri Itm.w GW OB
theorem uG {G:Glo}{m:Int}(hE:ab G errTy)(hE2:mn G)(hP:ew G)(hM:ab G (cw m))(hS:kb G)(v:Int)(x:Itm)(hx:x.OK 10000):an prog G 14 [ij x,.int .i64 v] (.tuple [.str (x.lT v),(x.lE v).A]):=by
 have q1:=call41;have q3:=call40;have hc:=pm (G:=G) v;have hpr:=uF (G:=G) hE hM v x hx;have hLP:=ro (G:=G) x.ln (cY v 4) (Itm.fit hx);have ho:∀_:v=3\/v=4,an prog G 38 [ij x,.int .i64 v] (.int .i64 (x.w v)):=λhv=>Id hE hE2 hP hM hS v hv x hx;have h2:=Li (v:=v) (x:=x);have h3:=w_E (v:=v) (x:=x);unfold Itm.lT Itm.lE Itm.L;unfold Ln.A at hpr hLP;unfold ij at hpr ho ⊢;obtain⟨⟨g,n,ps,vv⟩,u⟩:=x;unfold Itm.ln at hpr hLP h2 ⊢;dsimp only at*
 generalize Itm.w v _=W at*
 generalize Ln.E (cY v 4) ⟨g,n,ps,u.T⟩=eL at*
 generalize Ln.T (cY v 4) ⟨g,n,ps,u.T⟩=tL at*
 generalize u.E=eV at*
 generalize u.T=tV at*
 by_cases hv:v=3\/v=4
 ·have ho:=ho hv;rw[if_pos hv,if_pos hv];by_cases hw:W=0
  ·subst hw;obtain rfl:=h2 rfl;obtain rfl:=h3 rfl;simp only[if_true,Err.A] at*
   have key:∀_:v=3\/v=4,an prog G 14 [ij (⟨g,n,ps,vv⟩,u),.int .i64 v] (.tuple [.str tL,.raw .nilIface]):=by
    intro hv;unfold ij;refine aw func14 call14 λC hC hGL=> ?_;rcases hv with e3|e3
    ·refine aT ?_;intros;refine pi (bZ (i:=0) (k:=7) rfl rfl) ?_;refine dz mixed hC hGL false (λ_:Unit=>[(4,.str tL),(5,.raw .nilIface)]) (λ_=>[iC]) .p6 (by kernel_rfl) xu ?_;intro _;exact bK
    ·have e4:v≠3:=by omega
     refine aT ?_;intros;refine pi (bZ (i:=0) (k:=7) rfl rfl) ?_;refine dz mixed hC hGL false (λ_:Unit=>[(4,.str tL),(5,.raw .nilIface)]) (λ_=>[iC]) .p6 (by kernel_rfl) xu ?_;intro _;exact bK
   exact key hv
  ·rw[if_neg hw,if_neg hw];simp only[Err.A,kS];refine aw func14 call14 λC hC hGL=> ?_;rcases hv with rfl|rfl<;>exact bK
 ·rw[if_neg hv,if_neg hv];simp only[Err.A,kS];have hv1:v≠3:=λh=>hv (.inl h);have hv2:v≠4:=λh=>hv (.inr h);refine aw func14 call14 λC hC hGL=> ?_;exact bK
end
section
abbrev ke (b:Nat):Value:=.pointer (some ⟨b,0,none⟩)
abbrev cr:AVal:=.raw (.slice none 0 0)
abbrev vY (x:Itm)(q1 q2:AVal):List AVal:=[.str x.1.g,.str x.1.n,q1,.int .i64 x.2.t,.str x.2.s,q2,.int .i64 x.2.st.y,.int .i64 x.2.st.m,.int .i64 x.2.st.d,.int .i64 x.2.st.h,.int .i64 x.2.st.i,.int .i64 x.2.st.s,.bool x.2.st.z,.int .i64 x.2.st.o,.int .i64 x.2.n]
abbrev ep (b:Nat)(x:Itm)(q1 q2:AVal):HEnt:=.cells b (some 29) (vY x q1 q2)
def kB (L:List (List (List UInt8))):List AVal:=L.map λl=>.list 1 l.length (aE l)
theorem Ek (L:List (List (List UInt8)))(l:List (List UInt8)):kB L++[.list 1 l.length (aE l)]=kB (L++[l]):=by simp[kB]
theorem Jq (L:List (List (List UInt8))):∀i,i<L.length->(bF L i).cells=((kB L).drop (i*1)).take 1/\(bF L i).plain=true:=by
 intro i hi;have hl:i<(kB L).length:=by simpa[kB] using hi
 refine⟨?_,rfl⟩;rw[Nat.mul_one,List.drop_eq_getElem_cons hl];simp[bF,AVal.cells,kB,List.getD,hi]
def Itm.canR (v:Int)(x:Itm):Itm:=if v=3\/v=4 then if x.w v=0 then x.can v else Itm.z else Itm.z
theorem Mo {E:AVal}{r:cK}{H:Heap}(h:r= .ret (.tuple [.agg (vY Itm.z cr cr),E])/\H=[]):zV r H (.tuple [ij Itm.z,E]):=by
 obtain⟨rfl,rfl⟩:=h;rintro C R w e hm ⟨y,rfl,hx⟩;exact⟨R,hm,y,rfl,tr (Seal.le_refl R) hx λu hu=>k8 (p:=5) (a':=.list 1 0 (bF [])) (Seal.le_refl R) (k8 (p:=2) (a':=.list 2 0 (dM [])) (Seal.le_refl R) hu rfl λ_=>nk) rfl λ_=>nk⟩
theorem EF {x:Itm}{E:AVal}{r:cK}{H:Heap}(h:∃i u,r= .ret (.tuple [.agg (vY x (.list 2 x.1.ps.length (dM x.1.ps)) (.own i u)),E])/\H=[.row u none 1 x.2.L.length (kB x.2.L)]):zV r H (.tuple [ij x,E]):=by
 obtain⟨i,u,rfl,rfl⟩:=h;rintro C R w e hm ⟨y,rfl,hx⟩;obtain⟨R2,hle,hm2,hr⟩:=hm.seal_row (Jq x.2.L);exact⟨R2,hm2,y,rfl,tr hle hx λu hu=>k8 (p:=5) (a':=.list 1 x.2.L.length (bF x.2.L)) hle hu rfl λ_=>dx hr⟩
attribute [local irreducible] bI ap aa az aW ab ad
attribute [local irreducible] da aY cO eS bN a8 ao ii jV bO eK kB
theorem zA {G:Glo}{m:Int}(hE:ab G errTy)(hE2:mn G)(hP:ew G)(hM:ab G (cw m))(hS:kb G)(v:Int)(x:Itm)(hx:x.OK 10000)(e:Int)(he:x.lE v= .errno e):ad prog G 6 [ij x,.int .i64 v] [] (λr H=>r= .ret (.tuple [.agg (vY Itm.z cr cr),kS e])/\H=[]):=by
 have hl:=uG hE hE2 hP hM hS v x hx;rw[he] at hl;simp only[Err.A] at hl;unfold kS at*
 generalize x.lT v=t at*
 unfold ij at*
 refine aw func6 call6 λC hC hGL=> ?_;exact ez
theorem zz {G:Glo}{m:Int}(hE:ab G errTy)(hE2:mn G)(hP:ew G)(hM:ab G (cw m))(hS:kb G)(v:Int)(hv:v=3\/v=4)(x:Itm)(hx:x.OK 10000)(hw:x.w v=0):ad prog G 6 [ij x,.int .i64 v] [] (λr H=>∃i u,r= .ret (.tuple [.agg (vY (x.can v) (.list 2 (x.can v).1.ps.length (dM (x.can v).1.ps)) (.own i u)),.raw .nilIface])/\H=[.row u none 1 (x.can v).2.L.length (kB (x.can v).2.L)]):=by
 have hl:=uG hE hE2 hP hM hS v x hx;rw[show x.lE v= .none by unfold Itm.lE;rw[if_pos hv,if_pos hw]] at hl;simp only[Err.A] at hl;have hp:=wA hM hS v hv x hx hw;have hgl:=hx.p.g;have hnl:=hx.p.n;have hlo:=jH (G:=G) x.1.g (by have:x.1.g.length<=10000:=hgl;omega);have hup:=dW (G:=G) x.1.n (by have:x.1.n.length<=10000:=hnl;omega);have hlc:=rt (G:=G) hM x.2.s hx.s;have hcn:=λk=>uZ (G:=G) (x.2.L.getD k []) (hx.L.k k).1;have hLn:=hx.L.n;unfold Itm.can;dsimp only
 generalize cO (kX x.2.t (bO v x.1.n).t x.1.ps)=PS at*
 generalize x.lT v=t at*
 unfold ij at*
 refine jZ func6 call6 λC hC hGL=> ?_;refine ka hC hGL (λb:Nat=>[(1,.int .i64 v),(2,.rop (bR x) 0),(4,.own 0 (ke b)),(5,.raw .nilIface)]) (λb=>[ep b Itm.z cr cr]) (λ_=>True) ?_ ?_
 ·refine aT ?_;intro b;intros;exact cy b trivial
 intro b4 _;refine cut hC hGL [(1,.int .i64 v),(2,.rop (bR x) 0),(4,.own 0 (ke b4)),(5,.raw .nilIface)] [ep b4 Itm.z cr cr] True ez λ_=> ?_;refine ka hC hGL (λb:Nat=>[(2,.rop (bR x) 0),(4,.own 0 (ke b4)),(5,.raw .nilIface),(8,.own 1 (ke b))]) (λb=>[ep b4 Itm.z cr cr,ep b (⟨lowS x.1.g,ix x.1.n,[],[]⟩,x.2) (.list 2 PS.length (dM PS)) (.list 1 x.2.L.length (bF x.2.L))]) (λ_=>True) ?_ ?_
 ·refine aT ?_;refine dz mixed hC hGL false (λb:Nat=>[(2,.rop (bR x) 0),(4,.own 0 (ke b4)),(5,.raw .nilIface),(8,.own 1 (ke b))]) (λb=>[ep b4 Itm.z cr cr,ep b (⟨lowS x.1.g,ix x.1.n,[],[]⟩,x.2) (.list 2 PS.length (dM PS)) (.list 1 x.2.L.length (bF x.2.L))]) (.t 0 (.t 1 (.t 3 (.t 4 (.t 6 (.t 7 (.t 9 (.t 10 (.br 2 (.br 5 (.br 8 (.t 11 (.b 12 (.b 13 .done))) (.b 12 (.b 8 (.t 11 (.b 13 .done))))) (.b 12 (.b 5 (.b 8 (.t 11 (.b 13 .done)))))) (.b 12 (.b 2 (.b 5 (.b 8 (.t 11 (.b 13 .done))))))))))))))) (by kernel_rfl) xu ?_;intro b;exact cy b trivial
 intro b8 _;refine cut hC hGL [(2,.rop (bR x) 0),(4,.own 0 (ke b4)),(5,.raw .nilIface),(8,.own 1 (ke b8))] [ep b4 Itm.z cr cr,ep b8 (⟨lowS x.1.g,ix x.1.n,[],[]⟩,x.2) (.list 2 PS.length (dM PS)) cr] True ez λ_=> ?_;refine ka hC hGL (λ_:Option Addr×Nat×Nat=>[(2,.rop (bR x) 0),(4,.own 0 (ke b4)),(5,.raw .nilIface),(8,.own 1 (ke b8))]) (λz=>[ep b4 Itm.z cr cr,ep b8 (⟨lowS x.1.g,ix x.1.n,[],[]⟩,x.2) (.list 2 PS.length (dM PS)) (.own 2 (.slice z.1 z.2.1 z.2.2)),.row (.slice z.1 z.2.1 z.2.2) none 1 x.2.L.length (kB x.2.L)]) (λ_=>True) ?_ ?_
 ·refine aT ?_;intros;refine KM (aX (xq 1) (Cl (i:=1) (p:=5) (x:=ep b8 (⟨lowS x.1.g,ix x.1.n,[],[]⟩,x.2) (.list 2 PS.length (dM PS)) cr) (a':=.own 2 (.slice none 0 0)) rfl (λR=>.cells rfl λ_=>CM))) ?_;refine lp hC hGL (λz:Nat×Option Addr×Nat×Nat=>[(2,.rop (bR x) 0),(4,.own 0 (ke b4)),(5,.raw .nilIface),(8,.own 1 (ke b8)),(37,.list 1 x.2.L.length (bF x.2.L)),(38,.int .i64 (x.2.L.length:Nat)),(39,.int .i64 (z.1:Nat))]) (λz=>[ep b4 Itm.z cr cr,ep b8 (⟨lowS x.1.g,ix x.1.n,[],[]⟩,x.2) (.list 2 PS.length (dM PS)) (.own 2 (.slice z.2.1 z.2.2.1 z.2.2.2)),.row (.slice z.2.1 z.2.2.1 z.2.2.2) none 1 z.1 (kB (x.2.L.take z.1))]) (λz=>z.1<=x.2.L.length) (λz=>x.2.L.length-z.1) (0,none,0,0) (Nat.zero_le _) ai (by rw[show x.2.L.take 0=[] from rfl];unfold kB;rfl) ?_;rintro⟨k,ua,uk,uc⟩ k1;have k1:k<=x.2.L.length:=k1;dsimp only
  by_cases hk:k<x.2.L.length
  ·have hcn:=hcn k;have hs:kB (x.2.L.take (k+1))=kB (x.2.L.take k)++[.list 1 (x.2.L.getD k []).length (aE (x.2.L.getD k []))]:=by
    rw[List.take_succ_eq_append_getElem hk,Ek,List.getD_eq_getElem?_getD,List.getElem?_eq_getElem hk];rfl
   refine aT ?_;intros;refine dz mixed hC hGL false (λ_:Option Addr×Nat×Nat=>[(2,.rop (bR x) 0),(4,.own 0 (ke b4)),(5,.raw .nilIface),(8,.own 1 (ke b8)),(37,.list 1 x.2.L.length (bF x.2.L)),(38,.int .i64 (x.2.L.length:Nat)),(39,.int .i64 (k:Nat))]) (λz=>[ep b4 Itm.z cr cr,ep b8 (⟨lowS x.1.g,ix x.1.n,[],[]⟩,x.2) (.list 2 PS.length (dM PS)) (.own 2 (.slice z.1 z.2.1 z.2.2)),.row (.slice z.1 z.2.1 z.2.2) none 1 (k+1) (kB (x.2.L.take k)++[.list 1 (x.2.L.getD k []).length (aE (x.2.L.getD k []))])]) (.t 0 (.t 1 (.t 3 (.br 2 (.b 4 (.b 5 (.b 6 (.t 7 (.t 8 (.b 9 .done)))))) (.b 4 (.br 2 (.b 5 (.b 6 (.t 7 (.t 8 (.b 9 .done))))) (.b 5 (.b 2 (.b 6 (.t 7 (.t 8 (.b 9 .done)))))))))))) (by kernel_rfl) xu ?_;rintro⟨va,vk,vc⟩;dsimp only
   rw[<-hs];refine aT ?_;intros;exact eg (k+1,va,vk,vc) hk (by show _-(k+1)<_-k;omega) ai aH
  ·obtain rfl:k=x.2.L.length:=by omega
   rw[List.take_length];refine aT ?_;intros;exact cy (ua,uk,uc) trivial
 rintro⟨ua,uk,uc⟩-
 dsimp only
 refine cut hC hGL [(4,.own 0 (ke b4)),(5,.raw .nilIface),(8,.own 1 (ke b8))] [ep b4 Itm.z cr cr,ep b8 (⟨lowS x.1.g,ix x.1.n,[],[]⟩,{x.2 with s:=if x.2.t=7 then ii x.2.s else x.2.s}) (.list 2 PS.length (dM PS)) (.own 2 (.slice ua uk uc)),.row (.slice ua uk uc) none 1 x.2.L.length (kB x.2.L)] True ?_ λ_=> ?_
 ·by_cases h7:x.2.t=7
  ·rw[if_pos h7];exact ez
  ·rw[if_neg h7];exact ez
 refine aI hC hGL (aT ?_);exact⟨[_],List.Sublist.cons _ (List.Sublist.cons _ (List.Sublist.refl _)),2,_,rfl,rfl⟩
theorem BM {G:Glo}{m:Int}(hE:ab G errTy)(hE2:mn G)(hP:ew G)(hM:ab G (cw m))(hS:kb G)(v:Int)(x:Itm)(hx:x.OK 10000):an prog G 6 [ij x,.int .i64 v] (.tuple [ij (x.canR v),(x.lE v).A]):=by
 have hbad:∀e,x.lE v= .errno e->x.canR v=Itm.z->an prog G 6 [ij x,.int .i64 v] (.tuple [ij (x.canR v),(x.lE v).A]):=by
  intro e he hz;rw[he,hz];exact lC (zA hE hE2 hP hM hS v x hx e he) λ_ _ h=>Mo h
 by_cases hv:v=3\/v=4
 ·by_cases hw:x.w v=0
  ·rw[show x.lE v= .none by unfold Itm.lE;rw[if_pos hv,if_pos hw],show x.canR v=x.can v by unfold Itm.canR;rw[if_pos hv,if_pos hw]];exact lC (zz hE hE2 hP hM hS v hv x hx hw) λ_ _ h=>EF h
  ·exact hbad _ (by unfold Itm.lE;rw[if_pos hv,if_neg hw]) (by unfold Itm.canR;rw[if_pos hv,if_neg hw])
 ·exact hbad _ (by unfold Itm.lE;rw[if_neg hv]) (by unfold Itm.canR;rw[if_neg hv])
end
section
theorem oh {P:Program}{G:Glo}{fS fT:FuncId}{H H2:Heap}{tS:TypeId}{sl swapv:Value}{n:Int}{fn:Fn}{l1 l2:List AVal}{swap:AVal}(o1 o2:World->Obj)
  (hc:∀args w,(callFunc fS args).run P w= .ok (.enter fS args) w) (hcT:∀args w,(callFunc fT args).run P w= .ok (.enter fT args) w)
  (h:∀(la lb:Array Value) (w:World) (Q:World->Prop),Calls P fT #[.agg #[.func fn la lb,swapv],.int .i64 n] ((w.alloc (o1 w)).alloc (o2 w)) (λe w'=>e= .returned (.tuple #[])/\Q w')->Calls P fS #[.iface tS sl,.func fn la lb] w λe w'=>e= .returned (.tuple #[])/\Q w')
  (hsl:cm sl=false) (hsw:∀R,aV R swap [swapv])
  (hT:ad P G fT [.agg [.func fn l1 l2,swap],.int .i64 n] H (λr H'=>r= .ret (.tuple [])/\H'=H2)):
  ad P G fS [.iface tS (.raw sl),.func fn l1 l2] H (λr H'=>r= .ret (.tuple [])/\H'=H2):=by
 rintro R w args hG hm ⟨x1,t1,e1,hx1,x2,t2,e2,hx2,e5⟩;subst e5 e2;obtain⟨u1,hu1,hru1⟩:=aR hx1 rfl;obtain⟨la,lb,hu2,hru2⟩:=aR hx2 rfl;simp only[List.cons.injEq,and_true] at hu1 hu2;subst hu1 hu2;obtain rfl:=al.1 hru1;obtain rfl:=dN e1;have hb:Below w.heap.size w ((w.alloc (o1 w)).alloc (o2 w)):=((Below.refl _ w).alloc (Nat.le_refl _) (o1 w)).alloc (by rw[show(w.alloc (o1 w)).heap.size=w.heap.size+1 from Array.size_push ..];omega) (o2 w);have hm2:=hm.below hb;have ent:MS ⟨_,R,dk H,G,hG,[]⟩ R H ((w.alloc (o1 w)).alloc (o2 w)):=MS.enter (H1:=H) (H2:=[]) (by simpa using hm2);refine .inl ⟨hc _ w,?_⟩;rcases hT R _ #[.agg #[.func fn la lb,swapv],.int .i64 n] hG ent ⟨_,_,rfl,⟨⟨_,_,rfl,⟨_,_,rfl,hru2⟩,_,_,rfl,hsw R,rfl⟩,rfl⟩,_,_,rfl,am.2 rfl,rfl⟩ with⟨_,hcall⟩|⟨v,w',h1,_⟩
 ·have h3:Calls P fT #[.agg #[.func fn la lb,swapv],.int .i64 n] ((w.alloc (o1 w)).alloc (o2 w)) (λe w'=>e= .returned (.tuple #[])/\∃R',MS ⟨w,R,dk H,G,hG,[]⟩ R' H2 w'):=by
   refine hcall.mono ?_;rintro e w' ⟨res,H',R',⟨rfl,rfl⟩,⟨v,rfl,hv⟩,hms⟩;obtain⟨ws,hw,hrw⟩:=aR hv rfl;simp only[List.cons.injEq,and_true] at hw;subst hw;have hws:ws=#[]:=by
    have:ws.toList=[]:=hrw;simpa using this
   subst hws;refine⟨rfl,R',?_⟩;have:=MS.call (C:=⟨w,R,dk H,G,hG,[]⟩) (H1:=H) (H2:=[]) (by simpa using hm2) hms;simpa using this
  refine(h la lb w _ h3).mono ?_;rintro e w' ⟨rfl,R',hms⟩;exact⟨.ret (.tuple []),H2,R',⟨rfl,rfl⟩,⟨_,rfl,⟨_,rfl,rfl⟩,rfl⟩,hms⟩
 ·rw[hcT] at h1;cases h1
end
section
abbrev E6 (b2 b m cap:Nat):HEnt:=.cells b2 (some 22) [.own 1 (kg b m cap)]
theorem GB {L:List Pr}{i:Nat}(h:i<L.length):(da L)[i*2]? =some (.str (L.getD i Pr.z).n):=by
 have:=congrArg (λl:List AVal=>l[0]?) (qY h)
 simp only[List.getElem?_take_of_lt (show 0<2 by decide),List.getElem?_drop,Nat.add_zero] at this
 exact this
theorem Om {L:List Pr}{m cap b o i:Nat}{K:AVal->Prop}(ho:o=i*2)(hi:i<m)(hm:L.length=m)(k:K (.str (L.getD i Pr.z).n)):Sp (dL (kg b m cap) b m/\o<m*2) (Gt (da L) o K):=by
 subst ho;exact⟨⟨⟨_,rfl⟩,by omega⟩,nu (GB (by omega)) rfl k⟩
attribute [local irreducible] bI ap aa az aW ab ad
attribute [local irreducible] da cO
theorem Gp {G:Glo}(eT:Option TypeId)(b2 b m cap i j:Nat)(L:List Pr)(hm:L.length=m)(hi:i<m)(hj:j<m):
  ad prog G 27 [.int .i64 (i:Nat),.int .i64 (j:Nat),.raw (.pointer (some ⟨b2,0,none⟩))] [E6 b2 b m cap,jq eT b m cap L] (λr H=>r= .ret (.bool (jv (L.getD i Pr.z).n (L.getD j Pr.z).n))/\H=[E6 b2 b m cap,jq eT b m cap L]):=by
 have hGL:ab G []:=aD;refine gL [(2,0,.pointer (some ⟨b2,0,none⟩))] func27 call27 rfl rfl rfl rfl (by repeat (first|exact trivial|refine And.intro ⟨rfl,rfl⟩ ?_)) ?_;intro C hC;refine aI hC hGL (aT ?_);intros;refine dz mixed hC hGL false (λ_:Unit=>[(5,.bool (jv (L.getD i Pr.z).n (L.getD j Pr.z).n))]) (λ_=>[E6 b2 b m cap,jq eT b m cap L]) (.t 1 (.t 6 (.br 0 (.t 2 (.t 3 (.br 4 (.b 5 (.t 7 (.t 8 (.b 9 (.t 10 (.t 11 .done)))))) (.b 5 (.t 7 (.t 8 (.br 4 (.b 9 (.t 10 (.t 11 .done))) (.b 9 (.b 4 (.t 10 (.t 11 .done))))))))))) (.b 5 (.t 7 (.t 8 (.br 0 (.t 2 (.t 3 (.br 4 (.b 9 (.t 10 (.t 11 .done))) (.b 9 (.b 4 (.t 10 (.t 11 .done))))))) (.b 9 (.b 0 (.t 2 (.t 3 (.b 4 (.t 10 (.t 11 .done)))))))))))))) (by kernel_rfl) ?_ ?_
 ·refine xn ?_;repeat' first|exact .n|apply Lc.mk
  all_goals intros
  all_goals first|refine Om (i:=i) rfl hi hm ?_|refine Om (i:=j) rfl hj hm ?_
  all_goals (
   repeat' (first|(conv=>whnf);first|refine .w ?_|refine .v ?_|refine bu ?_ ?_<;>(intro hb;try exact dd hb)|apply au|apply aM|(apply a6<;>intro hb)|(apply ba;intro hbd)|(apply bc;intro bl)|(apply bh;intro va vk vc hva)|(apply bg;intro v)|(apply bj;intro bl cap hcap)|apply bx|(apply bf<;>intro hnx)|exact True.intro|(apply cW;intro C hC)|apply cV|apply cT|(apply cU;exact rfl)|(show Rt _ _ _;exact a7)|fail)
   all_goals try conv=>whnf)
  all_goals first|refine Om (i:=i) rfl hi hm ?_|refine Om (i:=j) rfl hj hm ?_
  all_goals (
   repeat' (first|(conv=>whnf);first|refine .w ?_|refine .v ?_|refine bu ?_ ?_<;>(intro hb;try exact dd hb)|apply au|apply aM|(apply a6<;>intro hb)|(apply ba;intro hbd)|(apply bc;intro bl)|(apply bh;intro va vk vc hva)|(apply bg;intro v)|(apply bj;intro bl cap hcap)|apply bx|(apply bf<;>intro hnx)|exact True.intro|(apply cW;intro C hC)|apply cV|apply cT|(apply cU;exact rfl)|(show Rt _ _ _;exact a7)|fail)
   all_goals try conv=>whnf)
  all_goals exact⟨(),ai,rfl⟩
 intro _;exact ez
end
section
theorem kU {P:Program}{G:Glo}{f:FuncId}{avs:List AVal}{H H1:Heap}{K Kp:AVal->Heap->Prop}{v:AVal}(hs:ad P G f avs H (λr H'=>r= .ret v/\H'=H1))(k:K v H1):Cx P G f avs H K Kp:=
 .mk _ hs (λv' H' h=>by obtain⟨e,h⟩:=h;cases e;subst h;exact k) (λv' H' h=>by obtain⟨e,_⟩:=h;cases e)
abbrev Mf (b2:Nat):AVal:=.func (.func 27) [] [.raw (.pointer (some ⟨b2,0,none⟩))]
abbrev Nz (f9 b m cap:Nat)(h:Value):AVal:=.func (.func f9) [] [.raw (kg b m cap),.raw h]
attribute [local irreducible] bI ap aa az aW ab ad
attribute [local irreducible] da cO
theorem mg {G:Glo}(f9:Nat)(h9:Value)(eT:Option TypeId)(b2 b m cap:Nat)(e:Int)(L:List Pr)(hm:m=L.length)(he:e=m)(hml:m<=1000)
  (hsw:∀(L':List Pr) (i j:Nat),L'.length=m->i<m->j<m->ad prog G f9 [.int .i64 (i:Nat),.int .i64 (j:Nat),.raw (kg b m cap),.raw h9] [jq eT b m cap L'] (λr H=>r= .ret (.tuple [])/\H=[jq eT b m cap (Ah L' i j)])):
  ad prog G 119 [.agg [Mf b2,Nz f9 b m cap h9],.int .i64 0,.int .i64 e] [E6 b2 b m cap,jq eT b m cap L] (λr H=>r= .ret (.tuple [])/\H=[E6 b2 b m cap,jq eT b m cap (cO L)]):=by
 have hGL:ab G []:=aD;refine gL [] func119 call119 rfl rfl rfl rfl (by repeat (first|exact trivial|refine And.intro ⟨rfl,rfl⟩ ?_)) ?_;intro C hC;refine aI hC hGL (aT ?_);by_cases h0:L.length=0
 ·obtain rfl:=List.eq_nil_of_length_eq_zero h0;refine ja hC hGL 1 ?_;rw[show cO []=[] by unfold cO;rfl];exact ez
 refine lp hC hGL (λk:Nat=>[(1,.int .i64 0),(2,.int .i64 e),(3,.rop [Mf b2,Nz f9 b m cap h9] 0),(6,.int .i64 (k:Nat))]) (λk=>[E6 b2 b m cap,jq eT b m cap (cO (L.take k)++L.drop k)]) (λk=>1<=k/\k<=L.length) (λk=>L.length-k) 1 ⟨Nat.le_refl _,by omega⟩ ai ?_ ?_
 ·cases L with
  |nil=>exact absurd rfl h0
  |cons x L=>rw[show cO ((x::L).take 1)=[x] by unfold cO;rfl];rfl
 intro k ⟨hk1,hk2⟩
 by_cases hk:k<L.length
 ·refine aT ?_;intros;have hx:L.drop k=L.getD k Pr.z::L.drop (k+1):=by rw[List.getD_eq_getElem?_getD,List.getElem?_eq_getElem hk];exact List.drop_eq_getElem_cons hk
  generalize L.getD k Pr.z=x at*
  refine lp hC hGL (λz:List Pr×List Pr=>[(1,.int .i64 0),(2,.int .i64 e),(3,.rop [Mf b2,Nz f9 b m cap h9] 0),(6,.int .i64 (k:Nat)),(7,.int .i64 (z.1.length:Nat))]) (λz=>[E6 b2 b m cap,jq eT b m cap (z.1++(x::(z.2++L.drop (k+1))))]) (λz=>cO (L.take k)=z.1++z.2/\∀u∈z.2,jv x.n u.n=true) (λz=>z.1.length) (cO (L.take k),[]) ⟨(List.append_nil _).symm,λu hu=>by cases hu⟩ ⟨rfl,rfl,rfl,rfl,iQ ?_,trivial⟩ ?_ ?_
  ·dsimp only;rw[gC,List.length_take];omega
  ·rw[hx];rfl
  rintro⟨A,B⟩ ⟨h1,h2⟩
  dsimp only at h1 h2 ⊢
  have h3:=congrArg List.length h1
  rw[gC,List.length_take,List.length_append] at h3
  by_cases hA:0<A.length
  ·have hA2:=xF hA
   generalize hyy:A.getD (A.length-1) Pr.z=y at*
   generalize hAA:A.take (A.length-1)=A' at*
   have hlA:A.length=A'.length+1:=by rw[hA2];simp
   obtain⟨i,hi⟩:∃i,i=A'.length:=⟨_,rfl⟩
   obtain⟨L0,hL0⟩:∃l,l=A++(x::(B++L.drop (k+1))):=⟨_,rfl⟩
   rw[<-hL0]
   have hl0:L0.length=m:=by rw[hL0];simp only[List.length_append,List.length_cons,List.length_drop];omega
   have e1:L0.getD (i+1) Pr.z=x:=by rw[hL0];exact nw (by omega)
   have e2:L0.getD i Pr.z=y:=by rw[hL0,hA2,List.append_assoc];exact nw hi
   have hj:A.length=i+1:=by omega
   have hswp:Ah L0 (i+1) i=A'++(x::(y::B++L.drop (k+1))):=by
    unfold Ah
    rw[e1,e2,hL0,hA2,List.append_assoc]
    exact Co hi
   have hls:=Gp (G:=G) eT b2 b m cap (i+1) i L0 hl0 (by omega) (by omega)
   have hs9:=hsw L0 (i+1) i hl0 (by omega) (by omega)
   rw[e1,e2] at hls
   rw[hswp] at hs9
   have hji:(((i+1:Nat):Int)-1)=(i:Nat):=by omega
   rw[<-hji] at hls hs9
   rw[hj]
   refine aT ?_
   intros
   refine kU hls ?_
   refine xn ?_
   repeat' first|exact .n|apply Lc.mk
   all_goals intros
   ·refine db (A',y::B) ⟨?_,?_⟩ ?_ ⟨rfl,rfl,rfl,rfl,iQ ?_,trivial⟩ rfl
    ·rw[h1,hA2,List.append_assoc];rfl
    ·intro u hu
     rcases List.mem_cons.1 hu with rfl|hu
     ·assumption
     ·exact h2 u hu
    ·dsimp only;omega
    ·dsimp only;omega
   ·have h5:=vZ hx h1 h2 (.inr ⟨A',y,hA2,by assumption⟩)
    refine db (k+1) ⟨by omega,by omega⟩ (by omega) ⟨rfl,rfl,rfl,iQ (by omega),trivial⟩ ?_
    rw[hL0,h5,List.append_assoc];rfl
  ·obtain rfl:=List.eq_nil_of_length_eq_zero (Nat.eq_zero_of_not_pos hA)
   have h5:=vZ hx h1 h2 (.inl rfl)
   refine aT ?_
   intros
   refine db (k+1) ⟨by omega,by omega⟩ (by omega) ⟨rfl,rfl,rfl,iQ (by omega),trivial⟩ ?_
   rw[h5];rfl
 ·obtain rfl:k=L.length:=by omega
  rw[List.take_length,List.drop_length,List.append_nil]
  exact ez
theorem pH {G:Glo}(f9:Nat)(h9:Value)(eT:Option TypeId)(b2 b m cap:Nat)(a e:Int)(L:List Pr)(ha:0<=a)(ha2:a<=1000)(he:e<=a):
  ad prog G 119 [.agg [Mf b2,Nz f9 b m cap h9],.int .i64 a,.int .i64 e] [E6 b2 b m cap,jq eT b m cap L] (λr H=>r= .ret (.tuple [])/\H=[E6 b2 b m cap,jq eT b m cap L]):=by
 have hGL:ab G []:=aD;refine gL [] func119 call119 rfl rfl rfl rfl (by repeat (first|exact trivial|refine And.intro ⟨rfl,rfl⟩ ?_)) ?_;intro C hC;refine aI hC hGL (aT ?_);refine ja hC hGL 1 ?_;exact ez
theorem Ao {G:Glo}(f9:Nat)(h9:Value)(eT:Option TypeId)(b2 b m cap:Nat)(L:List Pr)(hm:m=L.length)(hml:m<=20)
  (hsw:∀(L':List Pr) (i j:Nat),L'.length=m->i<m->j<m->ad prog G f9 [.int .i64 (i:Nat),.int .i64 (j:Nat),.raw (kg b m cap),.raw h9] [jq eT b m cap L'] (λr H=>r= .ret (.tuple [])/\H=[jq eT b m cap (Ah L' i j)])):
  ad prog G 64 [.agg [Mf b2,Nz f9 b m cap h9],.int .i64 (m:Int)] [E6 b2 b m cap,jq eT b m cap L] (λr H=>r= .ret (.tuple [])/\H=[E6 b2 b m cap,jq eT b m cap (cO L)]):=by
 by_cases h20:m=20
 ·have hI:=mg f9 h9 eT b2 b m cap 20 L hm (by omega) (by omega) hsw;have hN:=pH (G:=G) f9 h9 eT b2 b m cap 20 (m:Int) (cO L) (by omega) (by omega) (by omega);have hGL:ab G []:=aD;refine gL [] func64 call64 rfl rfl rfl rfl (by repeat (first|exact trivial|refine And.intro ⟨rfl,rfl⟩ ?_)) ?_;intro C hC;refine aI hC hGL (aT ?_);refine ja hC hGL 2 ?_;refine aT ?_;intros;refine kU hI ?_;refine aT ?_;intros;refine kU hN ?_;refine aT ?_;intros;refine ja hC hGL 1 ?_;exact ez
 ·have hI:=mg f9 h9 eT b2 b m cap (m:Int) L hm rfl (by omega) hsw;have hGL:ab G []:=aD;refine gL [] func64 call64 rfl rfl rfl rfl (by repeat (first|exact trivial|refine And.intro ⟨rfl,rfl⟩ ?_)) ?_;intro C hC;refine aI hC hGL (aT ?_);refine ja hC hGL 1 ?_;refine aT ?_;intros;refine kU hI ?_;refine aT ?_;intros;refine ja hC hGL 1 ?_;exact ez
end
section
theorem CZ:∃i,prog.info? 22=some i/\i.desc= .slice 64:=by
 have h:(prog.info? 22).map (λi=>i.desc)=some (.slice 64):=by kernel_rfl
 cases hi:prog.info? 22 with
 |none=>rw[hi] at h;cases h
 |some i=>rw[hi] at h;exact⟨i,rfl,by simpa using h⟩
theorem Hl:∃i,prog.info? 64=some i/\∀n,2<=n->Lib.swapperK n i 25=9:=by
 have h:(prog.info? 64).map (λi=>(i.hasPointers,i.bytes==8))=some (true,false):=by kernel_rfl
 cases hi:prog.info? 64 with
 |none=>rw[hi] at h;cases h
 |some i=>
  rw[hi] at h;simp only[Option.map_some,Option.some.injEq,Prod.mk.injEq] at h;refine⟨i,rfl,λn hn=> ?_⟩;unfold Lib.swapperK;rw[h.1,h.2,if_neg (by simp;omega),if_neg (by simp;omega)];rfl
theorem Hg (w:World):(Extern.Rtype.kind 64).run prog w= .ok 25 w:=by kernel_rfl
theorem yA:prog.packed 22=false:=by kernel_rfl
theorem NV:prog.funcs.findIdx? (·.name== "internal/reflectlite" ++ ".Swapper$" ++toString 9)=some 118:=by kernel_rfl
theorem LC {G:Glo}(eT:Option TypeId)(b m cap:Nat)(L':List Pr)(i j:Nat)(hl:L'.length=m)(hi:i<m)(hj:j<m):ad prog G 118 [.int .i64 (i:Nat),.int .i64 (j:Nat),.raw (kg b m cap),.raw (typeHandle prog 64)] [jq eT b m cap L'] (λr H=>r= .ret (.tuple [])/\H=[jq eT b m cap (Ah L' i j)]):=by
 have h:=DF (G:=G) (f:=118) false (λargs W=>run_callFunc_extern func118 (by kernel_rfl) (by kernel_rfl) (by kernel_rfl) (e:=Extern.ReflectliteSwapper.swap false) (by kernel_rfl) args W) (T:=64) rfl rfl (sz:=2) rfl (eT:=eT) (b:=b) (n:=m) (cap:=cap) (cs:=da L') hi hj (AY L') (by simp[handleType,typeHandle]);rw[GA (by omega) (by omega)] at h;exact h
theorem Gn {G:Glo}(b2 b cap:Nat)(L:List Pr)(h2:2<=L.length)(h20:L.length<=20):ad prog G 26 [.iface 22 (.raw (kg b L.length cap)),Mf b2] [E6 b2 b L.length cap,jq none b L.length cap L] (λr H=>r= .ret (.tuple [])/\H=[E6 b2 b L.length cap,jq none b L.length cap (cO L)]):=by
 obtain⟨i,hi,hd⟩:=CZ;obtain⟨ie,hie,hk⟩:=Hl;have hB:sliceBound prog 64 ie 25 (some ⟨b,0,none⟩) L.length cap=#[.slice (some ⟨b,0,none⟩) L.length cap,typeHandle prog 64]:=by
  unfold sliceBound;rw[hk _ h2];rfl
 refine oh (fT:=64) (swapv:=.func (.func 118) #[] #[.slice (some ⟨b,0,none⟩) L.length cap,typeHandle prog 64]) (λ_=>.cells #[.slice (some ⟨b,0,none⟩) L.length cap] 22) (λw=>.cells #[.pointer (some ⟨prog.globals.size,22,none⟩),.pointer (some ⟨w.heap.size,0,none⟩),.int .u64 151] 114) call26 call64 (λla lb w Q hp=> ?_) rfl (λR=> ?_) (Ao 118 (typeHandle prog 64) none b2 b L.length cap L rfl h20 (λL' i j hl hi hj=>LC none b L.length cap L' i j hl hi hj))
 ·refine Any.sort_SliceStable_of_stable laysGt8 22 64 i ie hi hd yA hie 25 Hg (some ⟨b,0,none⟩) L.length cap (by omega) 118 (by rw[hk _ h2];exact NV) (.func 27) la lb w Q ?_;rw[hB];exact hp
 ·exact⟨_,_,rfl,rfl,_,_,rfl,⟨rfl,rfl⟩,_,_,rfl,⟨rfl,rfl⟩,rfl⟩
theorem NX:prog.funcs.findIdx? (·.name== "internal/reflectlite" ++ ".Swapper$" ++toString 1)=some 110:=by kernel_rfl
theorem NW:prog.funcs.findIdx? (·.name== "internal/reflectlite" ++ ".Swapper$" ++toString 2)=some 111:=by kernel_rfl
theorem BW (w:World)(os:Array Obj):Below w.heap.size w (Sort.grow w os):=by
 refine⟨rfl,rfl,rfl,by simp[Sort.grow],λk hk=> ?_⟩;simp only[Sort.grow];rw[Array.getElem?_append_left hk]
theorem Ee {G:Glo}(H:Heap)(b2 c n:Nat)(p:Option Addr)(hn:n≤1):ad prog G 26 [.iface 22 (.raw (.slice p n c)),Mf b2] H (fun r H'=>r= .ret (.tuple [])∧H'=H):=by
 obtain⟨i,hi,hd⟩:=CZ
 obtain⟨ie,hie,_⟩:=Hl
 obtain⟨f,hf⟩:∃f,prog.funcs.findIdx? (·.name== "internal/reflectlite" ++ ".Swapper$" ++toString (Lib.swapperK n ie 25))=some f:=by
  rcases(show n=0∨n=1 by omega) with rfl|rfl
  ·exact⟨_,NX⟩
  ·exact⟨_,NW⟩
 refine jX (.tuple #[]) (fun R=>⟨⟨_,rfl,rfl⟩,rfl⟩) call26 ?_
 rintro C R args ⟨x1,t1,e1,hx1,x2,t2,e2,hx2,e5⟩ w hG hm
 subst e5 e2
 obtain⟨u1,hu1,hru1⟩:=aR hx1 rfl
 obtain⟨la,lb,hu2,_⟩:=aR hx2 rfl
 simp only[List.cons.injEq,and_true] at hu1 hu2
 subst hu1 hu2
 obtain rfl:=al.1 hru1
 obtain rfl:=dN e1
 refine(Any.sort_SliceStable_tiny laysGt8 22 64 i ie hi hd yA hie 25 Hg p n c hn f hf (.func 27) la lb w).mono ?_
 rintro e w' ⟨rfl,os,rfl⟩
 exact⟨rfl,BW w os⟩
end
section
section
variable {P:Program} [Tab P] {C:Ctx} {n:Nat} {env:Env} {H:Heap} {Q:aK->Env->Heap->Prop} {ops:Array Oper} {rest:List Oper}
variable {d:Nat} {t:TypeId} {p:String} {af:Array Edge} {g:Option (Nat×Bool)} {b:Bool}
variable {x y z:Operand} {T:TypeId} {xT:TI} {kt et:TypeId} {xk:TI}
theorem Fj (hg:aC ops env g=some (b,b))(hdn:Nat.ble (d+1) n=true)
  (h:∀bl:Nat,ap P C n ops rest ((d,.raw (.map (some bl)))::env) (H++[.obj bl (.map #[] 0)]) Q):
  ap P C n ops ({dst:=some d,op:=.makeMap T none,type:=t,pos:=p,after:=af,guard:=g}::rest) env H Q:=by
 refine dg (av:=λbl:Nat=>.raw (.map (some bl))) (H':=λbl=>.obj bl (.map #[] 0)::H) hg rfl hdn (λR ρ w hm hf=> ?_) (λbl=>gU (h bl));refine⟨w.heap.size,_,grow w (.map #[] 0),R,?_,Seal.le_refl R,al.2 rfl,hm.alloc _ _ rfl (dF w _)⟩;rfl
theorem Fi {i bl cl:Nat}{E:Array MapEntry}(hg:aC ops env g=some (b,b))(hdn:Nat.ble (d+1) n=true)(hx:ae env x=some (.raw (.map (some bl))))(hi:H[i]? =some (.obj bl (.map E cl)))(h1:aS P T=some xT)(h2:xT.desc= .map kt et)
  (h:∀bi:Nat,ap P C n ops rest ((d,.raw (.pointer (some ⟨bi,0,none⟩)))::env) (H++[.obj bi (.mapIter (some bl) cl #[] cl)]) Q):
  ap P C n ops ({dst:=some d,op:=.range T x,type:=t,pos:=p,after:=af,guard:=g}::rest) env H Q:=by
 refine dg (av:=λbl:Nat=>.raw (.pointer (some ⟨bl,0,none⟩))) (H':=λbi=>.obj bi (.mapIter (some bl) cl #[] cl)::H) hg rfl hdn (λR ρ w hm hf=> ?_) (λbi=>gU (h bi));have hb:w.heap[bl]? =some (.map E cl):=hm.heap.holds _ (List.mem_of_getElem? hi);refine⟨w.heap.size,_,grow w (.mapIter (some bl) cl #[] cl),R,?_,Seal.le_refl R,al.2 rfl,hm.alloc _ _ rfl (dF w _)⟩;simp only[execOp,al.1 (hf _ _ hx),Instr.range,Sem.run_bind,ak h1,h2,Result.andThen_ok,bC hb (by simp)];rfl
theorem DZ (w:World)(bi bm since c0:Nat)(seen:Array Nat)(es:Array MapEntry)(clock:Nat)(hj:w.heap[bi]? =some (.mapIter (some bm) since seen c0))(hb:w.heap[bm]? =some (.map es clock))(hold:∀x∈es.toList,x.born<since)(hsc:since<=c0)(ty:TypeId):
  ((leftOf es seen).size=0/\(Instr.next (.pointer (some ⟨bi,0,none⟩)) false ty).run P w= .ok (.tuple #[.bool false]) w)\/
  ∃e∈(leftOf es seen).toList,∃w1:World,(w1=w\/w1=w.drew)/\(Instr.next (.pointer (some ⟨bi,0,none⟩)) false ty).run P w= .ok (.tuple #[.bool true,e.key,e.val]) {w1 with heap:=w1.heap.setIfInBounds bi (.mapIter (some bm) since (seen.push e.born) clock)}:=by
 simp only[Instr.next,Sem.run_bind,bC hj (by simp),bC hb (by simp),Result.andThen_ok,next_test_false seen es since c0 hold hsc,Bool.false_eq_true,if_false];unfold leftOf;have hmem:∀x∈(Array.filter (λe=> !seen.contains e.born) es).toList,x.born<since:=λx hx=>hold x (by simp at hx ⊢;exact hx.1);generalize Array.filter (λe=> !seen.contains e.born) es=L at hmem ⊢;have e1:L.filter (λx=>decide (x.born<since))=L:=Array.filter_eq_self.2 (λx hx=>by simpa using hmem x (by simpa using hx));have e2:L.filter (λx=>decide (x.born≥since))=#[]:=by
  rw[Array.filter_eq_empty_iff];intro x hx;have:=hmem x (by simpa using hx);simp;omega
 simp only[e1,e2,Array.append_empty];by_cases h0:L.size=0
 ·left;have:L=#[]:=Array.eq_empty_of_size_eq_zero h0;subst this;refine⟨rfl,?_⟩;simp[choose,Sem.run,Question.forced]
 ·right;have hne:L.isEmpty=false:=by simp[Array.isEmpty,h0]
  simp only[hne,Bool.false_eq_true,if_false,Array.empty_append,Array.size_map];have hch:∃(j:Nat) (w1:World),j<L.size/\(w1=w\/w1=w.drew)/\(choose (Question.mapNext L.size)).run P w= .ok j w1:=by
   by_cases hf:L.size<=1
   ·exact⟨0,w,by omega,.inl rfl,by simp[choose,Sem.run,Question.forced,hf]⟩
   ·exact⟨_,w.drew,Nat.mod_lt _ (by omega),.inr rfl,by
     simp only[choose,Sem.run,Question.forced,decide_eq_true_eq,hf,if_false,Question.cut];rfl⟩
  obtain⟨j,w1,hj2,hal,hrun⟩:=hch;refine⟨L[j],by simp,w1,hal,?_⟩;have hj3:w1.heap[bi]? =some (.mapIter (some bm) since seen c0):=by
   rcases hal with rfl|rfl
   ·exact hj
   ·exact hj
  simp only[hrun,Array.getElem?_map,Array.getElem?_eq_getElem hj2,Option.map_some,Result.andThen_ok,Sem.run_bind,setObj,Sem.run,hj3];rfl
theorem IF {A:MapEntry->AVal×AVal}{i j bl bi since c0 clock:Nat}{seen:Array Nat}{es:Array MapEntry}(hg:aC ops env g=some (b,b))(hdn:Nat.ble (d+1) n=true)(hx:ae env x=some (.raw (.pointer (some ⟨bi,0,none⟩))))
  (hi:H[i]? =some (.obj bl (.map es clock))) (hj:H[j]? =some (.obj bi (.mapIter (some bl) since seen c0))) (hold:∀x∈es.toList,x.born<since) (hsc:since<=c0)
  (hA:∀R,∀e∈es.toList,bD R (A e).1 e.key/\bD R (A e).2 e.val)
  (h0:(leftOf es seen).size=0->ap P C n ops rest ((d,.tuple [.bool false])::env) H Q)
  (h1:∀e∈(leftOf es seen).toList,ap P C n ops rest ((d,.tuple [.bool true,(A e).1,(A e).2])::env) (H.set j (.obj bi (.mapIter (some bl) since (seen.push e.born) clock))) Q):
  ap P C n ops ({dst:=some d,op:=.next x false,type:=t,pos:=p,after:=af,guard:=g}::rest) env H Q:=by
 refine dg (X:=Sum {e:MapEntry//e∈(leftOf es seen).toList} {u:Unit//(leftOf es seen).size=0})
  (av:=λz=>match z with|.inl e=>.tuple [.bool true,(A e.1).1,(A e.1).2]|.inr _=>.tuple [.bool false])
  (H':=λz=>match z with|.inl e=>H.set j (.obj bi (.mapIter (some bl) since (seen.push e.1.born) clock))|.inr _=>H) hg rfl hdn (λR ρ w hm hf=> ?_) ?_
 ·have hb:w.heap[bl]? =some (.map es clock):=hm.heap.holds _ (List.mem_of_getElem? hi);have hbi:w.heap[bi]? =some (.mapIter (some bl) since seen c0):=hm.heap.holds _ (List.mem_of_getElem? hj);rcases DZ (P:=P) w bi bl since c0 seen es clock hbi hb hold hsc t with⟨z0,hr⟩|⟨e,he,w1,hw,hr⟩
  ·refine⟨.inr ⟨(),z0⟩,.tuple #[.bool false],w,R,?_,Seal.le_refl R,⟨⟨_,rfl,_,_,rfl,⟨rfl,rfl⟩,rfl⟩,rfl⟩,hm⟩;simp only[execOp,al.1 (hf _ _ hx),Sem.run_bind,hr,Result.andThen_ok];rfl
  ·have hm1:MS C R H w1:=by
    rcases hw with rfl|rfl
    ·exact hm
    ·exact hm.drew
   have hb1:w1.heap[bi]? =some (.mapIter (some bl) since seen c0):=hm1.heap.holds _ (List.mem_of_getElem? hj);have ho:=jx (o':=.mapIter (some bl) since (seen.push e.born) clock) hb1;obtain⟨hk,hv⟩:=hA R e (mem_left he).1;refine⟨.inl ⟨e,he⟩,.tuple #[.bool true,e.key,e.val],_,R,?_,Seal.le_refl R,⟨⟨_,rfl,_,_,rfl,⟨rfl,rfl⟩,_,_,rfl,hk,_,_,rfl,hv,rfl⟩,rfl⟩,hm1.write hj rfl ho rfl ho.at_⟩;simp only[execOp,al.1 (hf _ _ hx),Sem.run_bind,hr,Result.andThen_ok];rfl
 ·rintro(⟨e,he⟩|⟨u,z0⟩)
  ·exact h1 e he
  ·exact h0 z0
theorem Fp {A:MapEntry->AVal×AVal}{i j bl bi since clock:Nat}{seen:Array Nat}{es:Array MapEntry}{e:MapEntry}(hg:aC ops env g=some (b,b))(hdn:Nat.ble (d+1) n=true)(hx:ae env x=some (.raw (.pointer (some ⟨bi,0,none⟩))))
  (hi:H[i]? =some (.obj bl (.map es clock))) (hj:H[j]? =some (.obj bi (.mapIter (some bl) since (seen.push e.born) clock))) (he:e∈es.toList) (hn:(es.toList.map (·.born)).Nodup)
  (hA:∀R,∀e∈es.toList,bD R (A e).1 e.key/\bD R (A e).2 e.val)
  (h1:ap P C n ops rest ((d,.tuple [(A e).1,(A e).2])::env) H Q):
  ap P C n ops ({dst:=some d,op:=.entry x,type:=t,pos:=p,after:=af,guard:=g}::rest) env H Q:=by
 refine gR hg rfl hdn (λR ρ w hm hf=> ?_) h1;have hb:w.heap[bl]? =some (.map es clock):=hm.heap.holds _ (List.mem_of_getElem? hi);have hbi:w.heap[bi]? =some (.mapIter (some bl) since (seen.push e.born) clock):=hm.heap.holds _ (List.mem_of_getElem? hj);have hf':es.find? (·.born==e.born)=some e:=by rw[<-Array.find?_toList];exact find_born e es.toList hn he
 obtain⟨hk,hv⟩:=hA R e he;refine⟨.tuple #[e.key,e.val],w,R,?_,Seal.le_refl R,⟨⟨_,rfl,_,_,rfl,hk,_,_,rfl,hv,rfl⟩,rfl⟩,hm⟩;simp only[execOp,al.1 (hf _ _ hx),Instr.entry,Sem.run_bind,bC hb (by simp),bC hbi (by simp),Result.andThen_ok,Array.back?_push,bne_self_eq_false,Bool.false_eq_true,if_false,hf'];rfl
end
end
section
def j9 (i:Nat)(s:List UInt8):MapEntry:={key:=.string ⟨s.toArray⟩,val:=.bool true,born:=i}
def dT (K:List (List UInt8)):Array MapEntry:=(K.mapIdx j9).toArray
def fW (K:List (List UInt8))(s:List UInt8):List (List UInt8):=if s∈K then K else K++[s]
theorem DP (K:List (List UInt8)):(dT K).size=K.length:=by simp[dT]
theorem qA {K:List (List UInt8)}{j:Nat}(h:j<K.length):(dT K)[j]? =some (j9 j (K.getD j [])):=by
 simp[dT,List.getD,h]
theorem DQ (K:List (List UInt8))(s:List UInt8):(dT K).push (j9 K.length s)=dT (K++[s]):=by
 simp[dT,List.mapIdx_append]
theorem uw (s:List UInt8):∀(K:List (List UInt8)) (o i:Nat),(s∉K->Instr.findNow .string (.string ⟨s.toArray⟩) (K.mapIdx λk=>j9 (o+k)) i=some none)/\(s∈K->∃j,j<K.length/\K.getD j []=s/\Instr.findNow .string (.string ⟨s.toArray⟩) (K.mapIdx λk=>j9 (o+k)) i=some (some (i+j,.bool true)))
 |[],o,i=>⟨λ_=>rfl,λh=>by cases h⟩
 |t::K,o,i=>by
  obtain⟨h1,h2⟩:=uw s K (o+1) (i+1);have e:(List.mapIdx (λk=>j9 (o+k)) (t::K))=j9 o t::K.mapIdx λk=>j9 (o+1+k):=by
   rw[List.mapIdx_cons];simp[Nat.add_assoc,Nat.add_comm 1]
  rw[e];have hs:∀b,ca s t=b->Instr.sameNow .string (.string ⟨s.toArray⟩) (j9 o t).key=some b:=λb hb=>by
   show some ((⟨s.toArray⟩:ByteArray)==⟨t.toArray⟩)=some b;rw[qC,hb]
  cases hb:ca s t with
  |true=>
   obtain rfl:=dE.1 hb;refine⟨λh=>absurd (List.mem_cons_self ..) h,λ_=>⟨0,by simp,rfl,?_⟩⟩;simp only[Instr.findNow,hs _ hb];rfl
  |false=>
   have hne:s≠t:=λe=>by rw[dE.2 e] at hb;cases hb
   refine⟨λh=> ?_,λh=> ?_⟩
   ·simp only[Instr.findNow,hs _ hb];exact h1 λh3=>h (List.mem_cons_of_mem _ h3)
   ·obtain⟨j,hj,hj2,hj3⟩:=h2 ((List.mem_cons.1 h).resolve_left hne);refine⟨j+1,by simpa using hj,hj2,?_⟩;simp only[Instr.findNow,hs _ hb];rw[hj3];congr 3
    omega
section
variable {P:Program} [Tab P] {C:Ctx} {n:Nat} {env:Env} {H:Heap} {Q:aK->Env->Heap->Prop} {ops:Array Oper} {rest:List Oper}
variable {d:Nat} {t:TypeId} {p:String} {af:Array Edge} {g:Option (Nat×Bool)} {b:Bool}
variable {x y z:Operand} {T:TypeId} {xT:TI} {kt et:TypeId} {xk:TI}
theorem KB {i bl:Nat}{K:List (List UInt8)}{s:List UInt8}(hg:aC ops env g=some (b,b))(hx:ae env x=some (.raw (.map (some bl))))(hy:ae env y=some (.str s))(hz:ae env z=some (.bool true))(hi:H[i]? =some (.obj bl (.map (dT K) K.length)))(h1:aS P T=some xT)(h2:xT.desc= .map kt et)(h3:aS P kt=some xk)(h4:xk.desc= .string)
  (h:ap P C n ops rest env (H.set i (.obj bl (.map (dT (fW K s)) (fW K s).length))) Q):
  ap P C n ops ({dst:=none,op:=.mapUpdate T x y z,type:=t,pos:=p,after:=af,guard:=g}::rest) env H Q:=by
 refine gT hg rfl (λR ρ w hm hf=> ?_) h;have hb:w.heap[bl]? =some (.map (dT K) K.length):=hm.heap.holds _ (List.mem_of_getElem? hi);have hky:=hf _ _ hy;have h4':gJ xk.desc (.str s)=true:=by rw[h4];rfl
 have hck:=fi (P:=P) false h3 h4' hky;rw[aF.1 hky] at hck;have ho:=jx (o':=.map (dT (fW K s)) (fW K s).length) hb;refine⟨_,R,?_,Seal.le_refl R,hm.write hi rfl ho rfl ho.at_⟩;have hl:(dT K).toList=K.mapIdx λk=>j9 (0+k):=by simp[dT]
 obtain⟨f1,f2⟩:=uw s K 0 0;rw[<-hl] at f1 f2;by_cases hs:s∈K
 ·obtain⟨j,hj,hj2,hj3⟩:=f2 hs;rw[Nat.zero_add] at hj3;have e1:(dT K).modify j (λe=>{e with key:=.string ⟨s.toArray⟩,val:=.bool true})=dT (fW K s):=by
   unfold fW;rw[if_pos hs];apply Array.ext_getElem?;intro k;rw[Array.getElem?_modify];by_cases hk:j=k
   ·subst hk;rw[if_pos rfl,qA hj,hj2];rfl
   ·rw[if_neg hk]
  have e2:(fW K s).length=K.length:=by unfold fW;rw[if_pos hs]
  rw[e2,<-e1];simp only[execOp,al.1 (hf _ _ hx),Instr.mapUpdate,Sem.run_bind,ak h1,h2,Result.andThen_ok,bC hb (by simp),Sem.run_pure,hck,Instr.findKey,ak h3,h4,aF.1 (hf _ _ hy),aN.1 (hf _ _ hz),hj3,qA hj,Option.map_some,Option.getD_some,Instr.keyThatStays,j9,hj2,Instr.sameBits,xz,if_true,fE hb]
 ·have hj3:=f1 hs;have e1:dT (fW K s)=(dT K).push (j9 K.length s):=by
   unfold fW;rw[if_neg hs,DQ]
  have e2:(fW K s).length=K.length+1:=by unfold fW;rw[if_neg hs];simp
  rw[e2,e1];simp only[execOp,al.1 (hf _ _ hx),Instr.mapUpdate,Sem.run_bind,ak h1,h2,Result.andThen_ok,bC hb (by simp),Sem.run_pure,hck,Instr.findKey,ak h3,h4,aF.1 (hf _ _ hy),aN.1 (hf _ _ hz),hj3,fE hb];rfl
theorem Dr {i bl:Nat}{K:List (List UInt8)}(hg:aC ops env g=some (b,b))(hdn:Nat.ble (d+1) n=true)(hx:ae env x=some (.raw (.map (some bl))))(hi:H[i]? =some (.obj bl (.map (dT K) K.length)))(h1:aS P T=some xT)(h2:xT.desc= .map kt et)
  (h:ap P C n ops rest ((d,.int .i64 (K.length:Int))::env) H Q):
  ap P C n ops ({dst:=some d,op:=.call {callee:=.builtin .len,args:=[x].toArray,argTypes:=[T].toArray},type:=t,pos:=p,after:=af,guard:=g}::rest) env H Q:=by
 refine qd hg rfl hdn (λR ρ w hm hf=>⟨_,?_,am.2 rfl⟩) h;have hb:w.heap[bl]? =some (.map (dT K) K.length):=hm.heap.holds _ (List.mem_of_getElem? hi);simp only[execOp,resolve,Sem.run_bind,Sem.run_pure,Result.andThen_ok,invoke,builtin,Builtin.len_,List.map_toArray,List.map_cons,List.map_nil,al.1 (hf _ _ hx)];simp only[List.getElem?_toArray,List.getElem?_cons_zero,Sem.run_bind,ak h1,h2,Result.andThen_ok,Sem.run_pure,goInt,bC hb (by simp),DP]
end
end
section
def HJ (e:MapEntry):AVal×AVal:=match e.key with
 |.string s=>(.str s.data.toList,.bool true)
 |_=>(.bool true,.bool true)
variable {K:List (List UInt8)}
theorem qz {e:MapEntry}(h:e∈(dT K).toList):∃j,j<K.length/\e=j9 j (K.getD j []):=by
 simp only[dT] at h
 rw[List.mem_mapIdx] at h;obtain⟨j,hj,rfl⟩:=h;exact⟨j,hj,by simp[List.getD,hj]⟩
theorem Dj (R:Seal):∀e∈(dT K).toList,bD R (HJ e).1 e.key/\bD R (HJ e).2 e.val:=by
 intro e he;obtain⟨j,hj,rfl⟩:=qz he;refine⟨?_,⟨rfl,rfl⟩⟩;show bD R (.str (K.getD j []).toArray.toList) (.string ⟨(K.getD j []).toArray⟩);exact aF.2 rfl
theorem Dk (j:Nat)(s:List UInt8):HJ (j9 j s)=(.str s,.bool true):=rfl
theorem F6:∀x∈(dT K).toList,x.born<K.length:=by
 intro e he;obtain⟨j,hj,rfl⟩:=qz he;exact hj
theorem DR:((dT K).toList.map (·.born)).Nodup:=by
 have e:(dT K).toList.map (·.born)=List.range K.length:=by
  refine List.ext_getElem (by simp[dT]) λj h1 h2=> ?_;simp[dT,j9]
 rw[e];exact List.nodup_range
def iN (K:List (List UInt8))(seen:Array Nat):List (List UInt8):=seen.toList.map λj=>K.getD j []
structure sy (K:List (List UInt8)) (seen:Array Nat):Prop where
 lt:∀j∈seen.toList,j<K.length
 nd:seen.toList.Nodup
theorem DT:sy K #[]:=⟨by simp,by simp⟩
theorem F9 {seen:Array Nat}(h:sy K seen):seen.size<=K.length:=by
 have hp:((List.range K.length).filter λj=>decide (j∈seen.toList)).Perm seen.toList:=by
  refine(List.perm_ext_iff_of_nodup (List.nodup_range.filter _) h.nd).2 λj=> ?_;rw[List.mem_filter,List.mem_range,decide_eq_true_eq];exact⟨And.right,λhj=>⟨h.lt j hj,hj⟩⟩
 have h1:=hp.length_eq
 have h2:=List.length_filter_le (λj=>decide (j∈seen.toList)) (List.range K.length)
 rw[List.length_range] at h2
 have h3:seen.toList.length=seen.size:=Array.length_toList
 omega
theorem JK {seen:Array Nat}(h:sy K seen){e:MapEntry}(he:e∈(leftOf (dT K) seen).toList):∃j,j<K.length/\e=j9 j (K.getD j [])/\sy K (seen.push e.born)/\iN K (seen.push e.born)=iN K seen++[K.getD j []]:=by
 obtain⟨h1,h2⟩:=mem_left he;obtain⟨j,hj,rfl⟩:=qz h1;refine⟨j,hj,rfl,⟨λk hk=> ?_,?_⟩,?_⟩
 ·simp only[Array.toList_push,List.mem_append,List.mem_singleton] at hk;rcases hk with hk|rfl
  ·exact h.lt k hk
  ·exact hj
 ·rw[Array.toList_push,List.nodup_append];refine⟨h.nd,by simp,?_⟩;rintro a ha c hc rfl;rw[List.mem_singleton] at hc;subst hc;simp at h2 ha;exact h2 ha
 ·unfold iN;rw[Array.toList_push,List.map_append];rfl
theorem tZ {seen:Array Nat}(h:sy K seen)(hn:K.Nodup)(h0:(leftOf (dT K) seen).size=0):(iN K seen).Nodup/\∀x,x∈iN K seen↔x∈K:=by
 have hall:∀j,j<K.length->j∈seen.toList:=λj hj=>by
  apply Classical.byContradiction;intro hns;have hm:j9 j (K.getD j [])∈leftOf (dT K) seen:=by
   unfold leftOf;rw[Array.mem_filter];refine⟨?_,?_⟩
   ·exact Array.mem_of_getElem? (qA hj)
   ·simp[j9];simpa using hns
  have:=Array.size_pos_of_mem hm;omega
 refine⟨?_,λx=> ?_⟩
 ·unfold iN;rw[List.nodup_iff_pairwise_ne,List.pairwise_map];refine(List.nodup_iff_pairwise_ne.1 h.nd).imp_of_mem λ{a c} ha hc hne e=>hne ?_;have h1:=h.lt a ha;have h2:=h.lt c hc;rw[List.getD_eq_getElem?_getD,List.getD_eq_getElem?_getD,List.getElem?_eq_getElem h1,List.getElem?_eq_getElem h2] at e;apply Classical.byContradiction;intro hac;have hpw:=List.pairwise_iff_getElem.1 (List.nodup_iff_pairwise_ne.1 hn);have e:K[a]=K[c]:=e;rcases Nat.lt_or_gt_of_ne hac with g|g
  ·exact hpw a c h1 h2 g e
  ·exact hpw c a h2 h1 g e.symm
 ·unfold iN;rw[List.mem_map];constructor
  ·rintro⟨j,hj,rfl⟩;have h1:=h.lt j hj;rw[List.getD_eq_getElem?_getD,List.getElem?_eq_getElem h1];exact List.getElem_mem h1
  ·intro hx;obtain⟨j,hj,rfl⟩:=List.getElem_of_mem hx;exact⟨j,hall j hj,by rw[List.getD_eq_getElem?_getD,List.getElem?_eq_getElem hj];rfl⟩
theorem B7 {s:List UInt8}(h:K.Nodup):(fW K s).Nodup:=by
 unfold fW;split
 ·exact h
 ·rename_i hs;rw[List.nodup_append];exact⟨h,by simp,by rintro a ha c hc rfl;rw[List.mem_singleton] at hc;subst hc;exact hs ha⟩
theorem GY {s x:List UInt8}:x∈fW K s↔x∈K\/x=s:=by
 unfold fW;split
 ·rename_i hs;exact⟨.inl,λh=>h.elim id λe=>e▸hs⟩
 ·rw[List.mem_append,List.mem_singleton]
def cx (l:List (List UInt8)):List (List UInt8):=l.foldl fW []
theorem Ba (l:List (List UInt8))(s:List UInt8):cx (l++[s])=fW (cx l) s:=by simp[cx,List.foldl_append]
theorem NT (l:List (List UInt8)):∀K:List (List UInt8),K.Nodup->(l.foldl fW K).Nodup/\∀x,x∈l.foldl fW K↔x∈K\/x∈l:=by
 induction l with
 |nil=>exact λK h=>⟨h,λx=>by simp⟩
 |cons s l ih=>
  intro K h;obtain⟨h1,h2⟩:=ih (fW K s) (B7 h);refine⟨h1,λx=> ?_⟩;rw[List.foldl_cons,h2,GY,List.mem_cons,or_assoc]
theorem nr (l:List (List UInt8)):(cx l).Nodup/\∀x,x∈cx l↔x∈l:=by
 obtain⟨h1,h2⟩:=NT l [] List.nodup_nil;exact⟨h1,λx=>by unfold cx;rw[h2];simp⟩
theorem EB {T:List (List UInt8)}{seen:Array Nat}(h:sy (cx T) seen)(h0:(leftOf (dT (cx T)) seen).size=0):eS (iN (cx T) seen)=Lib.compact (eS T):=by
 obtain⟨h1,h2⟩:=tZ h (nr T).1 h0;exact(wz h1 λx=>by rw[h2,(nr T).2]).symm
end
section
theorem GV {C:Ctx}{R:Seal}{H:Heap}{w:World}{b j:Nat}{eT:Option TypeId}{v:Value}(k:Nat)(h:MS C R (.cells b eT [.own j v]::H) w):MS C R (.cells b eT [.own k v]::H) w:=
 h.swap (i:=0) (x:=.cells b eT [.own j v]) (y:=.cells b eT [.own k v]) rfl rfl (h.heap.holds (.cells b eT [.own j v]) List.mem_cons_self)
theorem MO {P:Program}[Tab P]{G:Glo}{f:FuncId}{avs:List AVal}{H:Heap}{K Kp:AVal->Heap->Prop}(i j:Nat){b:Nat}{eT:Option TypeId}{v:Value}{y y':HEnt}{r:AVal}(hi:H[i]? =some (.cells b eT [.own j v]))(hj:H[j]? =some y)(hne:i≠j)
  (hs:ad P G f avs [.cells b eT [.own 1 v],y] (λx H=>x= .ret r/\H=[.cells b eT [.own 1 v],y']))
  (k:cn (H.set j y') (K r)):Cx P G f avs H K Kp:=by
 obtain⟨rest,hp,hp2⟩:=qo hne hi hj
 have h1:ad P G f avs [.cells b eT [.own j v],y] (λx H=>x= .ret r/\H=[.cells b eT [.own j v],y']):=by
  refine p5 (H:=[.cells b eT [.own 1 v],y]) (λ_=>Iff.rfl) (λ_ _ _ h=>GV 1 h) hs ?_
  rintro x H' ⟨rfl,rfl⟩
  exact⟨_,⟨rfl,rfl⟩,λC R w h=>GV j h⟩
 have hset:H.set i (.cells b eT [.own j v])=H:=by
  obtain⟨hl,he⟩:=List.getElem?_eq_some_iff.1 hi
  rw[<-he];exact List.set_getElem_self hl
 refine⟨λx H'=>x= .ret r/\H'=H.set j y',io (im (H1:=[.cells b eT [.own j v],y]++rest) hp.symm (ff rest h1)) ?_,?_,?_⟩
 ·rintro x H' ⟨H1',⟨rfl,rfl⟩,rfl⟩
  have:=hp2 (.cells b eT [.own j v]) y'
  rw[hset] at this
  exact⟨_,this.symm,rfl,rfl⟩
 ·rintro v' H' ⟨e,rfl⟩
  cases e
  rw[aP] at k
  exact k
 ·rintro v' H' ⟨e,rfl⟩;cases e
theorem Fg {P:Program}{C:Ctx}{n:Nat}{c:Code}{env:Env}{H:Heap}{Q:aK->Env->Heap->Prop}{i k cap m sz:Nat}{a:Option Addr}{cs:List AVal}{eT:Option TypeId}(hi:H[i]? =some (.row (.slice a k cap) eT sz m cs))(h:k=m->bI P C n c env H Q):bI P C n c env H Q:=by
 intro R x w hm hf;refine h ?_ R x w hm hf;obtain⟨_,h0⟩:=hm.heap.holds _ (List.mem_of_getElem? hi);rcases h0 with⟨h0,h1⟩|⟨b',cap',Cs,el,fz,hv,_⟩
 ·simp only[Value.slice.injEq] at h0;omega
 ·simp only[Value.slice.injEq] at hv;exact hv.2.1
theorem F0 {l:List Pr}(h:l.length<=1):cO l=l:=by
 match l,h with
 |[],_=>rfl
 |[_],_=>rfl
theorem ud {l:List (List UInt8)}:(cx l).length=0↔l=[]:=by
 constructor
 ·intro h;cases l with
  |nil=>rfl
  |cons a t=>
   have:=((nr (a::t)).2 a).2 (List.mem_cons_self ..);rw[List.eq_nil_of_length_eq_zero h] at this;cases this
 ·rintro rfl;rfl
theorem EC (l:List (List UInt8)):(cx l).length<=l.length:=by
 have key:∀(l K:List (List UInt8)),(l.foldl fW K).length<=K.length+l.length:=by
  intro l;induction l with
  |nil=>intro K;simp
  |cons a t ih=>
   intro K;rw[List.foldl_cons];have:=ih (fW K a);have:(fW K a).length<=K.length+1:=by unfold fW;split<;>simp
   rw[List.length_cons];omega
 have:=key l [];simpa[cx] using this
theorem A9 (T:List (List UInt8)){vs:List (List UInt8)}{j:Nat}(h:j<vs.length):fW (cx (jI T vs j)) (ao 65 90 32 (vs.getD j []))=cx (jI T vs (j+1)):=by
 rw[tY T h,Ba]
abbrev NQ (b:Nat)(T:List (List UInt8)):HEnt:=.obj b (.map (dT (cx T)) (cx T).length)
theorem uX {C:Ctx}{n:Nat}{e:Env}{va u:Value}{L:List Pr}{w:List UInt8}{vs:List (List UInt8)}{m:Nat}{c0 c1 c2 c3 c5:HEnt}{eT eU:Option TypeId}{q:Nat}(hq:q=vs.length):To C n e [c0,c1,c2,c3,.row va eT 2 m (da L++([.str w,.own 6 u]:List AVal)),c5,.row u eU 1 q (aY vs)] e
  [c0,c1,c2,c3,.row va eT 2 m (da (L++[⟨w,vs⟩]))]:=by
 subst hq;have hI:=fa L;have e1:(da L++([.str w,.own 6 u]:List AVal)).set (L.length*2+1) (.list 1 vs.length (aE vs))=da (L++[⟨w,vs⟩]):=by
  rw[List.set_append_right _ _ (by omega),hI,Nat.add_sub_cancel_left,qX];rfl
 rw[<-e1];refine aX (pS (i:=6) (k:=4) (p:=L.length*2+1) (aE vs) rfl rfl (iS vs) (λR hr=>.row (a:=.own 6 u) ?_ λ_=>dx hr)) (Ck ?_)
 ·rw[List.getElem?_append_right (by omega),hI,Nat.add_sub_cancel_left];rfl
 ·exact aH
theorem xo {C:Ctx}{n:Nat}{e:Env}{va u:Value}{L:List Pr}{w s:List UInt8}{m:Nat}{c0 c1 c2 c3 c5:HEnt}{eT eU:Option TypeId}:To C n e [c0,c1,c2,c3,.row va eT 2 m (da L++([.str w,.own 6 u]:List AVal)),c5,.row u eU 1 1 [.str s]] e
  [c0,c1,c2,c3,.row va eT 2 m (da (L++[⟨w,[s]⟩]))]:=uX (vs:=[s]) rfl
theorem Be {x:Itm}{r:cK}{H:Heap}(h:∃i u,r= .ret (.agg (vY x (.own i u) (.list 1 x.2.L.length (bF x.2.L))))/\H=[.row u none 2 x.1.ps.length (da x.1.ps)]):zV r H (ij x):=by
 obtain⟨i,u,rfl,rfl⟩:=h;rintro C R w e hm ⟨y,rfl,hx⟩;obtain⟨R2,hle,hm2,hr⟩:=hm.seal_row (f:=dM x.1.ps) vL;exact⟨R2,hm2,y,rfl,k8 (p:=2) (a':=.list 2 x.1.ps.length (dM x.1.ps)) hle hx rfl λ_=>dx hr⟩
end
section
abbrev Ol (v:Int)(x:Itm)(b4 b5 bm b7:Nat):Env:=[(1,.int .i64 v),(2,.rop (bR x) 0),(4,.own 0 (ke b4)),(5,.own 1 (ke b5)),(6,.raw (.map (some bm))),(7,.own 3 (ke b7))]
abbrev rcJ (b4 b5 b7:Nat):Env:=[(4,.own 0 (ke b4)),(5,.own 1 (ke b5)),(7,.own 3 (ke b7))]
abbrev CB (v:Int)(x:Itm)(b4 b5 bm b7 k:Nat):Env:=Ol v x b4 b5 bm b7++[(42,.list 2 x.1.ps.length (dM x.1.ps)),(43,.int .i64 (x.1.ps.length:Nat)),(44,.int .i64 (k:Nat))]
abbrev qS (b4 b5 bm b7:Nat)(y:Itm)(T:List (List UInt8))(u:Value)(L:List Pr):Heap:=[ep b4 Itm.z cr cr,ep b5 y cr (.list 1 y.2.L.length (bF y.2.L)),NQ bm T,.cells b7 (some 22) [.own 4 u],.row u none 2 L.length (da L)]
theorem tv (s:List UInt8):aY [s]=[.str s]:=rfl
abbrev IQ (b:Nat)(q:Pr):HEnt:=.cells b (some 64) [.str q.n,.list 1 q.vs.length (aE q.vs)]
abbrev KJ (b m c:Nat)(l:List AVal):HEnt:=.row (.slice (some ⟨b,0,none⟩) m c) none 1 m l
attribute [local irreducible] bI ap aa az aW ab ad
attribute [local irreducible] da aY cO eS bN a8 ao ii jV bO eK jI cx dT
theorem qR {G:Glo}{m:Int}(hM:ab G (cw m))(hS:kb G)(v:Int)(x:Itm)(hx:x.OK 10000)(hw:x.w v=0):ad prog G 7 [ij x,.int .i64 v] [] (λr H=>∃i u,r= .ret (.agg (vY (x.can v) (.own i u) (.list 1 (x.can v).2.L.length (bF (x.can v).2.L))))/\H=[.row u none 2 (x.can v).1.ps.length (da (x.can v).1.ps)]):=by
 obtain⟨h20,hfit,hdis⟩:=kr hw;have hq:∀k,(x.1.ps.getD k Pr.z).n.length<=1100000/\(x.1.ps.getD k Pr.z).vs.length<=10000/\Lib.lens (x.1.ps.getD k Pr.z).vs<=10000:=hx.p.q;have hxn:x.1.n.length<=10000:=hx.p.n;have hlo:=gx (G:=G) x.1.g (by have:x.1.g.length<=10000:=hx.p.g;omega);have hup:=i6 (G:=G) x.1.n (by omega);have hlc:=ma (G:=G) hM x.2.s hx.s;have hRu:=qN (G:=G) v x.1.n (by omega);have hKi:=Gu (G:=G) hS x.2.t;have hlen:=p8 x.2.t (bO v x.1.n).t;have hctl:=sa (λk=>(hq k).2.1) h20
 have hsl:(kX x.2.t (bO v x.1.n).t x.1.ps).length<=x.1.ps.length:=zB _ _ _
 unfold Rl.A at hRu
 unfold Itm.can
 dsimp only
 rw[gC]
 generalize bO v x.1.n=R at*
 obtain⟨r,ra,rb,rp⟩:=R
 dsimp only at*
 have hcl:∀k,(bN x.2.t r (x.1.ps.take k)).length<=20:=λk=>by
  have:=hlen (x.1.ps.take k)
  rw[List.length_take] at this
  omega
 obtain⟨y,hy⟩:∃y:Itm,y=(⟨lowS x.1.g,ix x.1.n,[],[]⟩,{x.2 with s:=if x.2.t=7 then ii x.2.s else x.2.s}):=⟨_,rfl⟩
 unfold ij at*
 refine jZ func7 call7 λC hC hGL=> ?_
 refine ka hC hGL (λb:Nat=>[(1,.int .i64 v),(2,.rop (bR x) 0),(4,.own 0 (ke b))]) (λb=>[ep b Itm.z cr cr]) (λ_=>True) ?_ ?_
 ·refine aT ?_
  intro b
  intros
  exact cy b trivial
 intro b4 _
 refine ka hC hGL (λb:Nat=>[(1,.int .i64 v),(2,.rop (bR x) 0),(4,.own 0 (ke b4)),(5,.own 1 (ke b))]) (λb=>[ep b4 Itm.z cr cr,ep b (⟨lowS x.1.g,ix x.1.n,[],[]⟩,x.2) cr (.list 1 x.2.L.length (bF x.2.L))]) (λ_=>True) ?_ ?_
 ·refine aT ?_
  refine dz mixed hC hGL false (λb:Nat=>[(1,.int .i64 v),(2,.rop (bR x) 0),(4,.own 0 (ke b4)),(5,.own 1 (ke b))]) (λb=>[ep b4 Itm.z cr cr,ep b (⟨lowS x.1.g,ix x.1.n,[],[]⟩,x.2) cr (.list 1 x.2.L.length (bF x.2.L))]) (.t 0 (.t 1 (.t 3 (.t 4 (.t 6 (.t 7 (.br 2 (.br 5 (.t 8 (.b 9 (.b 10 .done))) (.b 9 (.b 5 (.t 8 (.b 10 .done))))) (.b 9 (.b 2 (.b 5 (.t 8 (.b 10 .done)))))))))))) (by kernel_rfl) xu ?_
  intro b
  exact cy b trivial
 intro b5 _
 refine cut hC hGL [(1,.int .i64 v),(2,.rop (bR x) 0),(4,.own 0 (ke b4)),(5,.own 1 (ke b5))] [ep b4 Itm.z cr cr,ep b5 y cr (.list 1 y.2.L.length (bF y.2.L))] True ?_ λ_=> ?_
 ·rw[hy]
  by_cases h7:x.2.t=7
  ·rw[if_pos h7]
   exact ez
  ·rw[if_neg h7]
   exact ez
 clear hlo hup hlc
 refine dZ (uR ?_)
 refine Fj rfl rfl λbm=> ?_
 refine Fq rfl rfl rfl ?_
 refine IE ?_
 refine uQ (cL (e':=[(1,.int .i64 v),(2,.rop (bR x) 0),(4,.own 0 (ke b4)),(5,.own 1 (ke b5)),(6,.raw (.map (some bm)))]) (h':=[ep b4 Itm.z cr cr,ep b5 y cr (.list 1 y.2.L.length (bF y.2.L)),NQ bm []]) ai (by unfold NQ cx dT;exact aH)) ?_
 refine ka hC hGL (λb:Nat=>Ol v x b4 b5 bm b) (λb=>[ep b4 Itm.z cr cr,ep b5 y cr (.list 1 y.2.L.length (bF y.2.L)),NQ bm [],.cells b (some 22) [cr]]) (λ_=>True) ?_ ?_
 ·refine aT ?_
  intro b
  intros
  exact cy b trivial
 intro b7 _
 refine uQ (e':=Ol v x b4 b5 bm b7) (h':=qS b4 b5 bm b7 y [] (.slice none 0 0) []) (aX (xq 2) (aX (Cl (i:=3) (p:=0) (x:=.cells b7 (some 22) [cr]) (a':=.own 4 (.slice none 0 0)) rfl (λR=>.cells rfl λ_=>CM)) (cL ai (by dsimp only[qS];rw[Jt];exact aH)))) ?_
 refine EZ (λ_:Option Addr×Nat×Nat=>Ol v x b4 b5 bm b7) (λz=>qS b4 b5 bm b7 y (a8 x.1.ps) (.slice z.1 z.2.1 z.2.2) (bN x.2.t r x.1.ps)) (λz=>mR (bN x.2.t r x.1.ps).length z.1 z.2.1) (aI hC hGL ?_) ?_
 ·refine aT ?_
  intros
  refine lpA hC hGL (λz:Nat×Option Addr×Nat×Nat=>CB v x b4 b5 bm b7 z.1) (λz=>qS b4 b5 bm b7 y (a8 (x.1.ps.take z.1)) (.slice z.2.1 z.2.2.1 z.2.2.2) (bN x.2.t r (x.1.ps.take z.1))) (λz=>z.1<=x.1.ps.length/\mR (bN x.2.t r (x.1.ps.take z.1)).length z.2.1 z.2.2.1) (λz=>x.1.ps.length-z.1) (0,none,0,0) ⟨Nat.zero_le _,by intro h;simp[bN] at h⟩ ai ?_ ?_
  ·rw[show bN x.2.t r (x.1.ps.take 0)=[] by simp[bN],show a8 (x.1.ps.take 0)=[] by simp[a8]]
  rintro⟨k,pa,pk,pc⟩ ⟨k1,k2⟩
  dsimp only at k1 k2 ⊢
  by_cases hk:k<x.1.ps.length
  case neg=>
   obtain rfl:k=x.1.ps.length:=by omega
   rw[List.take_length] at k2 ⊢
   refine aI hC hGL (aT ?_)
   intros
   exact IS (pa,pk,pc) k2 (cL ai aH)
  have hcl1:=hcl k
  have hup:=i6 (G:=G) (x.1.ps.getD k Pr.z).n (by have:=(hq k).1;omega)
  have hvl:=Dg (hfit k hk)
  have hvh:=(hq k).2
  have hrc:=tG (x.1.ps.getD k Pr.z).vs
  have hok:az 1 (x.1.ps.getD k Pr.z).vs.length (aE (x.1.ps.getD k Pr.z).vs):=by unfold az;exact λi _=>⟨rfl,rfl,rfl⟩
  refine dZ (aI hC hGL (aT ?_))
  refine dZ (aI hC hGL (aT ?_))
  intros
  refine dZ (jl ?_)
  refine ka hC hGL (λb:Nat=>CB v x b4 b5 bm b7 k++[(9,.own 5 (ke b))]) (λb=>qS b4 b5 bm b7 y (a8 (x.1.ps.take k)) (.slice pa pk pc) (bN x.2.t r (x.1.ps.take k))++[IQ b (x.1.ps.getD k Pr.z)]) (λ_=>True) ?_ ?_
  ·refine aT ?_
   intro b
   intros
   exact cy b trivial
  intro b9 _
  obtain⟨N,hN⟩:∃N,N=ao 97 122 (-32) (x.1.ps.getD k Pr.z).n:=⟨_,rfl⟩
  rw[<-hN] at hup
  refine cut hC hGL (CB v x b4 b5 bm b7 k++[(9,.own 5 (ke b9)),(10,.str N)]) (qS b4 b5 bm b7 y (a8 (x.1.ps.take k)) (.slice pa pk pc) (bN x.2.t r (x.1.ps.take k))++[IQ b9 (x.1.ps.getD k Pr.z)]) True ez λ_=> ?_
  refine ka hC hGL (λz:Nat×Nat=>CB v x b4 b5 bm b7 k++[(10,.str N),(11,.own 6 (.slice (some ⟨z.1,0,none⟩) (x.1.ps.getD k Pr.z).vs.length z.2))]) (λz=>qS b4 b5 bm b7 y (a8 (x.1.ps.take k)) (.slice pa pk pc) (bN x.2.t r (x.1.ps.take k))++[IQ b9 (x.1.ps.getD k Pr.z),KJ z.1 (x.1.ps.getD k Pr.z).vs.length z.2 (aY (x.1.ps.getD k Pr.z).vs)]) (λ_=>True) ?_ ?_
  ·refine aT ?_
   intro va vk vc hva
   intros
   obtain⟨b,rfl,rfl⟩:=hva hvl
   rw[hrc]
   exact cy (b,vc) trivial
  rintro⟨b,c⟩-
  dsimp only
  by_cases hT:N=nTYP
  ·obtain⟨e1,e2⟩:=K1 (t:=x.2.t) (r:=r) hk (by rw[<-hN];exact hT)
   subst hT
   have hlo:=λj=>gx (G:=G) ((x.1.ps.getD k Pr.z).vs.getD j []) (by have:=cR (l:=(x.1.ps.getD k Pr.z).vs) (k:=j);omega)
   refine dZ (aI hC hGL ?_)
   refine aT ?_
   intros
   refine lp hC hGL (λj:Nat=>CB v x b4 b5 bm b7 k++[(56,.own 6 (.slice (some ⟨b,0,none⟩) (x.1.ps.getD k Pr.z).vs.length c)),(57,.int .i64 ((x.1.ps.getD k Pr.z).vs.length:Nat)),(58,.int .i64 (j:Nat))]) (λj=>qS b4 b5 bm b7 y (jI (a8 (x.1.ps.take k)) (x.1.ps.getD k Pr.z).vs j) (.slice pa pk pc) (bN x.2.t r (x.1.ps.take k))++[IQ b9 (x.1.ps.getD k Pr.z),KJ b (x.1.ps.getD k Pr.z).vs.length c (aY (x.1.ps.getD k Pr.z).vs)]) (λj=>j<=(x.1.ps.getD k Pr.z).vs.length) (λj=>(x.1.ps.getD k Pr.z).vs.length-j) 0 (Nat.zero_le _) ai (by rw[A5]) ?_
   intro j j1
   by_cases hj:j<(x.1.ps.getD k Pr.z).vs.length
   ·have hg:=oa hj
    have hlo:=hlo j
    have hs:=A9 (a8 (x.1.ps.take k)) hj
    refine aT ?_
    intros
    refine⟨KB (i:=2) rfl rfl rfl rfl rfl rfl rfl rfl rfl ?_⟩
    refine bJ hC hGL _ _ _ ?_
    refine aT ?_
    intros
    refine eg (j+1) hj (by omega) ai ?_
    rw[hs]
    exact aH
   ·obtain rfl:j=(x.1.ps.getD k Pr.z).vs.length:=by omega
    rw[yN,<-e2]
    refine aT ?_
    intros
    refine⟨λ_=>aI hC hGL (aT ?_),λh=>absurd rfl h⟩
    intros
    refine eg (k+1,pa,pk,pc) ⟨hk,by dsimp only;rw[e1];exact k2⟩ (by show _-(k+1)<_-k;omega) ai ?_
    dsimp only
    rw[e1]
    exact aH
  refine cut hC hGL (CB v x b4 b5 bm b7 k++[(10,.str N),(11,.own 6 (.slice (some ⟨b,0,none⟩) (x.1.ps.getD k Pr.z).vs.length c))]) (qS b4 b5 bm b7 y (a8 (x.1.ps.take k)) (.slice pa pk pc) (bN x.2.t r (x.1.ps.take k))++[IQ b9 (x.1.ps.getD k Pr.z),KJ b (x.1.ps.getD k Pr.z).vs.length c (aY (x.1.ps.getD k Pr.z).vs)]) True ez λ_=> ?_
  by_cases hG:N=nLAN
  ·obtain⟨s0,hs0⟩:=List.length_eq_one_iff.1 (lj hw hk (.inr (by rw[<-hG,hN])))
   obtain⟨e1,e2⟩:=K3 (t:=x.2.t) (r:=r) hk (by rw[<-hN];exact hG) hs0
   have e3:(bN x.2.t r (x.1.ps.take (k+1))).length=(bN x.2.t r (x.1.ps.take k)).length+1:=by rw[e1,List.length_append];rfl
   subst hG
   have hlc:=ma (G:=G) hM s0 (by have h8:=hvh.2;rw[hs0] at h8;have:s0.length<=Lib.lens [s0]:=cR (l:=[s0]) (k:=0);omega)
   have hl1:(x.1.ps.getD k Pr.z).vs.length=1:=by rw[hs0];rfl
   rw[hl1,hs0,tv]
   refine cut hC hGL (CB v x b4 b5 bm b7 k++[(10,.str nLAN),(11,.own 6 (.slice (some ⟨b,0,none⟩) 1 c))]) (qS b4 b5 bm b7 y (a8 (x.1.ps.take k)) (.slice pa pk pc) (bN x.2.t r (x.1.ps.take k))++[IQ b9 (x.1.ps.getD k Pr.z),KJ b 1 c [.str (ii s0)]]) True ?_ λ_=> ?_
   ·refine aT ?_
    intros
    refine kp ⟨⟨_,rfl⟩,by decide⟩ ?_
    refine nu rfl rfl ?_
    refine aT ?_
    intros
    refine kp ⟨⟨_,rfl⟩,by decide,by decide⟩ ?_
    rw[aP]
    exact ez
   refine cut hC hGL (CB v x b4 b5 bm b7 k++[(10,.str nLAN),(11,.own 6 (.slice (some ⟨b,0,none⟩) 1 c))]) (qS b4 b5 bm b7 y (a8 (x.1.ps.take k)) (.slice pa pk pc) (bN x.2.t r (x.1.ps.take k))++[IQ b9 (x.1.ps.getD k Pr.z),KJ b 1 c [.str (ii s0)]]) True ez λ_=> ?_
   refine aI hC hGL (aT ?_)
   intro va vk vc hva
   intros
   refine uQ (aX xo (cL (e':=CB v x b4 b5 bm b7 k) (h':=qS b4 b5 bm b7 y (a8 (x.1.ps.take (k+1))) (.slice va vk vc) (bN x.2.t r (x.1.ps.take (k+1)))) ai ?_)) ?_
   ·dsimp only[qS];rw[e3,e1,e2];exact aH
   refine aI hC hGL (aT ?_)
   intros
   exact eg (k+1,va,vk,vc) ⟨hk,by dsimp only;rw[e3];exact hva⟩ (by show _-(k+1)<_-k;omega) ai aH
  refine cut hC hGL (CB v x b4 b5 bm b7 k++[(10,.str N),(11,.own 6 (.slice (some ⟨b,0,none⟩) (x.1.ps.getD k Pr.z).vs.length c))]) (qS b4 b5 bm b7 y (a8 (x.1.ps.take k)) (.slice pa pk pc) (bN x.2.t r (x.1.ps.take k))++[IQ b9 (x.1.ps.getD k Pr.z),KJ b (x.1.ps.getD k Pr.z).vs.length c (aY (x.1.ps.getD k Pr.z).vs)]) True ez λ_=> ?_
  by_cases hV:N=valN
  ·obtain⟨s0,hs0⟩:=List.length_eq_one_iff.1 (lj hw hk (.inl (by rw[<-hV,hN])))
   subst hV
   have hl1:(x.1.ps.getD k Pr.z).vs.length=1:=by rw[hs0];rfl
   rw[hl1,hs0,tv]
   unfold valN
   by_cases hr:r=x.2.t
   ·obtain⟨e1,e2⟩:=Ig (t:=x.2.t) (r:=r) hk hN.symm hr
    refine dZ (aI hC hGL (aT ?_))
    intro b14
    intros
    refine⟨λ_=>aI hC hGL (aT ?_),λh=>absurd rfl h⟩
    intros
    refine eg (k+1,pa,pk,pc) ⟨hk,by dsimp only;rw[e1];exact k2⟩ (by show _-(k+1)<_-k;omega) ai ?_
    dsimp only
    rw[e1,e2]
    exact aH
   ·obtain⟨e1,e2⟩:=If (t:=x.2.t) (r:=r) hk hN.symm hr
    have e3:(bN x.2.t r (x.1.ps.take (k+1))).length=(bN x.2.t r (x.1.ps.take k)).length+1:=by rw[e1,List.length_append];rfl
    refine EZ (λ_:Unit=>CB v x b4 b5 bm b7 k++[(10,.str valN),(11,.own 6 (.slice (some ⟨b,0,none⟩) 1 c))]) (λ_=>qS b4 b5 bm b7 y (a8 (x.1.ps.take k)) (.slice pa pk pc) (bN x.2.t r (x.1.ps.take k))++[IQ b9 (x.1.ps.getD k Pr.z),KJ b 1 c [.str (jV x.2.t)]]) (λ_=>True) (aI hC hGL ?_) ?_
    ·refine aT ?_
     intro b14
     intros
     refine kp ⟨⟨_,rfl⟩,by decide,by decide⟩ ?_
     rw[aP]
     refine aT ?_
     intros
     exact IS () trivial (cL ai aH)
    intro _ _
    refine aI hC hGL (aT ?_)
    intro va vk vc hva
    intros
    refine uQ (aX xo (cL (e':=CB v x b4 b5 bm b7 k) (h':=qS b4 b5 bm b7 y (a8 (x.1.ps.take (k+1))) (.slice va vk vc) (bN x.2.t r (x.1.ps.take (k+1)))) ai ?_)) ?_
    ·dsimp only[qS];rw[e3,e1,e2];exact aH
    refine aI hC hGL (aT ?_)
    intros
    exact eg (k+1,va,vk,vc) ⟨hk,by dsimp only;rw[e3];exact hva⟩ (by show _-(k+1)<_-k;omega) ai aH
  obtain⟨e1,e2⟩:=K2 (t:=x.2.t) (r:=r) hk (by rw[<-hN];exact hT) (by rw[<-hN];exact hV) (by rw[<-hN];exact hG)
  rw[<-hN] at e1
  have e3:(bN x.2.t r (x.1.ps.take (k+1))).length=(bN x.2.t r (x.1.ps.take k)).length+1:=by rw[e1,List.length_append];rfl
  refine cut hC hGL (CB v x b4 b5 bm b7 k++[(10,.str N),(11,.own 6 (.slice (some ⟨b,0,none⟩) (x.1.ps.getD k Pr.z).vs.length c))]) (qS b4 b5 bm b7 y (a8 (x.1.ps.take k)) (.slice pa pk pc) (bN x.2.t r (x.1.ps.take k))++[IQ b9 (x.1.ps.getD k Pr.z),KJ b (x.1.ps.getD k Pr.z).vs.length c (aY (x.1.ps.getD k Pr.z).vs)]) True (by unfold valN at hV;exact ez) λ_=> ?_
  refine aI hC hGL (aT ?_)
  intro va vk vc hva
  intros
  refine uQ (aX (uX rfl) (cL (e':=CB v x b4 b5 bm b7 k) (h':=qS b4 b5 bm b7 y (a8 (x.1.ps.take (k+1))) (.slice va vk vc) (bN x.2.t r (x.1.ps.take (k+1)))) ai ?_)) ?_
  ·dsimp only[qS];rw[e3,e1,e2];exact aH
  refine aI hC hGL (aT ?_)
  intros
  exact eg (k+1,va,vk,vc) ⟨hk,by dsimp only;rw[e3];exact hva⟩ (by show _-(k+1)<_-k;omega) ai aH
 rintro⟨pa,pk,pc⟩ k2
 dsimp only at k2 ⊢
 have hct:=hctl x.1.ps.length
 have hcl:=hcl x.1.ps.length
 rw[List.take_length] at hct hcl
 refine EZ (λ_:Option Addr×Nat×Nat=>rcJ b4 b5 b7) (λz=>qS b4 b5 bm b7 y (a8 x.1.ps) (.slice z.1 z.2.1 z.2.2) (kX x.2.t r x.1.ps)) (λz=>mR (kX x.2.t r x.1.ps).length z.1 z.2.1) (aI hC hGL ?_) ?_
 ·have hA:kX x.2.t r x.1.ps=bN x.2.t r x.1.ps++if a8 x.1.ps=[] then[] else[⟨nTYP,Lib.compact (eS (a8 x.1.ps))⟩]:=rfl
  rw[hA]
  by_cases h0:a8 x.1.ps=[]
  ·rw[if_pos h0,List.append_nil]
   have hk0:=ud.2 h0
   refine aT ?_
   refine⟨Dr (i:=2) rfl rfl rfl rfl rfl rfl ?_⟩
   refine bJ hC hGL _ _ _ ?_
   refine aT ?_
   intros
   exact IS (pa,pk,pc) k2 (cL ai aH)
  ·rw[if_neg h0]
   have hk1:0<(cx (a8 x.1.ps)).length:=Nat.pos_of_ne_zero λh=>h0 (ud.1 h)
   have hkl:=EC (a8 x.1.ps)
   refine aT ?_
   refine⟨Dr (i:=2) rfl rfl rfl rfl rfl rfl ?_⟩
   refine bJ hC hGL _ _ _ ?_
   refine aT ?_
   intros
   refine⟨Fi (i:=2) rfl rfl rfl rfl rfl rfl λbi=> ?_⟩
   refine bJ hC hGL _ _ _ ?_
   refine aT ?_
   intros
   refine kK 16 1 rfl ?_
   refine lp hC hGL (λz:Array Nat×Option Addr×Nat×Nat=>[(4,.own 0 (ke b4)),(5,.own 1 (ke b5)),(7,.own 3 (ke b7)),(16,.own 6 (.slice z.2.1 z.2.2.1 z.2.2.2)),(109,.raw (.pointer (some ⟨bi,0,none⟩)))]) (λz=>qS b4 b5 bm b7 y (a8 x.1.ps) (.slice pa pk pc) (bN x.2.t r x.1.ps)++[.obj bi (.mapIter (some bm) (cx (a8 x.1.ps)).length z.1 (cx (a8 x.1.ps)).length),.row (.slice z.2.1 z.2.2.1 z.2.2.2) none 1 (iN (cx (a8 x.1.ps)) z.1).length (aY (iN (cx (a8 x.1.ps)) z.1))]) (λz=>sy (cx (a8 x.1.ps)) z.1/\mR (iN (cx (a8 x.1.ps)) z.1).length z.2.1 z.2.2.1) (λz=>(leftOf (dT (cx (a8 x.1.ps))) z.1).size) (#[],none,0,0) ⟨DT,λh=>by simp[iN] at h⟩ ai ?_ ?_
   ·dsimp only
    rw[show iN (cx (a8 x.1.ps)) #[]=[] from rfl,DH]
    rfl
   rintro⟨seen,ua,uk,uc⟩ ⟨j1,j2⟩
   dsimp only at j1 j2 ⊢
   have hsn:=F9 j1
   have hvl:(iN (cx (a8 x.1.ps)) seen).length<=200000:=by unfold iN;rw[List.length_map,Array.length_toList];omega
   refine aT ?_
   refine⟨IF (A:=HJ) (i:=2) (j:=5) rfl rfl rfl rfl rfl F6 (Nat.le_refl _) Dj ?_ ?_⟩
   ·intro h9
    have hvp:0<(iN (cx (a8 x.1.ps)) seen).length:=by
     have h8:=tZ j1 (nr _).1 h9
     apply Nat.pos_of_ne_zero
     intro h7
     have h6:cx (a8 x.1.ps)=[]:=List.eq_nil_iff_forall_not_mem.2 λz hz=>by
      have:=(h8.2 z).2 hz
      rw[List.eq_nil_of_length_eq_zero h7] at this
      cases this
     rw[h6] at hk1
     exact absurd hk1 (Nat.lt_irrefl _)
    obtain⟨b,rfl,rfl⟩:=j2 hvp
    have hss:=yf (vf (G:=G) none b uc (iN (cx (a8 x.1.ps)) seen) (by omega))
    have hks:=EB j1 h9
    refine bJ hC hGL _ _ _ ?_
    refine aT ?_
    intros
    refine ax (i:=6) rfl hss ?_
    refine aT ?_
    intro va vk vc hva
    intros
    refine IS (va,vk,vc) ?_ (aX (uX dS.symm) (cL ai ?_))
    ·rw[List.length_append];exact hva
    ·dsimp only[qS]
     rw[hks,List.length_append]
     exact aH
   ·intro e he
    obtain⟨j,hj,rfl,hS1,hS2⟩:=JK j1 he
    rw[Dk]
    have hls:=left_shrinks _ _ _ he
    refine bJ hC hGL _ _ _ ?_
    refine aT ?_
    refine⟨Fp (A:=HJ) (i:=2) (j:=5) rfl rfl rfl rfl rfl (mem_left he).1 DR Dj ?_⟩
    rw[Dk]
    refine bJ hC hGL _ _ _ ?_
    refine aT ?_
    intro va vk vc hva
    intros
    have e5:(iN (cx (a8 x.1.ps)) (seen.push j)).length=(iN (cx (a8 x.1.ps)) seen).length+1:=by
     have:=congrArg List.length hS2
     rw[List.length_append] at this
     exact this
    refine eg (seen.push j,va,vk,vc) ⟨hS1,by dsimp only;rw[e5];exact hva⟩ hls ai ?_
    dsimp only
    rw[e5,show iN (cx (a8 x.1.ps)) (seen.push j)=_ from hS2,<-cM]
    exact aH
 rintro⟨pa,pk,pc⟩ k2
 dsimp only at k2 ⊢
 have hl20:(kX x.2.t r x.1.ps).length<=20:=by omega
 clear hcl hct hsl hKi hRu hlen hctl
 generalize kX x.2.t r x.1.ps=L at*
 refine Fg (i:=4) rfl λhpk=> ?_
 refine cut hC hGL (rcJ b4 b5 b7) [ep b4 Itm.z cr cr,ep b5 y cr (.list 1 y.2.L.length (bF y.2.L)),NQ bm (a8 x.1.ps),.cells b7 (some 22) [.own 4 (.slice pa pk pc)],.row (.slice pa pk pc) none 2 L.length (da (cO L))] True ?_ λ_=> ?_
 ·by_cases h1:L.length<=1
  ·rw[F0 h1]
   refine aT ?_
   intros
   refine kU (Ee _ b7 pc pk pa (by omega)) ?_
   exact ez
  ·obtain⟨b,rfl,rfl⟩:=k2 (by omega)
   have hrs:=Gn (G:=G) b7 b pc L (by omega) hl20
   refine aT ?_
   intros
   refine MO 3 4 rfl rfl (by decide) hrs ?_
   rw[aP]
   exact ez
 subst hy
 refine aI hC hGL (aT ?_)
 exact⟨[_],List.Sublist.cons _ (List.Sublist.cons _ (List.Sublist.cons _ (List.Sublist.cons _ (List.Sublist.refl _)))),4,_,rfl,rfl⟩
theorem sR {G:Glo}{m:Int}(hM:ab G (cw m))(hS:kb G)(v:Int)(x:Itm)(hx:x.OK 10000)(hw:x.w v=0):an prog G 7 [ij x,.int .i64 v] (ij (x.can v)):=lC (qR hM hS v x hx hw) λ_ _ h=>Be h
end
section
set_option maxHeartbeats 8000000
attribute [local irreducible] bI ap az aW ab ad aa
theorem mY {G:Glo}(hP:ew G)(n:Nat)(hn:n≤9223372036854775807):an prog G 188 [.int .i64 (n:Int),.int .i64 10] (.str (Lib.decDigits n)):=by
 refine cj rfl call188 ?_
 intro R args hr w hG hs
 obtain⟨x,t,e,hx,y,t',e',hy,rfl⟩:=hr
 have hx:=am.1 hx
 have hy:=am.1 hy
 subst hx hy
 obtain rfl:args=#[.int .i64 (n:Int),.int .i64 10]:=by cases args;simp_all
 have ht:Lib.TabIs prog w "internal/strconv.uint64pow10" .u64 Lib.pow10Tab:=by
  obtain⟨e,fz,hR⟩:=hP R hG
  have hg:prog.globalNamed "internal/strconv.uint64pow10" =some 10:=by kernel_rfl
  show w.var? prog "internal/strconv.uint64pow10" =_
  simp only[World.var?,hg,Option.bind_some,hs _ _ hR]
 refine(strconv_FormatInt_10 n (by omega) (by omega) w ht).mono ?_
 rintro e w' ⟨rfl,k,os,rfl⟩
 refine⟨?_,⟨rfl,rfl,rfl,?_,fun b hb=> ?_⟩⟩
 ·have:Lib.itoa (n:Int)=Lib.decDigits n:=by unfold Lib.itoa;rw[if_neg (by omega)];rfl
  rw[this]
  rfl
 ·show w.heap.size≤(w.heap++os).size
  rw[Array.size_append];omega
 ·show(w.heap++os)[b]? =w.heap[b]?
  rw[Array.getElem?_append_left hb]
theorem j3 {i:Nat}(h:100<=i)(h1:i<1000):Lib.decDigits i=[UInt8.ofNat (48+i/100),UInt8.ofNat (48+i/10%10),UInt8.ofNat (48+i%10)]:=by
 rw[Lib.decDigits,dif_neg (by omega),iD (by omega) (by omega),show i/10/10=i/100 by omega];rfl
theorem rS {i:Nat}(h:1000<=i)(h1:i<10000):Lib.decDigits i=[UInt8.ofNat (48+i/1000),UInt8.ofNat (48+i/100%10),UInt8.ofNat (48+i/10%10),UInt8.ofNat (48+i%10)]:=by
 rw[Lib.decDigits,dif_neg (by omega),j3 (by omega) (by omega),show i/10/10%10=i/100%10 by omega,show i/10/100=i/1000 by omega];rfl
theorem EN (i:Nat):fQ (i:Int)=[UInt8.ofNat (48+i/1000),UInt8.ofNat (48+i/100%10),UInt8.ofNat (48+i/10%10),UInt8.ofNat (48+i%10)]:=by
 unfold fQ bw;simp only[List.map];rw[show(48+(i:Int)/1000).toNat=48+i/1000 by omega,show(48+(i:Int)/100%10).toNat=48+i/100%10 by omega,show(48+(i:Int)/10%10).toNat=48+i/10%10 by omega,show(48+(i:Int)%10).toNat=48+i%10 by omega]
theorem pD {G:Glo}(hP:ew G)(i:Nat)(h1:i<10000):an prog G 134 [.int .i64 (i:Int),.int .i64 10,.int .i64 4] (.str (fQ i)):=by
 have hf:=mY (G:=G) hP i (by omega);rw[EN];by_cases h2:i<10
 ·rw[iE h2] at hf;refine aw func134 call134 λC hC hGL=> ?_;refine aZ ?_;intros;refine ja hC hGL 4 ?_;refine aZ ?_;intros;apply aj;rw[show i/1000=0 by omega,show i/100%10=0 by omega,show i/10%10=0 by omega,show i%10=i by omega];rfl
 by_cases h3:i<100
 ·rw[iD (by omega) h3] at hf;refine aw func134 call134 λC hC hGL=> ?_;refine aZ ?_;intros;refine ja hC hGL 3 ?_;refine aZ ?_;intros;apply aj;rw[show i/1000=0 by omega,show i/100%10=0 by omega,show i/10%10=i/10 by omega];rfl
 by_cases h4:i<1000
 ·rw[j3 (by omega) h4] at hf;refine aw func134 call134 λC hC hGL=> ?_;refine aZ ?_;intros;refine ja hC hGL 2 ?_;refine aZ ?_;intros;apply aj;rw[show i/1000=0 by omega,show i/100%10=i/100 by omega];rfl
 ·rw[rS (by omega) h1] at hf;refine aw func134 call134 λC hC hGL=> ?_;refine aZ ?_;intros;refine ja hC hGL 1 ?_;exact bK
end
end Go.Proofs.YtmdhmodenkjmdaaGreatDoor
