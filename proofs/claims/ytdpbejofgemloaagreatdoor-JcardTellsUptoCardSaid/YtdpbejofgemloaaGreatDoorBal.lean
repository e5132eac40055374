/- Parts of the proof of jcardTells_card: Vlh, Arc, Rui, Erl. -/
import Derived.Deep.DeepHandedRow
import Derived.Carry
import Derived.Test.YtdpbejofgemloaaGreatDoorBaj
import Derived.Test.YtdpbejofgemloaaGreatDoorBak
import Derived.Test.YtdpbejofgemloaaGreatDoorBag
import Derived.Test.YtdpbejofgemloaaGreatDoorBah
set_option linter.unusedVariables false
set_option linter.unusedSimpArgs false
set_option linter.unusedSectionVars false
namespace Go.Proofs.YtdpbejofgemloaaGreatDoor
set_option maxRecDepth 20000
set_option maxHeartbeats 4000000
section
open Go Go.ChangeShapes Go.WideShapes
theorem Ej {α:Type}{l:List α}(h:l.length=5):∃a b c d e,l=[a,b,c,d,e]:=by
 match l,h with
 |[a,b,c,d,e],_=>exact⟨a,b,c,d,e,rfl⟩
theorem zc {α:Type}{l:List α}(h:l.length=12):∃a b c d e f g i j k m n,l=[a,b,c,d,e,f,g,i,j,k,m,n]:=by
 match l,h with
 |[a,b,c,d,e,f,g,i,j,k,m,n],_=>exact⟨a,b,c,d,e,f,g,i,j,k,m,n,rfl⟩
theorem B3 {l:List (List UInt8)}{j:Nat}:(l.getD j []).length≤Lib.lens l:=cL
theorem zy {H:Type}{enc:TypeId×Value→H}{W:World}{spare:Nat→Bool}{held:Bool}{v:Value}{d:DataW H}{ps:List MemPlace}(h:DataW.Trod enc Tryz.prog W 0 spare held 46 v d ps)(hb:Rows.uptoBulk d≤1048576):
  ∃u:Vl,Rel (az W W.heap.size) u.A v∧u.s.length≤1048576∧Small u.L∧u.OK:=by
 obtain⟨fuel,h⟩:=h
 obtain⟨xs,n,_,hx,hl,hxl,hf⟩:=DataW.trod_struct Tryz.underlying46 h
 have hc:Tryz.prog.cellsOf 46=12:=by kernel_rfl
 have hci:Tryz.prog.cellsOf 3=1:=by kernel_rfl
 have hcs:Tryz.prog.cellsOf 9=1:=by kernel_rfl
 have hcp:Tryz.prog.cellsOf 42=1:=by kernel_rfl
 have hct:Tryz.prog.cellsOf 44=8:=by kernel_rfl
 rw[hc] at hl
 have hxl:xs.length=5:=hxl
 obtain⟨x0,x1,x2,x3,x4,rfl⟩:=Ej hxl
 obtain⟨u0,u1,u2,u3,u4,u5,u6,u7,u8,u9,u10,u11,hu⟩:=zc hl
 rw[hu] at hf
 have g0:DataW.trod enc Tryz.prog W 0 spare held n 3 (([u0,u1,u2,u3,u4,u5,u6,u7,u8,u9,u10,u11].drop 0).take (Tryz.prog.cellsOf 3))=some x0:=hf 0 _ rfl
 have g1:DataW.trod enc Tryz.prog W 0 spare held n 9 (([u0,u1,u2,u3,u4,u5,u6,u7,u8,u9,u10,u11].drop 1).take (Tryz.prog.cellsOf 9))=some x1:=hf 1 _ rfl
 have g2:DataW.trod enc Tryz.prog W 0 spare held n 42 (([u0,u1,u2,u3,u4,u5,u6,u7,u8,u9,u10,u11].drop 2).take (Tryz.prog.cellsOf 42))=some x2:=hf 2 _ rfl
 have g3:DataW.trod enc Tryz.prog W 0 spare held n 44 (([u0,u1,u2,u3,u4,u5,u6,u7,u8,u9,u10,u11].drop 3).take (Tryz.prog.cellsOf 44))=some x3:=hf 3 _ rfl
 have g4:DataW.trod enc Tryz.prog W 0 spare held n 3 (([u0,u1,u2,u3,u4,u5,u6,u7,u8,u9,u10,u11].drop 11).take (Tryz.prog.cellsOf 3))=some x4:=hf 4 _ rfl
 rw[hci] at g0 g4
 rw[hcs] at g1
 rw[hcp] at g2
 rw[hct] at g3
 simp only[List.drop_zero,List.drop_succ_cons,List.take_succ_cons,List.take_zero] at g0 g1 g2 g3 g4
 obtain rfl:d= .agg ([x0,x1,x2,x3,x4].map (·.1)):=(Prod.mk.inj hx).1
 simp only[List.map_cons,List.map_nil,Rows.uptoBulk,Rows.uptoBulkAll] at hb
 obtain⟨n0,q0,_,_⟩:=DataW.trod_int Tryz.underlying3 g0
 obtain⟨n4,q4,_,_⟩:=DataW.trod_int Tryz.underlying3 g4
 obtain⟨s1,q1,e1,_⟩:=DataW.trod_string Tryz.underlying9 g1
 obtain⟨L,r2,hs⟩:=zA g2 (by omega)
 obtain⟨t,r3⟩:=zz (R:=az W W.heap.size) (v:=.agg #[u3,u4,u5,u6,u7,u8,u9,u10]) (d:=x3.1) (ps:=x3.2) ⟨n,g3⟩
 have hbs:s1.data.toList.length≤1048576:=by
  rw[e1] at hb
  simp only[Rows.uptoBulk] at hb
  omega
 have hLk:=hs.k
 refine⟨⟨n0,s1.data.toList,L,t,n4⟩,⟨?_,?_⟩,hbs,hs,⟨by dsimp only;omega,hs.n,fun k=>(hLk k).1,fun k j=>by have h1:=B3 (l:=L.getD k []) (j:=j);have h2:=(hLk k).2;dsimp only;omega⟩⟩
 ·rw[hu]
  obtain rfl:=List.singleton_inj.1 q0
  obtain rfl:=List.singleton_inj.1 q1
  obtain rfl:=List.singleton_inj.1 q4
  have h3:RelL (az W W.heap.size) _ [u3,u4,u5,u6,u7,u8,u9,u10]:=r3.1
  exact⟨_,_,rfl,rfl,_,_,rfl,by rw[RelC,io],_,_,rfl,aP r2 rfl,aZ h3 ⟨_,_,rfl,rfl,rfl⟩⟩
 ·cases v with
  |agg cs=>rfl
  |_=>exact absurd (congrArg List.length hu) (by simp[Value.cells])
end
section
open Go Go.ChangeShapes Go.WideShapes Go.ChangeAt Go.RowKit Go.WideMaps Go.WideElems
section
variable {H:Type} {enc:TypeId×Value→H} {W:World}
theorem AX {α:Type}{l:List α}{n:Nat}(h:l.length=n):l.take n=l:=by rw[←h,List.take_length]
theorem Bp {fuel:Nat}{spare:Nat→Bool}{held:Bool}{cs:List Value}{x:DataW H×List MemPlace}(h:DataW.trod enc Tryz.prog W 0 spare held fuel 48 cs=some x)(hb:Rows.uptoBulk x.1≤1048576):
  ∃u:Itm,RelC (az W W.heap.size) (itR u) cs∧Itm.OK 1048576 u:=by
 obtain⟨xs,n,_,hx,hl,hxl,hf⟩:=DataW.trod_struct Tryz.underlying48 h
 have hc:Tryz.prog.cellsOf 48=15:=by kernel_rfl
 have hcs:Tryz.prog.cellsOf 9=1:=by kernel_rfl
 have hcp:Tryz.prog.cellsOf 41=1:=by kernel_rfl
 have hcv:Tryz.prog.cellsOf 46=12:=by kernel_rfl
 rw[hc] at hl
 have hxl:xs.length=4:=hxl
 obtain⟨x0,x1,x2,x3,rfl⟩:=Ei hxl
 obtain⟨u0,u1,u2,cv,hu⟩:∃u0 u1 u2 cv,cs=u0::u1::u2::cv:=by
  rcases cs with _|⟨u0,_|⟨u1,_|⟨u2,cv⟩⟩⟩
  ·simp at hl
  ·simp at hl
  ·simp at hl
  ·exact⟨u0,u1,u2,cv,rfl⟩
 rw[hu] at hf hl
 have hlv:cv.length=12:=by simpa using hl
 have g0:DataW.trod enc Tryz.prog W 0 spare held n 9 (((u0::u1::u2::cv).drop 0).take (Tryz.prog.cellsOf 9))=some x0:=hf 0 _ rfl
 have g1:DataW.trod enc Tryz.prog W 0 spare held n 9 (((u0::u1::u2::cv).drop 1).take (Tryz.prog.cellsOf 9))=some x1:=hf 1 _ rfl
 have g2:DataW.trod enc Tryz.prog W 0 spare held n 41 (((u0::u1::u2::cv).drop 2).take (Tryz.prog.cellsOf 41))=some x2:=hf 2 _ rfl
 have g3:DataW.trod enc Tryz.prog W 0 spare held n 46 (((u0::u1::u2::cv).drop 3).take (Tryz.prog.cellsOf 46))=some x3:=hf 3 _ rfl
 rw[hcs] at g0 g1
 rw[hcp] at g2
 rw[hcv] at g3
 simp only[List.drop_zero,List.drop_succ_cons,List.take_succ_cons,List.take_zero] at g0 g1 g2 g3
 rw[AX hlv] at g3
 obtain⟨d,pl⟩:=x
 obtain rfl:d= .agg ([x0,x1,x2,x3].map (·.1)):=(Prod.mk.inj hx).1
 simp only[List.map_cons,List.map_nil,Rows.uptoBulk,Rows.uptoBulkAll] at hb
 obtain⟨s0,q0,e0,_⟩:=DataW.trod_string Tryz.underlying9 g0
 obtain⟨s1,q1,e1,_⟩:=DataW.trod_string Tryz.underlying9 g1
 obtain⟨L,r2,hn,hk⟩:=v6 g2
 obtain⟨u,r3,h1,h2,_⟩:=zy (v:=.agg cv.toArray) (d:=x3.1) (ps:=x3.2) ⟨n,by simpa[Value.cells] using g3⟩ (by omega)
 rw[e0,e1] at hb
 simp only[Rows.uptoBulk] at hb
 refine⟨(⟨s0.data.toList,s1.data.toList,L,[]⟩,u),?_,⟨⟨?_,?_,Nat.zero_le _,?_,fun k=> ?_⟩,h1,h2⟩⟩
 ·rw[hu]
  obtain rfl:=List.singleton_inj.1 q0
  obtain rfl:=List.singleton_inj.1 q1
  have r3':RelC (az W W.heap.size) u.A cv:=by
   have:=r3.1
   rwa [show(Value.agg cv.toArray).cells.toList=cv by simp[Value.cells]] at this
  exact⟨_,_,rfl,by rw[RelC,io],_,_,rfl,by rw[RelC,io],_,_,rfl,aP r2 rfl,r3'⟩
 ·show s0.data.toList.length≤_;omega
 ·show s1.data.toList.length≤_;omega
 ·show L.length≤_;omega
 ·have:=hk k
  show(L.getD k Pr.z).n.length≤_∧(L.getD k Pr.z).vs.length≤_∧Lib.lens (L.getD k Pr.z).vs≤_
  omega
theorem zC {fuel:Nat}{spare:Nat→Bool}{held:Bool}{v:Value}{x:DataW H×List MemPlace}(h:DataW.trod enc Tryz.prog W 0 spare held fuel 22 [v]=some x)(hb:Rows.uptoBulk x.1≤1048576):
  ∃L:List Itm,Rel (az W W.heap.size) (.list 15 L.length (itsF L)) v∧L.length≤1048576∧∀y∈L,Itm.OK 1048576 y:=by
 have hc:Tryz.prog.cellsOf 48=15:=by kernel_rfl
 rcases Go.Deep.open_slice Tryz.underlying22 h with⟨hv,rfl⟩|⟨a,len,cap,m,n,D,Pl,hv,_,hl,_,hm,rfl,hx⟩
 ·obtain rfl:v= .slice none 0 0:=by simpa using hv
  exact⟨[],⟨⟨none,0,rfl,Nat.le_refl _,.inl rfl⟩,rfl⟩,Nat.zero_le _,fun y hy=>by cases hy⟩
 ·obtain rfl:v= .slice (some a) len cap:=by simpa using hv
  rw[hc] at hx
  have hlm:len≤m:=by rw[hm];split<;>omega
  simp only[Rows.uptoBulk] at hb
  have h1:=lr ((List.range len).map D)
  rw[List.length_map,List.length_range] at h1
  have hD:∀i,i<len→Rows.uptoBulk (D i)≤1048576:=fun i hi=>by
   have:=lq (d:=D i) (l:=(List.range len).map D) (List.mem_map.2 ⟨i,List.mem_range.2 hi,rfl⟩)
   omega
  obtain⟨Cx,hCx⟩:=Go.Deep.choose_lt (α:=List Value) (n:=len) (p:=fun i cs=>W.cells? 0 (a.add (i*15)) 15=some cs∧DataW.trod enc Tryz.prog W 0 spare held n 48 cs=some (D i,Pl i)) (fun i hi=>hx i (by omega))
  obtain⟨Lx,hLx⟩:=Go.Deep.choose_lt (α:=Itm) (n:=len) (p:=fun i q=>RelC (az W W.heap.size) (itR q) (Cx i)∧Itm.OK 1048576 q) (fun i hi=>Bp (hCx i hi).2 (hD i hi))
  let L:List Itm:=(List.range len).map Lx
  have hll:L.length=len:=by simp[L]
  have hget:∀i,i<len→L.getD i Itm.z=Lx i:=fun i hi=>by simp[L,List.getD,hi]
  refine⟨L,?_,by omega,yy fun k hk=> ?_⟩
  ·rw[hll]
   refine pY (by decide) hl (cs:=Cx) (fun i hi=>⟨(hCx i hi).1,?_⟩)
   unfold itsF
   rw[hget i hi]
   exact(hLx i hi).1
  ·rw[hget k (by omega)]
   exact(hLx k (by omega)).2
theorem Bq {spare:Nat→Bool}{held:Bool}{v:Value}{d:DataW H}{ps:List MemPlace}(h:DataW.Trod enc Tryz.prog W 0 spare held 24 v d ps)(hb:Rows.uptoBulk d≤1048576):
  ∃c:Crd,Rel (az W W.heap.size) c.A v∧c.l.length≤1048576∧∀y∈c.l,Itm.OK 1048576 y:=by
 obtain⟨fuel,h⟩:=h
 obtain⟨xs,n,_,hx,hl,hxl,hf⟩:=DataW.trod_struct Tryz.underlying24 h
 have hc:Tryz.prog.cellsOf 24=2:=by kernel_rfl
 have hci:Tryz.prog.cellsOf 3=1:=by kernel_rfl
 have hcl:Tryz.prog.cellsOf 22=1:=by kernel_rfl
 rw[hc] at hl
 have hxl:xs.length=2:=hxl
 obtain⟨x0,x1,rfl⟩:=qT hxl
 obtain⟨u0,u1,hu⟩:=qT hl
 rw[hu] at hf
 have g0:DataW.trod enc Tryz.prog W 0 spare held n 3 (([u0,u1].drop 0).take (Tryz.prog.cellsOf 3))=some x0:=hf 0 _ rfl
 have g1:DataW.trod enc Tryz.prog W 0 spare held n 22 (([u0,u1].drop 1).take (Tryz.prog.cellsOf 22))=some x1:=hf 1 _ rfl
 rw[hci] at g0
 rw[hcl] at g1
 simp only[List.drop_zero,List.drop_succ_cons,List.take_succ_cons,List.take_zero] at g0 g1
 obtain rfl:d= .agg ([x0,x1].map (·.1)):=(Prod.mk.inj hx).1
 simp only[List.map_cons,List.map_nil,Rows.uptoBulk,Rows.uptoBulkAll] at hb
 obtain⟨n0,q0,_,_⟩:=DataW.trod_int Tryz.underlying3 g0
 obtain⟨L,r1,h1,h2⟩:=zC g1 (by omega)
 refine⟨⟨n0,L⟩,⟨?_,?_⟩,h1,h2⟩
 ·rw[hu]
  obtain rfl:=List.singleton_inj.1 q0
  exact⟨_,_,rfl,rfl,_,_,rfl,aP r1 rfl,rfl⟩
 ·cases v with
  |agg cs=>rfl
  |_=>exact absurd (congrArg List.length hu) (by simp[Value.cells])
end
end
section
open Go Go.ChangeShapes Go.WideShapes
def E6:Glo:=⟨fun R=>∃e fz,R 0=some (.cells (Lib.asciiSpaceTab.map fun z=>Value.int .u8 z).toArray e fz),fun _ _ hle ⟨e,fz,h⟩=>⟨e,fz,hle _ _ h⟩⟩
theorem Dx {W:World}{k:Nat}(hk:0<k){laid:List (String×DataW Unit)}(hL:laidMetH Tryz.prog laid W)(hm:("strings.asciiSpace",Rows.laid_strings_asciiSpace)∈laid):E6.p (az W k):=by
 obtain⟨C,e,fz,fuel,p,hW,hd⟩:=gJ hL hm (by kernel_rfl) (g:=0) (t:=131) (by kernel_rfl) (by kernel_rfl)
 have e0:(Rows.laid_strings_asciiSpace:DataW Unit)= .agg (((List.range 256).map fun i=>if Lib.isSp (UInt8.ofNat i) then 1 else 0).map fun x:Nat=>.lit (.int .u8 (x:Int))):=by kernel_rfl
 rw[e0] at hd
 have hc:=lC (n:=256) Tryz.underlying131 Tryz.underlying5 (by kernel_rfl) (by kernel_rfl) hd (by rw[List.length_map,List.length_range])
 have e1:C=(Lib.asciiSpaceTab.map fun z=>Value.int .u8 z).toArray:=by
  apply Array.ext'
  rw[hc]
  kernel_rfl
 refine⟨e,fz,?_⟩
 unfold az
 rw[if_pos hk,hW,e1]
end
section
open Go Go.ChangeShapes Go.WideShapes Go.ChangeAt Go.RowKit Go.WideMaps Go.WideElems
theorem AS {H:Type}{enc:TypeId×Value→H}{P:Program}{W:World}{base:Nat}{spare:Nat→Bool}{fuel:Nat}{t:TypeId}{ms:Array (String×TypeId)}{cs:List Value}{nm:String}{x:DataW H}{p:List MemPlace}(ht:P.underlying t=some (.interface ms))(h:DataW.trod enc P W base spare false fuel t cs=some (.iface nm x,p)):∃u v,cs=[.iface u v]:=by
 cases fuel with
 |zero=>simp[DataW.trod] at h
 |succ n=>
  rcases cs with _|⟨c,_|⟨c2,r⟩⟩
  ·simp[DataW.trod,ht] at h
  ·cases c with
   |iface u v=>exact⟨_,_,rfl⟩
   |_=>simp[DataW.trod,ht] at h
  ·simp[DataW.trod,ht] at h
theorem uL {W:World}{laid:List (String×DataW Unit)}(hL:laidMetH Tryz.prog laid W){n nm:String}{x:DataW Unit}(hm:(n,.iface nm x)∈laid)(hn:(DataW.iface nm x).handleName?.isNone=true){g:Nat}(hg:Tryz.prog.globalNamed n=some g)(ht:(Tryz.prog.globals[g]?).map (·.type)=some 36):qP g (az W W.heap.size):=by
 obtain⟨C,e,fz,fuel,p,hW,hd⟩:=gJ hL hm hn hg ht
 obtain⟨u,v,h⟩:=AS Tryz.underlying36 hd
 refine⟨u,v,e,fz,?_⟩
 unfold az
 rw[if_pos (iP hW),hW]
 obtain⟨l⟩:=C
 obtain rfl:=h
 rfl
def Ed:Glo:=⟨fun R=>qP 8 R∧qP 9 R,fun _ _ hle ⟨⟨t,v,e,fz,h⟩,⟨t2,v2,e2,fz2,h2⟩⟩=>⟨⟨t,v,e,fz,hle _ _ h⟩,⟨t2,v2,e2,fz2,hle _ _ h2⟩⟩⟩
noncomputable def mD (m:Int):Glo:=rW (E7 (utfTy++errTy++bW m++shapesTy)) (rW Cr (rW Ed E6))
theorem Gp {m:Int}:ad (mD m) utfTy:=kY (jh fun x h=>List.mem_append_left _ (List.mem_append_left _ (List.mem_append_left _ h)))
theorem Gv {m:Int}:ad (mD m) errTy:=kY (jh fun x h=>List.mem_append_left _ (List.mem_append_left _ (List.mem_append_right _ h)))
theorem Gu {m:Int}:ad (mD m) (bW m):=kY (jh fun x h=>List.mem_append_left _ (List.mem_append_right _ h))
theorem Gq {m:Int}:ad (mD m) shapesTy:=kY (jh fun x h=>List.mem_append_right _ h)
theorem Gr {m:Int}:cQ (mD m):=fun _ h=>h.2.1
theorem Ew {m:Int}:lz (mD m):=fun _ h=>h.2.2.1
theorem G7 {m:Int}:SpIs (mD m):=fun _ h=>h.2.2.2
theorem F8 {W:World}{m:Int}(hm:W.cell? ⟨4,0,none⟩=some (.int .i64 m)){laid:List (String×DataW Unit)}(h0:("unicode/utf8.first",Rows.laid_unicode_utf8_first)∈laid)(h4:("unicode/utf8.acceptRanges",Rows.laid_unicode_utf8_acceptRanges)∈laid)(h1:("errors.errorType",Rows.laid_errors_errorType)∈laid)
  (h3:("visitingcard/visitingcardref.shapes",Rows.laid_visitingcard_visitingcardref_shapes)∈laid) (h2:("strings.asciiSpace",Rows.laid_strings_asciiSpace)∈laid) (h5:("internal/strconv.uint64pow10",Rows.laid_internal_strconv_uint64pow10)∈laid) (h6:("strconv.ErrSyntax",Rows.laid_strconv_ErrSyntax)∈laid) (h7:("strconv.ErrRange",Rows.laid_strconv_ErrRange)∈laid) (hL:laidMetH Tryz.prog laid W):(mD m).p (az W W.heap.size):=by
 refine⟨fun x hx=> ?_,BD (nb hL h5 (by kernel_rfl) (g:=10) (t:=309) (by kernel_rfl) (by kernel_rfl)) hL h5,⟨uL hL h6 (by kernel_rfl) (by kernel_rfl) (by kernel_rfl),uL hL h7 (by kernel_rfl) (by kernel_rfl) (by kernel_rfl)⟩,Dx (nb hL h2 (by kernel_rfl) (g:=0) (t:=131) (by kernel_rfl) (by kernel_rfl)) hL h2⟩
 simp only[List.cons_append,List.nil_append,List.mem_cons,List.not_mem_nil,or_false] at hx
 rcases hx with rfl|rfl|rfl|rfl|hx
 ·exact wP (nb hL h0 (by kernel_rfl) (g:=6) (t:=131) (by kernel_rfl) (by kernel_rfl)) hL h0
 ·exact vq (nb hL h4 (by kernel_rfl) (g:=7) (t:=268) (by kernel_rfl) (by kernel_rfl)) hL h4
 ·exact wY (Gi hL h1) hL h1
 ·exact wn (Ez hm) hm
 ·obtain rfl:=List.mem_singleton.1 (show x∈[(2,[AVal.list 3 7 qY])] from hx)
  exact sZ hL h3
end
end Go.Proofs.YtdpbejofgemloaaGreatDoor
