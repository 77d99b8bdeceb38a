/-
The laid variables as they lie.
-/
import Derived.Test.YthbhbkjkclhkgaaGreatDoorMX
import Derived.Test.YthbhbkjkclhkgaaGreatDoorS1
import Derived.Lib.LaidTab
import Derived.Test.YthbhbkjkclhkgaaGreatDoorA3
import Derived.OpenShut
import Derived.WalkKit
import Derived.ProofKit
import Derived.Test.YthbhbkjkclhkgaaGreatDoorGK
namespace Go.Cx
open Go Go.Cf Go.RowKit Go.ChangeShapes Go.WideShapes Go.Deep
set_option linter.unusedVariables false
set_option maxRecDepth 100000
def QPk(P:Program)(t:TypeId):Option (List (Nat×TypeId)):=match P.underlying t with
 | some (.struct fs)=>some (fs.toList.map fun f=>(f.offset,f.type))
 | _=>none
theorem QUn{α:Type}:∀{L:List α},L.length=2→∃a b,L=[a,b]
 | [a,b],_=>⟨a,b,rfl⟩
theorem QOr{H:Type}{enc:TypeId×Value→H}{P:Program}{w:World}{base:Nat}{sp:Nat→Bool}{held:Bool}{fuel:Nat}{t e:TypeId}{cs:List Value}{a b:Int}{p:List MemPlace}
  (ht:QPk P t=some [(0,e),(1,e)]) (he:P.underlying e=some (.int .i64)) (hce:P.cellsOf e=1) (hct:P.cellsOf t=2)
  (h:DataW.trod enc P w base sp held fuel t cs=some (.agg [.lit (.int .i64 a),.lit (.int .i64 b)],p)):cs=[.int .i64 a,.int .i64 b]:=by
 cases fuel with
 | zero=>simp[DataW.trod]at h
 | succ fuel=>
  unfold QPk at ht;split at ht
  rotate_left
  ·cases ht
  rename_i fs hu
  have ht:=Option.some.inj ht;simp only[DataW.trod,hu,hct]at h;split at h
  rotate_left
  ·cases h
  rename_i hl
  obtain⟨xs,hm,hx⟩:=Option.map_eq_some_iff.1 h
  generalize fs.toList=L at *
  obtain⟨f1,f2,rfl⟩:∃f1 f2,L=[f1,f2]:=QUn (by have:=congrArg List.length ht;simpa using this);simp only[List.map_cons,List.map_nil,List.cons.injEq,Prod.mk.injEq,and_true]at ht;obtain⟨⟨o1,t1⟩,o2,t2⟩:=ht;rw[List.mapM_cons]at hm;obtain⟨y1,h1,hm⟩:=Option.bind_eq_some_iff.1 hm;obtain⟨ys,k2,hm⟩:=Option.bind_eq_some_iff.1 hm;obtain rfl:=(Option.some.inj hm).symm;rw[List.mapM_cons]at k2;obtain⟨y2,g2,hm2⟩:=Option.bind_eq_some_iff.1 k2;obtain⟨zs,h3,hm3⟩:=Option.bind_eq_some_iff.1 hm2;obtain rfl:=(Option.some.inj hm3).symm
  obtain rfl:zs=[]:=by simpa using h3.symm
  rw[o1,t1,hce]at h1;rw[o2,t2,hce]at g2;obtain⟨n1,c1,rfl,_⟩:=DataW.trod_int he h1;obtain⟨n2,c2,rfl,_⟩:=DataW.trod_int he g2;obtain⟨x,y,rfl⟩:=QUn hl;simp at c1 c2;subst c1 c2;have:=congrArg Prod.fst hx;simp at this;obtain⟨rfl,rfl⟩:=this;rfl
theorem tabType:(Pr.globals[1]?).map (·.type)=some 522:=by kernel_rfl
theorem cU:Pr.cellsOf 149=1:=by kernel_rfl
theorem cA:Pr.cellsOf 522=20:=by kernel_rfl
theorem Qcw{W:World}(h:Lib.TabIs Pr W "internal/strconv.uint64pow10" .u64 Lib.pow10Tab):GTab (mem W):=by
 unfold Lib.TabIs World.var? at h
 rw[globTab]at h
 simp only[Option.bind_some]at h
 show ∃e fr,W.heap[_]? = some _
 split at h
 ·rename_i cs e fr hh
  obtain rfl:=Option.some.inj h
  exact⟨e,fr,hh⟩
 ·cases h
theorem QQy{W:World}{a b:String×DataW Unit}{rest:List (String×DataW Unit)}(h:laidMet Pr (a::b::("internal/strconv.uint64pow10",Lib.tabData .u64 Lib.pow10Tab)::rest) W):GTab (mem W):=by
 obtain⟨ps,hv,_⟩:=h
 obtain⟨n1,d1⟩:=a
 obtain⟨n2,d2⟩:=b
 obtain⟨g1,t1,cs1,fu1,p1,q1,hg1,ht1,hvar1,hd1,hv2,_⟩:=hv
 obtain⟨g2,t2,cs2,fu2,p2,q2,hg2,ht2,hvar2,hd2,hv3,_⟩:=hv2
 obtain⟨g3,t3,cs3,fu3,p3,q3,hg3,ht3,hvar3,hd3,_,_⟩:=hv3
 obtain rfl:=Option.some.inj (globTab.symm.trans hg3)
 obtain rfl:=Option.some.inj (tabType.symm.trans ht3)
 refine Qcw ?_
 unfold Lib.TabIs
 rw[hvar3]
 have:=Lib.cells_of_tab (by kernel_rfl:Pr.underlying 522=some (.array 20 149)) (by kernel_rfl:Pr.underlying 149=some (.int .u64)) cU cA hd3
 rw[←this]
theorem behNamed:Pr.globalNamed "outstation/index.behind" = some 0:=by kernel_rfl
theorem behType:(Pr.globals[0]?).map (·.type)=some 376:=by kernel_rfl
theorem QZK:QPk Pr 376=some [(0,3),(1,3)]:=by kernel_rfl
theorem QRJ{W:World}{a b c d:String×DataW Unit}{rest:List (String×DataW Unit)}(h:laidMet Pr (a::b::c::d::("outstation/index.behind",.agg [.lit (.int .i64 1099511627777),.lit (.int .i64 0)])::rest) W):GBeh (mem W):=by
 obtain⟨ps,hv,_⟩:=h
 obtain⟨n1,d1⟩:=a
 obtain⟨n2,d2⟩:=b
 obtain⟨n3,d3⟩:=c
 obtain⟨n4,d4⟩:=d
 obtain⟨g1,t1,cs1,fu1,p1,q1,hg1,ht1,hvar1,hd1,hv,_⟩:=hv
 obtain⟨g2,t2,cs2,fu2,p2,q2,hg2,ht2,hvar2,hd2,hv,_⟩:=hv
 obtain⟨g3,t3,cs3,fu3,p3,q3,hg3,ht3,hvar3,hd3,hv,_⟩:=hv
 obtain⟨g4,t4,cs4,fu4,p4,q4,hg4,ht4,hvar4,hd4,hv,_⟩:=hv
 obtain⟨g5,t5,cs5,fu5,p5,q5,hg5,ht5,hvar5,hd5,_,_⟩:=hv
 obtain rfl:=Option.some.inj (behNamed.symm.trans hg5)
 obtain rfl:=Option.some.inj (behType.symm.trans ht5)
 have hc:=QOr QZK (by kernel_rfl:Pr.underlying 3=some (.int .i64)) (by kernel_rfl:Pr.cellsOf 3=1) (by kernel_rfl:Pr.cellsOf 376=2) hd5
 unfold World.var? at hvar5
 rw[behNamed]at hvar5
 simp only[Option.bind_some]at hvar5
 show ∃e fr,W.heap[_]? = some _
 split at hvar5
 ·rename_i cs e fr hh
  obtain rfl:=Option.some.inj hvar5
  refine⟨e,fr,?_⟩
  rw[hh]
  congr 2
  exact Array.toList_inj.1 hc
 ·cases hvar5
variable {α:Type}{H:Type}{enc:TypeId×Value→H}{P:Program}{w:World}{base:Nat}{held:Bool}
theorem QVj[Inhabited α]{t e:TypeId}{E:Enc α}(ht:P.underlying t=some (.slice e))(ce:P.cellsOf e=E.sz)(h:QNC enc P w base held e E (fun a b=>a=b)) :
  QNC enc P w base held t SL (fun(s:Sl) (bs:List α)=>s.n≤s.c∧RAr E s bs (mem w)):=by
 intro fuel cs x hx;obtain⟨s,bs,h1,h2,zs,h3,h4,h5⟩:=QTh ht ce h fuel cs x hx
 have:zs=bs:=by
  apply List.ext_getElem h4;intro i hi hj;exact h5 i _ _ (List.getElem?_eq_getElem hi) (List.getElem?_eq_getElem hj)
 subst this;exact⟨s,zs,h1,h2,h3⟩

theorem QXa{t:TypeId}(ht:P.underlying t=some .string):QNC enc P w base held t Cf.ST (fun a b=>a=b):=by
 intro fuel cs x hx;obtain⟨s,hcs,_⟩:=DataW.trod_string ht hx;exact⟨s,s,hcs,rfl⟩
theorem QWX{t:TypeId}(ht:P.underlying t=some .bool):QNC enc P w base held t BL (fun a b=>a=b):=by
 intro fuel cs x hx;obtain⟨s,hcs,_⟩:=DataW.trod_bool ht hx;exact⟨s,s,hcs,rfl⟩
theorem QZv{t:TypeId}(ht:P.underlying t=some (.int .i64)):QNC enc P w base held t I64 (fun a b=>a=b):=by
 intro fuel cs x hx;obtain⟨a,b,h1,h2,_⟩:=QY9 ht fuel cs x hx;exact⟨a,b,h1,h2⟩
theorem cc3:Pr.cellsOf 3=1:=by kernel_rfl
theorem cc4:Pr.cellsOf 4=1:=by kernel_rfl
theorem cc9:Pr.cellsOf 9=1:=by kernel_rfl
theorem c99:Pr.cellsOf 99=6:=by kernel_rfl
theorem Qgz:Pr.cellsOf 101=2:=by kernel_rfl
theorem QhB:Pr.cellsOf 103=6:=by kernel_rfl

theorem QQB{fuel:Nat}{v:Value}{x:DataW H×List MemPlace}(h:DataW.trod enc Pr w base (fun _=>true) held fuel 3 [v]=some x):∃a:Int,v=.int .i64 a:=by
 obtain⟨a,_,h1,rfl⟩:=QZv (P:=Pr) (t:=3) (by kernel_rfl) _ _ _ h;exact⟨a,by simpa [I64]using h1⟩
theorem QWA{fuel:Nat}{v:Value}{x:DataW H×List MemPlace}(h:DataW.trod enc Pr w base (fun _=>true) held fuel 4 [v]=some x):∃a:Bool,v=.bool a:=by
 obtain⟨a,_,h1,rfl⟩:=QWX (P:=Pr) (t:=4) (by kernel_rfl) _ _ _ h;exact⟨a,by simpa [BL]using h1⟩
theorem QhY{fuel:Nat}{v:Value}{x:DataW H×List MemPlace}(h:DataW.trod enc Pr w base (fun _=>true) held fuel 9 [v]=some x):∃a:ByteArray,v=.string a:=by
 obtain⟨a,_,h1,rfl⟩:=QXa (P:=Pr) (t:=9) (by kernel_rfl) _ _ _ h;exact⟨a,by simpa [Cf.ST]using h1⟩

theorem QfL{fuel:Nat}{cs:List Value}{x:DataW H×List MemPlace}(h:DataW.trod enc Pr w base (fun _=>true) held fuel 99 cs=some x):∃(a b c:Bool) (d e f:Int),cs=[.bool a,.bool b,.bool c,.int .i64 d,.int .i64 e,.int .i64 f]:=by
 obtain⟨xs,n,_,_,hlen,hxs,hf⟩:=DataW.trod_struct Go.Proofs.Tryz.underlying99 h;rw[c99]at hlen
 match xs,hxs,cs,hlen with
 | [y0,y1,y2,y3,y4,y5],_,[v0,v1,v2,v3,v4,v5],_=>
  have g0:=hf 0 _ rfl;have g1:=hf 1 _ rfl;have g2:=hf 2 _ rfl;have g3:=hf 3 _ rfl;have g4:=hf 4 _ rfl;have g5:=hf 5 _ rfl;simp[cc3,cc4]at g0 g1 g2 g3 g4 g5;obtain⟨a,rfl⟩:=QWA g0;obtain⟨b,rfl⟩:=QWA g1;obtain⟨c,rfl⟩:=QWA g2;obtain⟨d,rfl⟩:=QQB g3;obtain⟨e,rfl⟩:=QQB g4;obtain⟨f,rfl⟩:=QQB g5;exact⟨a,b,c,d,e,f,rfl⟩
theorem QgM{fuel:Nat}{cs:List Value}{x:DataW H×List MemPlace}(h:DataW.trod enc Pr w base (fun _=>true) held fuel 101 cs=some x):∃(d e:Int),cs=[.int .i64 d,.int .i64 e]:=by
 obtain⟨xs,n,_,_,hlen,hxs,hf⟩:=DataW.trod_struct Go.Proofs.Tryz.underlying101 h;rw[Qgz]at hlen
 match xs,hxs,cs,hlen with
 | [y0,y1],_,[v0,v1],_=>
  have g0:=hf 0 _ rfl;have g1:=hf 1 _ rfl;simp[cc3,cc4]at g0 g1;obtain⟨a,rfl⟩:=QQB g0;obtain⟨b,rfl⟩:=QQB g1;exact⟨a,b,rfl⟩
theorem QhN{fuel:Nat}{cs:List Value}{x:DataW H×List MemPlace}(h:DataW.trod enc Pr w base (fun _=>true) held fuel 103 cs=some x):∃(a b c:Bool) (d e f:Int),cs=[.bool a,.bool b,.bool c,.int .i64 d,.int .i64 e,.int .i64 f]:=by
 obtain⟨xs,n,_,_,hlen,hxs,hf⟩:=DataW.trod_struct Go.Proofs.Tryz.underlying103 h;rw[QhB]at hlen
 match xs,hxs,cs,hlen with
 | [y0,y1,y2,y3,y4,y5],_,[v0,v1,v2,v3,v4,v5],_=>
  have g0:=hf 0 _ rfl;have g1:=hf 1 _ rfl;have g2:=hf 2 _ rfl;have g3:=hf 3 _ rfl;have g4:=hf 4 _ rfl;have g5:=hf 5 _ rfl;simp[cc3,cc4]at g0 g1 g2 g3 g4 g5;obtain⟨a,rfl⟩:=QWA g0;obtain⟨b,rfl⟩:=QWA g1;obtain⟨c,rfl⟩:=QWA g2;obtain⟨d,rfl⟩:=QQB g3;obtain⟨e,rfl⟩:=QQB g4;obtain⟨f,rfl⟩:=QQB g5;exact⟨a,b,c,d,e,f,rfl⟩

theorem QXd:QNC enc Pr w base held 105 Pn.TG (fun a b=>a=b):=by
 intro fuel cs x hx;obtain⟨xs,n,_,_,hlen,hxs,hf⟩:=DataW.trod_struct Go.Proofs.Tryz.underlying105 hx
 have ce:Pr.cellsOf 105=19:=by kernel_rfl
 rw[ce]at hlen
 match xs,hxs,cs,hlen with
 | [y0,y1,y2,y3,y4,y5,y6,y7],_,[v0,v1,v2,v3,v4,v5,v6,v7,v8,v9,v10,v11,v12,v13,v14,v15,v16,v17,v18],_=>
  have g0:=hf 0 _ rfl;have g1:=hf 1 _ rfl;have g2:=hf 2 _ rfl;have g3:=hf 3 _ rfl;have g4:=hf 4 _ rfl;have g5:=hf 5 _ rfl;have g6:=hf 6 _ rfl;have g7:=hf 7 _ rfl;simp[cc3,cc4,cc9,c99,Qgz,QhB]at g0 g1 g2 g3 g4 g5 g6 g7;obtain⟨a0,rfl⟩:=QhY g0;obtain⟨a1,rfl⟩:=QQB g1;obtain⟨a2,rfl⟩:=QQB g2;obtain⟨a3,rfl⟩:=QQB g3;obtain⟨a4,rfl⟩:=QQB g4;obtain⟨b0,b1,b2,b3,b4,b5,e1⟩:=QfL g5;obtain⟨d0,d1,e2⟩:=QgM g6;obtain⟨l0,l1,l2,l3,l4,l5,e3⟩:=QhN g7;simp only[List.cons.injEq,and_true]at e1 e2 e3;obtain⟨rfl,rfl,rfl,rfl,rfl,rfl⟩:=e1;obtain⟨rfl,rfl⟩:=e2;obtain⟨rfl,rfl,rfl,rfl,rfl,rfl⟩:=e3;exact⟨⟨a0,a1,a2,a3,a4,b0,b1,b2,b3,b4,b5,d0,d1,l0,l1,l2,l3,l4,l5⟩,_,rfl,rfl⟩

instance:Inhabited Pn.Tag:=⟨⟨ByteArray.empty,0,0,0,0,false,false,false,0,0,0,0,0,false,false,false,0,0,0⟩⟩
theorem QXM:QNC enc Pr w base held 25 SL (fun(s:Sl) (bs:List Pn.Tag)=>s.n≤s.c∧RAr Pn.TG s bs (mem w)):=QVj (e:=105) (by kernel_rfl) (by kernel_rfl) QXd
theorem sl1{v:Value}{s:Sl}(h:[v]=SL.f s):v=s.v:=by simpa [SL]using h
theorem c25:Pr.cellsOf 25=1:=by kernel_rfl

theorem QdB{fuel:Nat}{cs:List Value}{x:DataW H×List MemPlace}(h:DataW.trod enc Pr w base (fun _=>true) held fuel 27 cs=some x):∃(c:Cfg) (s:Sl),cs=c.cs s∧s.n≤s.c∧RAr Pn.TG s c.tags (mem w):=by
 obtain⟨xs,n,_,hx0,hlen,hxs,hf⟩:=DataW.trod_struct Go.Proofs.Tryz.underlying27 h
 have ce:Pr.cellsOf 27=7:=by kernel_rfl
 rw[ce]at hlen;subst hx0
 match xs,hxs,cs,hlen with
 | [y0,y1,y2,y3,y4,y5,y6],_,[v0,v1,v2,v3,v4,v5,v6],_=>
  have g0:=hf 0 _ rfl;have g1:=hf 1 _ rfl;have g2:=hf 2 _ rfl;have g3:=hf 3 _ rfl;have g4:=hf 4 _ rfl;have g5:=hf 5 _ rfl;have g6:=hf 6 _ rfl;simp[cc3,c25]at g0 g1 g2 g3 g4 g5 g6;obtain⟨a0,rfl⟩:=QQB g0;obtain⟨a1,rfl⟩:=QQB g1;obtain⟨a2,rfl⟩:=QQB g2;obtain⟨a3,rfl⟩:=QQB g3;obtain⟨a4,rfl⟩:=QQB g4;obtain⟨a5,rfl⟩:=QQB g5;obtain⟨s,ts,hs,hc,hr⟩:=QXM _ _ _ g6;obtain rfl:=sl1 hs;exact⟨⟨a0,a1,a2,a3,a4,a5,ts⟩,s,rfl,hc,hr⟩

end Go.Cx
