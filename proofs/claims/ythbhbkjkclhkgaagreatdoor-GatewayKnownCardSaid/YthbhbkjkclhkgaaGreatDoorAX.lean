import Derived.Test.YthbhbkjkclhkgaaGreatDoorMX
import Derived.Test.YthbhbkjkclhkgaaGreatDoorS1
import Derived.Lib.LaidTab
import Derived.Test.YthbhbkjkclhkgaaGreatDoorA3
import Derived.OpenShut
import Derived.WalkKit
import Derived.ProofKit
namespace Go.Cx
open Go Go.Cf Go.RowKit Go.ChangeShapes Go.WideShapes Go.Deep
set_option linter.unusedVariables false
set_option maxRecDepth 100000
def QPa(P:Program)(t:TypeId):Option (List (Nat×TypeId)):=match P.underlying t with
 | some (.struct fs)=>some (fs.toList.map fun f=>(f.offset,f.type))
 | _=>none
theorem QUt{α:Type}:∀{L:List α},L.length=2→∃a b,L=[a,b]
 | [a,b],_=>⟨a,b,rfl⟩
theorem QPf{H:Type}{enc:TypeId×Value→H}{P:Program}{w:World}{base:Nat}{sp:Nat→Bool}{held:Bool}{fuel:Nat}{t e:TypeId}{cs:List Value}{a b:Int}{p:List MemPlace}
  (ht:QPa P t=some [(0,e),(1,e)]) (he:P.underlying e=some (.int .i64)) (hce:P.cellsOf e=1) (hct:P.cellsOf t=2)
  (h:DataW.trod enc P w base sp held fuel t cs=some (.agg [.lit (.int .i64 a),.lit (.int .i64 b)],p)):cs=[.int .i64 a,.int .i64 b]:=by
 cases fuel with
 | zero=>simp[DataW.trod]at h
 | succ fuel=>
  unfold QPa at ht;split at ht
  rotate_left
  ·cases ht
  rename_i fs hu
  have ht:=Option.some.inj ht;simp only[DataW.trod,hu,hct]at h;split at h
  rotate_left
  ·cases h
  rename_i hl
  obtain⟨xs,hm,hx⟩:=Option.map_eq_some_iff.1 h
  generalize fs.toList=L at *
  obtain⟨f1,f2,rfl⟩:∃f1 f2,L=[f1,f2]:=QUt (by have:=congrArg List.length ht;simpa using this);simp only[List.map_cons,List.map_nil,List.cons.injEq,Prod.mk.injEq,and_true]at ht;obtain⟨⟨o1,t1⟩,o2,t2⟩:=ht;rw[List.mapM_cons]at hm;obtain⟨y1,h1,hm⟩:=Option.bind_eq_some_iff.1 hm;obtain⟨ys,k2,hm⟩:=Option.bind_eq_some_iff.1 hm;obtain rfl:=(Option.some.inj hm).symm;rw[List.mapM_cons]at k2;obtain⟨y2,g2,hm2⟩:=Option.bind_eq_some_iff.1 k2;obtain⟨zs,h3,hm3⟩:=Option.bind_eq_some_iff.1 hm2;obtain rfl:=(Option.some.inj hm3).symm
  obtain rfl:zs=[]:=by simpa using h3.symm
  rw[o1,t1,hce]at h1;rw[o2,t2,hce]at g2;obtain⟨n1,c1,rfl,_⟩:=DataW.trod_int he h1;obtain⟨n2,c2,rfl,_⟩:=DataW.trod_int he g2;obtain⟨x,y,rfl⟩:=QUt hl;simp at c1 c2;subst c1 c2;have:=congrArg Prod.fst hx;simp at this;obtain⟨rfl,rfl⟩:=this;rfl
theorem tabType:(Pr.globals[1]?).map (·.type)=some 522:=by kernel_rfl
theorem cU:Pr.cellsOf 149=1:=by kernel_rfl
theorem cA:Pr.cellsOf 522=20:=by kernel_rfl
theorem QdD{W:World}(h:Lib.TabIs Pr W "internal/strconv.uint64pow10" .u64 Lib.pow10Tab):GTab (mem W):=by
 unfold Lib.TabIs World.var? at h
 rw[globTab]at h
 simp only[Option.bind_some]at h
 show ∃e fr,W.heap[_]? = some _
 split at h
 ·rename_i cs e fr hh
  obtain rfl:=Option.some.inj h
  exact⟨e,fr,hh⟩
 ·cases h
theorem QRP{W:World}{a b:String×DataW Unit}{rest:List (String×DataW Unit)}(h:laidMet Pr (a::b::("internal/strconv.uint64pow10",Lib.tabData .u64 Lib.pow10Tab)::rest) W):GTab (mem W):=by
 obtain⟨ps,hv,_⟩:=h
 obtain⟨n1,d1⟩:=a
 obtain⟨n2,d2⟩:=b
 obtain⟨g1,t1,cs1,fu1,p1,q1,hg1,ht1,hvar1,hd1,hv2,_⟩:=hv
 obtain⟨g2,t2,cs2,fu2,p2,q2,hg2,ht2,hvar2,hd2,hv3,_⟩:=hv2
 obtain⟨g3,t3,cs3,fu3,p3,q3,hg3,ht3,hvar3,hd3,_,_⟩:=hv3
 obtain rfl:=Option.some.inj (globTab.symm.trans hg3)
 obtain rfl:=Option.some.inj (tabType.symm.trans ht3)
 refine QdD ?_
 unfold Lib.TabIs
 rw[hvar3]
 have:=Lib.cells_of_tab (by kernel_rfl:Pr.underlying 522=some (.array 20 149)) (by kernel_rfl:Pr.underlying 149=some (.int .u64)) cU cA hd3
 rw[←this]
theorem behNamed:Pr.globalNamed "outstation/index.behind" = some 0:=by kernel_rfl
theorem behType:(Pr.globals[0]?).map (·.type)=some 376:=by kernel_rfl
theorem QYL:QPa Pr 376=some [(0,3),(1,3)]:=by kernel_rfl
theorem QRZ{W:World}{a b c d:String×DataW Unit}{rest:List (String×DataW Unit)}(h:laidMet Pr (a::b::c::d::("outstation/index.behind",.agg [.lit (.int .i64 1099511627777),.lit (.int .i64 0)])::rest) W):GBeh (mem W):=by
 obtain⟨ps,hv,_⟩:=h
 obtain⟨n1,d1⟩:=a
 obtain⟨n2,d2⟩:=b
 obtain⟨n3,d3⟩:=c
 obtain⟨n4,d4⟩:=d
 obtain⟨g1,t1,cs1,fu1,p1,q1,hg1,ht1,hvar1,hd1,hv,_⟩:=hv
 obtain⟨g2,t2,cs2,fu2,p2,q2,hg2,ht2,hvar2,hd2,hv,_⟩:=hv
 obtain⟨g3,t3,cs3,fu3,p3,q3,hg3,ht3,hvar3,hd3,hv,_⟩:=hv
 obtain⟨g4,t4,cs4,fu4,p4,q4,hg4,ht4,hvar4,hd4,hv,_⟩:=hv
 obtain⟨g5,t5,cs5,fu5,p5,q5,hg5,ht5,hvar5,hd5,_,_⟩:=hv
 obtain rfl:=Option.some.inj (behNamed.symm.trans hg5)
 obtain rfl:=Option.some.inj (behType.symm.trans ht5)
 have hc:=QPf QYL (by kernel_rfl:Pr.underlying 3=some (.int .i64)) (by kernel_rfl:Pr.cellsOf 3=1) (by kernel_rfl:Pr.cellsOf 376=2) hd5
 unfold World.var? at hvar5
 rw[behNamed]at hvar5
 simp only[Option.bind_some]at hvar5
 show ∃e fr,W.heap[_]? = some _
 split at hvar5
 ·rename_i cs e fr hh
  obtain rfl:=Option.some.inj hvar5
  refine⟨e,fr,?_⟩
  rw[hh]
  congr 2
  exact Array.toList_inj.1 hc
 ·cases hvar5
end Go.Cx
