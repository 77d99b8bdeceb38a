/-
The laid variables as they lie.
-/
import Derived.Test.YthbhbkjkclhkgaaGreatDoorMX
import Derived.Test.YthbhbkjkclhkgaaGreatDoorS1
import Derived.Lib.LaidTab
import Derived.Test.YthbhbkjkclhkgaaGreatDoorA3
import Derived.OpenShut
import Derived.WalkKit
import Derived.ProofKit
import Derived.Test.YthbhbkjkclhkgaaGreatDoorXK
namespace Go.Cx
open Go Go.Cf Go.RowKit Go.ChangeShapes Go.WideShapes Go.Deep
set_option linter.unusedVariables false
set_option maxRecDepth 100000
def QQJ(P:Program)(t:TypeId):Option (List (Nat×TypeId)):=match P.underlying t with
 | some (.struct fs)=>some (fs.toList.map fun f=>(f.offset,f.type))
 | _=>none
theorem QWA{α:Type}:∀{L:List α},L.length=2→∃a b,L=[a,b]
 | [a,b],_=>⟨a,b,rfl⟩
theorem QQM{A:Type}{enc:TypeId×Value→A}{P:Program}{w:World}{base:Nat}{B:Nat→Bool}{held:Bool}{f:Nat}{t e:TypeId}{cs:List Value}{a b:Int}{p:List MemPlace}
  (c:QQJ P t=some [(0,e),(1,e)]) (he:P.underlying e=some (.int .i64)) (n:P.cellsOf e=1) (C:P.cellsOf t=2)
  (h:DataW.trod enc P w base B held f t cs=some (.agg [.lit (.int .i64 a),.lit (.int .i64 b)],p)):cs=[.int .i64 a,.int .i64 b]:=by
 cases f with
 | zero=>simp[DataW.trod]at h
 | succ f=>
  unfold QQJ at c;split at c
  rotate_left
  ·cases c
  rename_i fs o
  have c:=Option.some.inj c;simp only[DataW.trod,o,C]at h;split at h
  rotate_left
  ·cases h
  rename_i hl
  obtain⟨xs,d,hx⟩:=Option.map_eq_some_iff.1 h
  generalize fs.toList=L at *
  obtain⟨g,i,rfl⟩:∃g i,L=[g,i]:=QWA (by have:=congrArg List.length c;simpa using this);simp only[List.map_cons,List.map_nil,List.cons.injEq,Prod.mk.injEq,and_true]at c;obtain⟨⟨q,r⟩,s,t2⟩:=c;rw[List.mapM_cons]at d;obtain⟨D,h1,d⟩:=Option.bind_eq_some_iff.1 d;obtain⟨ys,j,d⟩:=Option.bind_eq_some_iff.1 d;obtain rfl:=(Option.some.inj d).symm;rw[List.mapM_cons]at j;obtain⟨E,k,u⟩:=Option.bind_eq_some_iff.1 j;obtain⟨zs,v,z⟩:=Option.bind_eq_some_iff.1 u;obtain rfl:=(Option.some.inj z).symm
  obtain rfl:zs=[]:=by simpa using v.symm
  rw[q,r,n]at h1;rw[s,t2,n]at k;obtain⟨F,l,rfl,_⟩:=DataW.trod_int he h1;obtain⟨G,m,rfl,_⟩:=DataW.trod_int he k;obtain⟨x,y,rfl⟩:=QWA hl;simp at l m;subst l m;have:=congrArg Prod.fst hx;simp at this;obtain⟨rfl,rfl⟩:=this;rfl
theorem tabType:(Pr.globals[1]?).map (·.type)=some 522:=by kernel_rfl
theorem cU:Pr.cellsOf 149=1:=by kernel_rfl
theorem cA:Pr.cellsOf 522=20:=by kernel_rfl
theorem Qfs{W:World}(h:Lib.TabIs Pr W "internal/strconv.uint64pow10" .u64 Lib.pow10Tab):GTab (mem W):=by
 unfold Lib.TabIs World.var? at h
 rw[globTab]at h
 simp only[Option.bind_some]at h
 show ∃e fr,W.heap[_]? = some _
 split at h
 ·rename_i cs e fr a
  obtain rfl:=Option.some.inj h
  exact⟨e,fr,a⟩
 ·cases h
theorem QS7{W:World}{a b:String×DataW Unit}{rest:List (String×DataW Unit)}(h:laidMet Pr (a::b::("internal/strconv.uint64pow10",Lib.tabData .u64 Lib.pow10Tab)::rest) W):GTab (mem W):=by
 obtain⟨ps,hv,_⟩:=h
 obtain⟨j,k⟩:=a
 obtain⟨l,m⟩:=b
 obtain⟨n,o,p,q,r,s,t,u,v,x,c,_⟩:=hv
 obtain⟨y,t2,z,A,B,C,D,E,F,G,d,_⟩:=c
 obtain⟨g3,t3,I,J,K,L,e,f,g,i,_,_⟩:=d
 obtain rfl:=Option.some.inj (globTab.symm.trans e)
 obtain rfl:=Option.some.inj (tabType.symm.trans f)
 refine Qfs ?_
 unfold Lib.TabIs
 rw[g]
 have:=Lib.cells_of_tab (by kernel_rfl:Pr.underlying 522=some (.array 20 149)) (by kernel_rfl:Pr.underlying 149=some (.int .u64)) cU cA i
 rw[←this]
theorem behNamed:Pr.globalNamed "outstation/index.behind" = some 0:=by kernel_rfl
theorem behType:(Pr.globals[0]?).map (·.type)=some 376:=by kernel_rfl
theorem Qao:QQJ Pr 376=some [(0,3),(1,3)]:=by kernel_rfl
theorem QSu{W:World}{a b c d:String×DataW Unit}{rest:List (String×DataW Unit)}(h:laidMet Pr (a::b::c::d::("outstation/index.behind",.agg [.lit (.int .i64 1099511627777),.lit (.int .i64 0)])::rest) W):GBeh (mem W):=by
 obtain⟨ps,hv,_⟩:=h
 obtain⟨l,m⟩:=a
 obtain⟨n,o⟩:=b
 obtain⟨p,q⟩:=c
 obtain⟨r,s⟩:=d
 obtain⟨t,u,v,x,y,z,A,B,C,D,hv,_⟩:=hv
 obtain⟨E,t2,F,G,I,J,K,L,M,N,hv,_⟩:=hv
 obtain⟨g3,t3,O,Q,R,S,T,U,V,X,hv,_⟩:=hv
 obtain⟨g4,t4,Y,Z,a0,a1,a2,a3,a4,a5,hv,_⟩:=hv
 obtain⟨a6,t5,a7,a8,a9,a',i,j,f,k,_,_⟩:=hv
 obtain rfl:=Option.some.inj (behNamed.symm.trans i)
 obtain rfl:=Option.some.inj (behType.symm.trans j)
 have hc:=QQM Qao (by kernel_rfl:Pr.underlying 3=some (.int .i64)) (by kernel_rfl:Pr.cellsOf 3=1) (by kernel_rfl:Pr.cellsOf 376=2) k
 unfold World.var? at f
 rw[behNamed]at f
 simp only[Option.bind_some]at f
 show ∃e fr,W.heap[_]? = some _
 split at f
 ·rename_i cs e fr g
  obtain rfl:=Option.some.inj f
  refine⟨e,fr,?_⟩
  rw[g]
  congr 2
  exact Array.toList_inj.1 hc
 ·cases f
variable {α:Type}{H:Type}{enc:TypeId×Value→H}{P:Program}{w:World}{base:Nat}{held:Bool}
theorem QXk[Inhabited α]{t e:TypeId}{E:Enc α}(m:P.underlying t=some (.slice e))(o:P.cellsOf e=E.sz)(h:QVO enc P w base held e E (fun a b=>a=b)) :
  QVO enc P w base held t SL (fun(s:Sl) (d:List α)=>s.n≤s.c∧RAr E s d (mem w)):=by
 intro f cs x hx;obtain⟨s,d,h1,g,zs,j,k,l⟩:=QUe m o h f cs x hx
 have:zs=d:=by
  apply List.ext_getElem k;intro i hi hj;exact l i _ _ (List.getElem?_eq_getElem hi) (List.getElem?_eq_getElem hj)
 subst this;exact⟨s,zs,h1,g,j⟩
theorem QaE{t:TypeId}(e:P.underlying t=some (.int .i64)):QVO enc P w base held t I64 (fun a b=>a=b):=by
 intro c cs x hx;obtain⟨a,b,h1,d,_⟩:=Qaj e c cs x hx;exact⟨a,b,h1,d⟩
theorem cc3:Pr.cellsOf 3=1:=by kernel_rfl
theorem QjY{b:Nat}{v:Value}{x:DataW H×List MemPlace}(h:DataW.trod enc Pr w base (fun _=>true) held b 3 [v]=some x):∃a:Int,v=.int .i64 a:=by
 obtain⟨a,_,h1,rfl⟩:=QaE (P:=Pr) (t:=3) (by kernel_rfl) _ _ _ h;exact⟨a,by simpa [I64]using h1⟩
theorem QX8:QVO enc Pr w base held 42 MVE (fun a b=>a=b):=by
 intro i cs x hx;obtain⟨xs,n,_,_,c,g,d⟩:=DataW.trod_struct Go.Proofs.Tryz.underlying42 hx
 have h:Pr.cellsOf 42=2:=by kernel_rfl
 rw[h]at c
 match xs,g,cs,c with
 | [y0,y1],_,[v0,v1],_=>
  have e:=d 0 _ rfl;have f:=d 1 _ rfl;simp[cc3]at e f;obtain⟨a,rfl⟩:=QjY e;obtain⟨b,rfl⟩:=QjY f;exact⟨(a,b),_,rfl,rfl⟩
theorem Qhs{c:Nat}{cs:List Value}{x:DataW H×List MemPlace}(h:DataW.trod enc Pr w base (fun _=>true) held c 22 cs=some x):∃(s:Sl) (a:List (Int×Int)),cs=[s.v]∧RAr MVE s a (mem w):=by
 obtain⟨s,a,h1,_,b⟩:=QXk (P:=Pr) (t:=22) (e:=42) (E:=MVE) (by kernel_rfl) (by kernel_rfl) QX8 _ _ _ h;exact⟨s,a,h1,b⟩
end Go.Cx
