/-
  A reading of Go's operations as a formula over worlds, computed out of the code by 'wpF', and the proof that the formula gives a contract of the call.
-/
import Derived.OrdersIn
import Derived.LoopNIn
import Derived.RangeFuncRecord
import Derived.KernelRfl
import Derived.Laws.World
import Derived.Laws.Slices
import Derived.Laws.Entries
import Derived.Laws.Tables
set_option linter.unusedSectionVars false
namespace Go.Cf
open Go
abbrev FF (rn:Option Nat):Fence:={ fn:=fun _=>True,depth:=none,alive:=false,round:=rn }
theorem stepsIn_ff {rn:Option Nat}{P:Program}{m m':Machine}:StepsIn (Machine.fenced P (FF rn)) P m m'↔Steps P m m':=stepsIn_wide
theorem callsIn_ff {rn:Option Nat}{n:Nat}{P:Program}{f:FuncId}{args:Array Value}{w:World}{R:Ending→World→Prop}:CallsIn (FF rn) n P f args w R↔Calls P f args w R:=callsIn_wide (n:=n)
theorem rowsIn_ff {rn:Option Nat}{n:Nat}{P:Program}{row:String}{args:Array Value}{w:World}{R:Value→World→Prop}(h:Rows P row args w R):RowsIn (FF rn) n P row args w R:=
  fun c cs _=>let ⟨v,w',r,s⟩:=h c cs;⟨v,w',r,stepsIn_ff.2 s⟩
theorem wpIn_of_wp {rn:Option Nat}{P:Program}{o:Oper}{a:Act}{w:World}{next:Act→World→Prop}{Q:Exit→Act→World→Prop}(hd:∀ c,o.op≠.defer c) (h:o.wp P a w next Q):o.wpIn (FF rn) 0 P a w next Q:=by
  refine ⟨fun _ _=>trivial,?_⟩
  rw [Oper.semAt_eq _ _ _ hd]
  unfold Oper.wp at h
  generalize (execOp a.eval o).run P w=r at h ⊢
  unfold Oper.upon at h
  split at h
  · exact h
  · exact h
  · exact h
  · exact ⟨fun h=>(by cases h),callsIn_ff.2 h⟩
  · exact ⟨fun h=>(by cases h),rowsIn_ff h⟩
  · exact h
  · exact h.elim
abbrev WP:=World→Prop
structure Sl where
  p:Option Addr
  n:Nat
  c:Nat
inductive Sh where
  | int (k:IntKind)
  | bool
  | str
  | ptr
  | slice
  | map
  | val
abbrev Sh.ty:Sh→Type
  | .int _=>Int
  | .bool=>Bool
  | .str=>ByteArray
  | .ptr=>Option Addr
  | .slice=>Sl
  | .map=>Option Nat
  | .val=>Value
abbrev Sl.v (s:Sl):Value:=.slice s.p s.n s.c
abbrev Sh.mk:(s:Sh)→s.ty→Value
  | .int k,x=>.int k x
  | .bool,x=>.bool x
  | .str,x=>.string x
  | .ptr,x=>.pointer x
  | .slice,x=>x.v
  | .map,x=>.map x
  | .val,x=>x
def Sh.un:(s:Sh)→Value→Option s.ty
  | .int k,.int k' x=>if k=k' then some x else none
  | .bool,.bool x=>some x
  | .str,.string x=>some x
  | .ptr,.pointer x=>some x
  | .slice,.slice p n c=>some ⟨p,n,c⟩
  | .map,.map x=>some x
  | .val,x=>some x
  | _,_=>none
theorem Sh.mk_un {s:Sh}{v:Value}{x:s.ty}(h:s.un v=some x):s.mk x=v:=by
  cases s<;>cases v<;>simp only [Sh.un,Option.some.injEq,reduceCtorEq] at h<;>first
    | (subst h;rfl)
    | (split at h<;>first | (rename_i hk;subst hk;simp only [Option.some.injEq] at h;subst h;rfl) | cases h)
def shOf:Value→Sh
  | .int k _=>.int k
  | .bool _=>.bool
  | .string _=>.str
  | .pointer _=>.ptr
  | .slice _ _ _=>.slice
  | .map _=>.map
  | _=>.val
abbrev Tup:List Sh→Type
  | []=>Unit
  | s::ss=>s.ty×Tup ss
def Tup.vals:(ss:List Sh)→Tup ss→List Value
  | [],_=>[]
  | s::ss,t=>s.mk t.1::Tup.vals ss t.2
abbrev Cur:List Sh→Type
  | []=>WP
  | s::ss=>s.ty→Cur ss
def Cur.of:(ss:List Sh)→(List Value→WP)→Cur ss
  | [],f=>f []
  | s::ss,f=>fun x=>Cur.of ss fun vs=>f (s.mk x::vs)
def Cur.ofT:(ss:List Sh)→(Tup ss→WP)→Cur ss
  | [],f=>f ()
  | _::ss,f=>fun x=>Cur.ofT ss fun t=>f (x,t)
def Cur.app:(ss:List Sh)→Cur ss→Tup ss→WP
  | [],k,_=>k
  | _::ss,k,t=>Cur.app ss (k t.1) t.2
def Cur.appV:(ss:List Sh)→Cur ss→List Value→WP
  | [],k,[]=>k
  | s::ss,k,v::vs=>match s.un v with
    | some x=>Cur.appV ss (k x) vs
    | none=>fun _=>False
  | _,_,_=>fun _=>False
theorem Cur.app_of (ss:List Sh):∀ (f:List Value→WP) (t:Tup ss),Cur.app ss (Cur.of ss f) t=f (Tup.vals ss t):=by
  induction ss with
  | nil=>intro f t;rfl
  | cons s ss ih=>intro f t;exact ih _ _
theorem Cur.app_ofT (ss:List Sh):∀ (f:Tup ss→WP) (t:Tup ss),Cur.app ss (Cur.ofT ss f) t=f t:=by
  induction ss with
  | nil=>intro f t;rfl
  | cons s ss ih=>intro f t;exact ih _ _
theorem Cur.appV_app (ss:List Sh):∀ (k:Cur ss) (vs:List Value) (w:World),Cur.appV ss k vs w→∃ t,Tup.vals ss t=vs∧Cur.app ss k t w:=by
  induction ss with
  | nil=>
    intro k vs w h
    cases vs with
    | nil=>exact ⟨(),rfl,h⟩
    | cons=>exact h.elim
  | cons s ss ih=>
    intro k vs w h
    cases vs with
    | nil=>exact h.elim
    | cons v vs=>
      have h:(match s.un v with | some x=>Cur.appV ss (k x) vs | none=>fun _=>False) w:=h
      cases hx:s.un v with
      | none=>rw [hx] at h;exact h.elim
      | some x=>
        rw [hx] at h
        obtain ⟨t,ht,h⟩:=ih _ _ _ h
        exact ⟨(x,t),by simp only [Tup.vals,ht,Sh.mk_un hx],h⟩
def XIf (b:Bool) (A B:WP):WP:=fun w=>(b=true→A w)∧(b=false→B w)
def XAsrt (p:Prop) (K:WP):WP:=fun w=>p∧K w
def XGet (s:Sh) (a:Addr) (K:s.ty→WP):WP:=fun w=>∃ x,w.cell? a=some (s.mk x)∧K x w
def XSet (a:Addr) (v:Value) (K:WP):WP:=fun w=>(∃ u,w.cell? a=some u)∧w.frozen? a=false∧v.oneCell'=true∧K (w.setCell a v)
def XNew (cs:List Value) (e:TypeId) (K:Nat→WP):WP:=fun w=>K w.heap.size (w.alloc (.cells cs.toArray e))
def XNil (q:Option Addr) (K:Addr→WP):WP:=fun w=>∃ a,q=some a∧K a w
def XIdx (q:Option Addr) (n:Nat) (i:Int) (sz:Nat) (K:Addr→WP):WP:=fun w=>∃ a,q=some a∧0≤i∧i<n∧K (a.add (i.toNat*sz)) w
def Sl.cut (s:Sl) (l h m sz:Nat):Sl:=⟨if m=l then s.p else s.p.map (·.add (l*sz)),h - l,m - l⟩
def XSlc (s:Sl) (l h m:Int) (sz:Nat) (K:Sl→WP):WP:=fun w=>0≤l∧l≤h∧h≤m∧m≤s.c∧K (s.cut l.toNat h.toNat m.toNat sz) w
def XCell (cs:List Value) (i:Int) (n:Nat) (s:Sh) (K:s.ty→WP):WP:=fun w=>0≤i∧i<n∧∃ x,cs[i.toNat]? = some (s.mk x)∧K x w
def XCells (cs:List Value) (i:Int) (n sz:Nat) (ss:List Sh) (K:Cur ss):WP:=fun w=>0≤i∧i<n∧∃ t:Tup ss,Tup.vals ss t=(cs.drop (i.toNat*sz)).take sz∧Cur.app ss K t w
def XSub (s:ByteArray) (l h:Int) (K:ByteArray→WP):WP:=fun w=>0≤l∧l≤h∧h≤s.size∧K (s.extract l.toNat h.toNat) w
def XByte (s:ByteArray) (i:Int) (K:Int→WP):WP:=fun w=>∃ b,0≤i∧s[i.toNat]? = some b∧K b.toNat w
def XRun (P:Program) (s:Sem Value) (sh:Sh) (K:sh.ty→WP):WP:=fun w=>∃ x w',s.run P w=.ok (sh.mk x) w'∧K x w'
abbrev XApp (P:Program) (t u ty:TypeId) (s x:Value) (K:Sl→WP):WP:=XRun P (Builtin.append_ #[t,u] ty #[s,x]) .slice K
abbrev XCopy (P:Program) (t u ty:TypeId) (s x:Value) (K:Int→WP):WP:=XRun P (Builtin.copy_ #[t,u] ty #[s,x]) (.int .i64) K
abbrev XClear (P:Program) (t ty:TypeId) (s:Value) (K:Value→WP):WP:=XRun P (Builtin.clear_ #[t] ty #[s]) .val K
abbrev XMake (P:Program) (t:TypeId) (n c:Value) (K:Sl→WP):WP:=XRun P (Instr.makeSlice t n c) .slice K
def XLook (P:Program) (t:TypeId) (x i:Value) (s:Sh) (K:s.ty→Bool→WP):WP:=fun w=>∃ v b w',(Instr.lookup t x i true).run P w=.ok (.tuple #[s.mk v,.bool b]) w'∧K v b w'
def XUpd (P:Program) (t:TypeId) (m k x:Value) (K:WP):WP:=fun w=>∃ w',(Instr.mapUpdate t m k x).run P w=.ok () w'∧K w'
def XNextS (P:Program) (v:Value) (ty:TypeId) (K0:WP) (K1:Int→Int→WP):WP:=fun w=>∃ v' w',(Instr.next v true ty).run P w=.ok v' w'∧((v'=.tuple #[.bool false]∧K0 w')∨∃ i c,v'=.tuple #[.bool true,.int .i64 i,.int .i32 c]∧K1 i c w')
def XDraw (K:WP):WP:=fun w=>K w.drew
def XJoin (ss:List Sh) (body:Cur ss→WP) (rest:Cur ss):WP:=body rest
def rounds (ss:List Sh) (body:Cur ss→Cur ss):Nat→Cur ss
  | 0=>Cur.ofT ss fun _ _=>False
  | n+1=>body (rounds ss body n)
def XLoop (ss:List Sh) (body:Cur ss→Cur ss):Cur ss:=Cur.ofT ss fun t w=>∃ n,Cur.app ss (rounds ss body n) t w
inductive Rs where
  | one
  | agg
  | tup (l:List (Option Nat))
def tupOf:List (Option Nat)→List Value→List Value
  | [],_=>[]
  | none::l,v::vs=>v::tupOf l vs
  | some n::l,vs=>.agg (vs.take n).toArray::tupOf l (vs.drop n)
  | none::_,[]=>[]
def Rs.mk:Rs→List Value→Value
  | .one,vs=>vs.headD undef
  | .agg,vs=>.agg vs.toArray
  | .tup l,vs=>.tuple (tupOf l vs).toArray
def XCall (P:Program) (f:FuncId) (args:List Value) (rs:Rs) (ss:List Sh) (K:Cur ss):WP:=fun w=>
  Calls P f args.toArray w fun e w'=>∃ t,e=.returned (rs.mk (Tup.vals ss t))∧Cur.app ss K t w'
class Pan where
  may:Nat→Bool
  q:WP
  ch:List PanicEntry
instance (priority:=low) Pan.none:Pan:=⟨fun _=>false,fun _=>False,[]⟩
def XCallP [Pan] (P:Program) (f:FuncId) (args:List Value) (rs:Rs) (ss:List Sh) (K:Cur ss):WP:=fun w=>
  Calls P f args.toArray w fun e w'=>(∃ t,e=.returned (rs.mk (Tup.vals ss t))∧Cur.app ss K t w')∨(e=.panicked Pan.ch∧Pan.q w')
def XExt (P:Program) (g:FuncId) (args:List Value) (s:Sh) (K:s.ty→WP):WP:=fun w=>∃ x w',(callFunc g args.toArray).run P w=.ok (.value (s.mk x)) w'∧K x w'
abbrev Env:=List (Nat×Value)
def gv:Env→Nat→Value
  | [],_=>undef
  | (u,v)::r,t=>bif Nat.beq u t then v else gv r t
def has:Env→Nat→Bool
  | [],_=>false
  | (u,_)::r,t=>bif Nat.beq u t then true else has r t
def ev (ρ:Env):Operand→Value
  | .tmp t=>gv ρ t
  | .const v=>v
  | .global g=>.pointer (some ⟨g,0,none⟩)
  | .func f=>.func (.func f) #[] #[]
def hasOp (ρ:Env):Operand→Bool
  | .tmp t=>has ρ t
  | _=>true
def put (ρ:Env) (d:Option Nat) (v:Value):Env:=
  match d with
  | some d=>(d,v)::ρ
  | none=>ρ
def pureRun (P:Program) {α:Type}:Sem α→Option α
  | .pure a=>some a
  | .program k=>pureRun P (k P)
  | .mark _ k=>pureRun P k
  | _=>none
theorem pureRun_run {P:Program}{α:Type}(s:Sem α):∀ a,pureRun P s=some a→∀ w,s.run P w=.ok a w:=by
  induction s with
  | pure a=>intro b h w;simp only [pureRun,Option.some.injEq] at h;subst h;rfl
  | program k ih=>intro b h w;exact ih _ b h w
  | mark m k ih=>intro b h w;exact ih b h w
  | _=>intro b h w;simp [pureRun] at h
def pureRunL (P:Program) {α:Type}:List (Sem α)→Option (List α)
  | []=>some []
  | s::r=>match pureRun P s,pureRunL P r with
    | some a,some l=>some (a::l)
    | _,_=>none
def shapes (P:Program):Nat→TypeId→List Sh
  | 0,_=>[]
  | d+1,t=>match P.underlying t with
    | some (.int k)=>[.int k]
    | some .bool=>[.bool]
    | some .string=>[.str]
    | some (.pointer _)=>[.ptr]
    | some (.slice _)=>[.slice]
    | some (.map _ _)=>[.map]
    | some (.struct fs)=>fs.toList.flatMap fun f=>shapes P d f.type
    | some (.array n e)=>(List.replicate n (shapes P d e)).flatten
    | some _=>[.val]
    | none=>[]
def szOf (P:Program) (t:TypeId):Option Nat:=
  match P.info? t with
  | some i=>some i.size
  | none=>none
def isAggB (P:Program) (t:TypeId):Bool:=
  match P.underlying t with
  | some (.struct _)=>true
  | some (.array _ _)=>true
  | _=>false
def getCells:List Sh→Addr→Nat→List Value→(List Value→WP)→WP
  | [],_,_,acc,K=>K acc.reverse
  | s::ss,a,i,acc,K=>XGet s (a.add i) fun x=>getCells ss a (i+1) (s.mk x::acc) K
def setCells:List Value→Addr→Nat→WP→WP
  | [],_,_,K=>K
  | v::vs,a,i,K=>XSet (a.add i) v (setCells vs a (i+1) K)
def vInt:Value→Option Int
  | .int _ n=>some n
  | _=>none
def bad:WP:=fun _=>False
def bnd (ρ:Env) (x:Option Operand) (d:Int):Option Int:=
  match x with
  | none=>some d
  | some o=>vInt (ev ρ o)
def pickv (x:Bool):Value→Value→Value
  | .bool a,.bool b=>.bool (bif x then a else b)
  | a,b=>bif x then a else b
def callee (ρ:Env):Callee→Option (FuncId×List Value×List Value)
  | .value f=>match ev ρ f with
    | .func (.func g) first cap=>some (g,first.toList,cap.toList)
    | _=>none
  | _=>none
def yieldee (ρ:Env):Callee→Option (Nat×List Value)
  | .value f=>match ev ρ f with
    | .func (.yield l) first _=>some (l,first.toList)
    | _=>none
  | _=>none
def XYield (P:Program) (l:Nat) (args:List Value) (K:Bool→WP):WP:=fun w=>
  ∃ fn tmps assign body,(Instr.yield l args.toArray).run P w=.ok (.round l fn tmps assign body) w∧RoundIn (FF none) 0 P l fn tmps assign body w fun e w'=>∃ b,e=.returned (.bool b)∧K b w'
def isNilC:Operand→Bool
  | .const (.pointer none)=>true
  | .const (.slice none _ _)=>true
  | .const (.map none)=>true
  | _=>false
def nilFits:Value→Operand→Bool
  | .pointer _,.const (.pointer none)=>true
  | .slice _ _ _,.const (.slice none _ _)=>true
  | .map _,.const (.map none)=>true
  | _,_=>false
def noneB {α:Type}:Option α→Bool
  | none=>true
  | some _=>false
def nilV:Bool→Value→Option Bool
  | false,.nilIface=>some true
  | false,.iface _ _=>some false
  | true,.nilFunc=>some true
  | true,.func _ _ _=>some false
  | _,_=>none
def XIsNil (f:Bool) (v:Value) (K:Bool→WP):WP:=fun w=>∃ b,nilV f v=some b∧K b w
def nilK (P:Program) (t:TypeId):Operand→Option Bool
  | .const .nilIface=>match P.underlying t with
    | some (.interface _)=>some false
    | _=>none
  | .const .nilFunc=>match P.underlying t with
    | some (.func _ _ _)=>some true
    | _=>none
  | _=>none
def nilEq (P:Program) (t:TypeId):Value→Option Bool
  | .pointer q=>match P.underlying t with
    | some (.pointer _)=>some (noneB q)
    | _=>none
  | .slice q _ _=>match P.underlying t with
    | some (.slice _)=>some (noneB q)
    | _=>none
  | .map q=>match P.underlying t with
    | some (.map _ _)=>some (noneB q)
    | _=>none
  | _=>none
def rsOf (P:Program) (t:TypeId):Rs×List Sh:=
  match P.underlying t with
  | some (.tuple ts)=>(.tup (ts.toList.map fun u=>bif isAggB P u then some (shapes P 20 u).length else none),ts.toList.flatMap fun u=>shapes P 20 u)
  | _=>bif isAggB P t then (.agg,shapes P 20 t) else (.one,shapes P 20 t)
def hasBody (P:Program) (g:FuncId):Bool:=
  match P.funcs[g]? with
  | some fn=>fn.body.isSome
  | none=>false
def setSeg:List Value→Nat→List Value→List Value
  | [],_,cs=>cs
  | v::vs,i,cs=>setSeg vs (i+1) (cs.set i v)
def fillL (place:Nat→Option (Nat×Nat)):List Value→List (Nat×Value)→Option (List Value)
  | cs,[]=>some cs
  | cs,(i,v)::r=>match place i with
    | some (off,size)=>bif Nat.beq v.cells.toList.length size&&Nat.ble (off+v.cells.toList.length) cs.length then fillL place (setSeg v.cells.toList off cs) r else none
    | none=>none
def placesL (P:Program):List Field→Option (List (Nat×Nat))
  | []=>some []
  | f::fs=>match szOf P f.type,placesL P fs with
    | some n,some l=>some ((f.offset,n)::l)
    | _,_=>none
def zeroOf (P:Program) (t:TypeId):Option (List Value):=
  match P.info? t with
  | some i=>(match i.zero with | some z=>some z.cells.toList | none=>none)
  | none=>none
def builtL (P:Program) (t:TypeId) (parts:List (Nat×Value)):Option (List Value):=
  match P.underlying t,zeroOf P t with
  | some (.struct fs),some z=>(match placesL P fs.toList with
    | some ps=>fillL (fun i=>ps[i]?) z parts
    | none=>none)
  | some (.array _ e),some z=>(match szOf P e with
    | some n=>fillL (fun i=>some (i*n,n)) z parts
    | none=>none)
  | _,_=>none
def repL (z:List Value):Nat→List Value
  | 0=>[]
  | n+1=>z++repL z n
def partsE (ρ:Env) (ps:List (Nat×Operand)):List (Nat×Value):=ps.map fun p=>(p.1,ev ρ p.2)
def eqCell (P:Program) (t:TypeId) (x y:Value):Option Bool:=
  match P.underlying t,x,y with
  | some (.int _),.int k a,.int k' b=>bif decide (k=k') then some (a == b) else none
  | some .bool,.bool a,.bool b=>some (a == b)
  | some .string,.string a,.string b=>some (a == b)
  | _,_,_=>none
def partOf (P:Program) (t:TypeId) (xs:List Value) (off:Nat):Option Value:=
  bif isAggB P t then (match szOf P t with
    | some n=>some (.agg ((xs.drop off).take n).toArray)
    | none=>none)
  else xs[off]?
def eqFields (P:Program) (eqv:TypeId→Value→Value→Option Bool):List Field→List Value→List Value→Option Bool
  | [],_,_=>some true
  | f::fs,xs,ys=>bif !(f.name == "_") then (match partOf P f.type xs f.offset,partOf P f.type ys f.offset with
    | some x,some y=>(match eqv f.type x y,eqFields P eqv fs xs ys with
      | some b,some r=>some (b&&r)
      | _,_=>none)
    | _,_=>none) else none
def eqVal (P:Program):Nat→TypeId→Value→Value→Option Bool
  | 0,t,x,y=>eqCell P t x y
  | d+1,t,x,y=>match P.underlying t,x,y with
    | some (.struct fs),.agg xs,.agg ys=>bif !(P.stoodInHeld t) then eqFields P (eqVal P d) fs.toList xs.toList ys.toList else none
    | _,_,_=>eqCell P t x y
def aggEq (P:Program) (t:TypeId) (x y:Value):Option Bool:=
  match P.underlying t,x,y with
  | some (.struct fs),.agg xs,.agg ys=>bif !(P.eqGuardType P.depth t) && !(P.stoodInHeld t) then eqFields P (eqVal P 1) fs.toList xs.toList ys.toList else none
  | _,_,_=>none
def wpOp1 [Pan] (P:Program) (o:Oper) (ρ:Env) (K:Env→WP):WP:=
  let pure':WP:=match pureRun P (execOp (ev ρ) o) with
    | some (.value v)=>K (put ρ o.dst v)
    | _=>bad
  match o.op with
  | .load t a=>match ev ρ a with
    | .pointer (some ad) => bif isAggB P t then
          (match szOf P t with
            | some n=>bif Nat.beq n (shapes P 20 t).length then getCells (shapes P 20 t) ad 0 [] fun vs=>K (put ρ o.dst (.agg vs.toArray)) else bad
            | none=>bad)
        else match shapes P 20 t with
          | [s]=>XGet s ad fun x=>K (put ρ o.dst (s.mk x))
          | _=>bad
    | _=>bad
  | .store t a x=>match ev ρ a with
    | .pointer (some ad)=>match szOf P t with
      | some n=>bif Nat.beq n (ev ρ x).cells.toList.length then setCells (ev ρ x).cells.toList ad 0 (K (put ρ o.dst undef)) else bad
      | none=>bad
    | _=>bad
  | .alloc e=>match (P.info? e).bind (·.zero) with
    | some z=>XNew z.cells.toList e fun b=>K (put ρ o.dst (.pointer (some ⟨b,0,none⟩)))
    | none=>bad
  | .box e x=>XNew (ev ρ x).cells.toList e fun b=>K (put ρ o.dst (.pointer (some ⟨b,0,none⟩)))
  | .nilCheck x=>match ev ρ x with
    | .pointer q=>XNil q fun a=>K (put ρ o.dst (.pointer (some a)))
    | _=>pure'
  | .indexAddr t x i=>match P.underlying t,ev ρ x,ev ρ i with
    | some (.slice e),.slice q n _,.int _ i=>match szOf P e with
      | some sz=>XIdx q n i sz fun a=>K (put ρ o.dst (.pointer (some a)))
      | none=>bad
    | some (.array n e),.pointer (some a),.int _ i=>match szOf P e with
      | some sz=>XIdx (some a) n i sz fun a=>K (put ρ o.dst (.pointer (some a)))
      | none=>bad
    | _,_,_=>bad
  | .index t x i=>match P.underlying t,ev ρ x,ev ρ i with
    | some .string,.string s,.int _ i=>XByte s i fun b=>K (put ρ o.dst (.int .u8 b))
    | some (.array n e),.agg cs,.int _ i=>(match szOf P e,shapes P 20 e with
      | some 1,[s]=>bif !(isAggB P e) then XCell cs.toList i n s fun x=>K (put ρ o.dst (s.mk x)) else bad
      | some sz,ss=>bif isAggB P e&&Nat.beq sz ss.length then XCells cs.toList i n sz ss (Cur.of ss fun vs=>K (put ρ o.dst (.agg vs.toArray))) else bad
      | _,_=>bad)
    | _,_,_=>bad
  | .slice t x lo hi mx=>match P.underlying t,ev ρ x with
    | some (.slice e),.slice q n c=>match bnd ρ lo 0,bnd ρ hi n,bnd ρ mx c,szOf P e with
      | some l,some h,some m,some sz=>bif (mx.isNone||hi.isSome) then XSlc ⟨q,n,c⟩ l h m sz fun s=>K (put ρ o.dst s.v) else bad
      | _,_,_,_=>bad
    | some .string,.string s=>match bnd ρ lo 0,bnd ρ hi s.size,mx with
      | some l,some h,none=>XSub s l h fun s=>K (put ρ o.dst (.string s))
      | _,_,_=>bad
    | some (.array n e),.pointer (some a)=>match lo,hi,mx,szOf P e with
      | none,none,none,some _=>K (put ρ o.dst (.slice (some a) n n))
      | _,_,_,_=>bad
    | _,_=>bad
  | .binOp op xt x y _=>match op,ev ρ x,ev ρ y with
    | .quo,.int k a,.int k' b=>bif decide (k=k') then XAsrt (b≠0) (K (put ρ o.dst (.int k (k.wrap (a.tdiv b))))) else bad
    | .rem,.int k a,.int k' b=>bif decide (k=k') then XAsrt (b≠0) (K (put ρ o.dst (.int k (a.tmod b)))) else bad
    | .shl,.int k a,.int _ b=>XAsrt (0≤b) (K (put ρ o.dst (.int k (k.wrap (a*2 ^ (min b.toNat k.bits))))))
    | .shr,.int k a,.int _ b=>XAsrt (0≤b) (K (put ρ o.dst (.int k (a.fdiv (2 ^ (min b.toNat k.bits))))))
    | .add,.string a,.string b=>XAsrt (a.size+b.size≤9223372036854775807) (K (put ρ o.dst (.string (a++b))))
    | .eql,_,_=>bif isNilC y then (match nilEq P xt (ev ρ x) with | some b=>bif nilFits (ev ρ x) y then K (put ρ o.dst (.bool b)) else bad | none=>pure') else (match nilK P xt y with | some f=>XIsNil f (ev ρ x) (fun b=>K (put ρ o.dst (.bool b))) | none=>(match aggEq P xt (ev ρ x) (ev ρ y) with | some b=>K (put ρ o.dst (.bool b)) | none=>pure'))
    | .neq,_,_=>bif isNilC y then (match nilEq P xt (ev ρ x) with | some b=>bif nilFits (ev ρ x) y then K (put ρ o.dst (.bool !b)) else bad | none=>pure') else (match nilK P xt y with | some f=>XIsNil f (ev ρ x) (fun b=>K (put ρ o.dst (.bool !b))) | none=>(match aggEq P xt (ev ρ x) (ev ρ y) with | some b=>K (put ρ o.dst (.bool !b)) | none=>pure'))
    | _,_,_=>pure'
  | .pick c a b=>match ev ρ c with
    | .bool x=>K (put ρ o.dst (pickv x (ev ρ a) (ev ρ b)))
    | _=>bad
  | .call c=>match c.callee with
    | .value _=>match callee ρ c.callee with
      | some (g,first,cap)=>
        let r:=rsOf P o.type
        bif hasBody P g then
          (bif Pan.may g then XCallP P g (first++(c.args.toList.map (ev ρ))++cap) r.1 r.2 (Cur.of r.2 fun vs=>K (put ρ o.dst (r.1.mk vs)))
          else XCall P g (first++(c.args.toList.map (ev ρ))++cap) r.1 r.2 (Cur.of r.2 fun vs=>K (put ρ o.dst (r.1.mk vs))))
        else (match r with
          | (.one,[s])=>XExt P g (first++(c.args.toList.map (ev ρ))++cap) s fun x=>K (put ρ o.dst (s.mk x))
          | _=>bad)
      | none=>match yieldee ρ c.callee with
        | some (l,first)=>(match rsOf P o.type with
          | (.one,[.bool])=>XYield P l (first++c.args.toList.map (ev ρ)) fun b=>K (put ρ o.dst (.bool b))
          | _=>bad)
        | none=>bad
    | .builtin .append=>XRun P (Builtin.append_ c.argTypes o.type (c.args.toList.map (ev ρ)).toArray) .slice fun s=>K (put ρ o.dst s.v)
    | .builtin .copy=>XRun P (Builtin.copy_ c.argTypes o.type (c.args.toList.map (ev ρ)).toArray) (.int .i64) fun s=>K (put ρ o.dst (.int .i64 s))
    | .builtin .clear=>XRun P (Builtin.clear_ c.argTypes o.type (c.args.toList.map (ev ρ)).toArray) .val fun s=>K (put ρ o.dst s)
    | .builtin .len=>match c.argTypes.toList,c.args.toList with
      | [t],[x]=>(match P.underlying t,ev ρ x with
        | some (.slice _),.slice _ n _=>K (put ρ o.dst (.int .i64 n))
        | some .string,.string s=>K (put ρ o.dst (.int .i64 s.size))
        | some (.array n _),_=>K (put ρ o.dst (.int .i64 n))
        | _,_=>pure')
      | _,_=>pure'
    | .builtin .cap=>match c.argTypes.toList,c.args.toList with
      | [t],[x]=>(match P.underlying t,ev ρ x with
        | some (.slice _),.slice _ _ n=>K (put ρ o.dst (.int .i64 n))
        | _,_=>pure')
      | _,_=>pure'
    | .builtin .min=>match c.args.toList with
      | [x,y]=>(match ev ρ x,ev ρ y with
        | .int k a,.int _ b=>K (put ρ o.dst (.int k (if b<a then b else a)))
        | _,_=>pure')
      | [x,y,z]=>(match ev ρ x,ev ρ y,ev ρ z with
        | .int k a,.int k1 b,.int k2 c=>bif decide (k=k1)&&decide (k=k2) then K (put ρ o.dst (.int k (if c<(if b<a then b else a) then c else (if b<a then b else a)))) else bad
        | _,_,_=>pure')
      | _=>pure'
    | .builtin .max=>match c.args.toList with
      | [x,y]=>(match ev ρ x,ev ρ y with
        | .int k a,.int _ b=>K (put ρ o.dst (.int k (if b>a then b else a)))
        | _,_=>pure')
      | [x,y,z]=>(match ev ρ x,ev ρ y,ev ρ z with
        | .int k a,.int k1 b,.int k2 c=>bif decide (k=k1)&&decide (k=k2) then K (put ρ o.dst (.int k (if c>(if b>a then b else a) then c else (if b>a then b else a)))) else bad
        | _,_,_=>pure')
      | _=>pure'
    | .builtin _=>pure'
    | _=>bad
  | .build t parts=>match builtL P t (partsE ρ parts.toList) with
    | some cs=>K (put ρ o.dst (.agg cs.toArray))
    | none=>bad
  | .field t x f=>match P.underlying t,ev ρ x with
    | some (.struct fs),.agg cs=>(match fs.toList[f]? with
      | some fd=>bif isAggB P fd.type then (match szOf P fd.type with
          | some n=>K (put ρ o.dst (.agg ((cs.toList.drop fd.offset).take n).toArray))
          | none=>bad)
        else (match P.underlying fd.type,cs.toList[fd.offset]? with
          | some _,some v=>K (put ρ o.dst v)
          | _,_=>bad)
      | none=>bad)
    | _,_=>bad
  | .buildSlice t len parts=>match P.underlying t with
    | some (.slice e)=>(match szOf P e,zeroOf P e with
      | some n,some z=>bif Nat.ble (len*n) 16777216&&Nat.beq z.length n then (match fillL (fun i=>some (i*n,n)) (repL z len) (partsE ρ parts.toList) with
          | some cs=>XNew cs e fun b=>K (put ρ o.dst (.slice (some ⟨b,0,none⟩) len len))
          | none=>bad) else bad
      | _,_=>bad)
    | _=>bad
  | .makeSlice t len cap=>XRun P (Instr.makeSlice t (ev ρ len) (ev ρ cap)) .slice fun s=>K (put ρ o.dst s.v)
  | .convert s d x=>match P.underlying s,P.underlying d with
    | some (.slice _),some .string=>XRun P (convert s d (ev ρ x)) .str fun s=>K (put ρ o.dst (.string s))
    | some .string,some (.slice _)=>XRun P (convert s d (ev ρ x)) .slice fun s=>K (put ρ o.dst s.v)
    | _,_=>pure'
  | .makeMap t r=>XRun P (Instr.makeMap t (r.map (ev ρ))) .map fun m=>K (put ρ o.dst (.map m))
  | .lookup t x i ok=>match P.underlying t with
    | some (.map _ e)=>(match shapes P 20 e with
      | [s]=>bif !(isAggB P e) then (bif ok then XLook P t (ev ρ x) (ev ρ i) s fun v b=>K (put ρ o.dst (.tuple #[s.mk v,.bool b])) else XRun P (Instr.lookup t (ev ρ x) (ev ρ i) false) s fun v=>K (put ρ o.dst (s.mk v))) else bad
      | _=>bad)
    | _=>bad
  | .range t x=>match P.underlying t with
    | some .string=>XRun P (Instr.range t (ev ρ x)) .ptr fun q=>K (put ρ o.dst (.pointer q))
    | _=>bad
  | .next it s=>bif s then XNextS P (ev ρ it) o.type (K (put ρ o.dst (.tuple #[.bool false]))) (fun i c=>K (put ρ o.dst (.tuple #[.bool true,.int .i64 i,.int .i32 c]))) else bad
  | .mapUpdate t m k x=>XUpd P t (ev ρ m) (ev ρ k) (ev ρ x) (K (put ρ o.dst undef))
  | _=>pure'
structure Fits (N:Nat) (ds:List Deferred) (ρ:Env) (a:Act):Prop where
  size:N≤a.tmps.size
  defs:a.defers=ds
  get:∀ t,has ρ t=true→a.tmps[t]? = some (gv ρ t)
theorem has_cons {u t:Nat}{v:Value}{ρ:Env}:has ((u,v)::ρ) t=(bif Nat.beq u t then true else has ρ t):=rfl
theorem gv_cons {u t:Nat}{v:Value}{ρ:Env}:gv ((u,v)::ρ) t=(bif Nat.beq u t then v else gv ρ t):=rfl
theorem Fits.put {ds:List Deferred}{N:Nat}{ρ:Env}{a:Act}{d:Option Nat}{v:Value}(h:Fits N ds ρ a) (hd:∀ t,d=some t→t<N):Fits N ds (put ρ d v) (a.put d v):=by
  cases d with
  | none=>exact h
  | some d=>
    have hs:=h.size
    have hd:=hd d rfl
    refine ⟨by simpa [Act.put] using hs,h.defs,fun t ht=>?_⟩
    by_cases e:d=t
    · subst e
      simp only [Cf.put,Act.put,gv_cons,Nat.beq_refl,cond_true]
      rw [Array.getElem?_setIfInBounds_self_of_lt (by omega)]
    · have e':Nat.beq d t=false:=by
        cases hb:Nat.beq d t
        · rfl
        · exact absurd (Nat.eq_of_beq_eq_true hb) e
      simp only [Cf.put,has_cons,e',cond_false] at ht
      simp only [Cf.put,Act.put,gv_cons,e',cond_false]
      rw [Array.getElem?_setIfInBounds_ne e]
      exact h.get t ht
theorem Fits.eval {ds:List Deferred}{N:Nat}{ρ:Env}{a:Act}(h:Fits N ds ρ a) {x:Operand}(hx:hasOp ρ x=true):a.eval x=ev ρ x:=by
  cases x with
  | tmp t=>
    have:=h.get t hx
    simp [Act.eval,ev,Array.getD_eq_getD_getElem?,this]
  | _=>rfl
def opOk (N:Nat) (ρ:Env) (o:Oper):Bool:=
  o.op.operands.toList.all (hasOp ρ)&&(match o.dst with | some d=>Nat.blt d N | none=>true)&&(match o.op with | .select .. => false | _=>true)
def NoGor (P:Program):Prop:=∀ (g:Nat) (fn:Func),P.funcs[g]? = some fn→(fn.name == "runtime.NumGoroutine")=false
section ops
variable [Pan] {P:Program}{w:World}
theorem run_ti {t:TypeId}{i:TypeInfo}(h:P.info? t=some i) (w:World):(typeInfo t).run P w=.ok i w:=by
  simp [typeInfo,h]
theorem szOf_some {t:TypeId}{n:Nat}(h:szOf P t=some n):∃ i,P.info? t=some i∧i.size=n:=by
  unfold szOf at h
  cases hi:P.info? t with
  | none=>rw [hi] at h;cases h
  | some i=>rw [hi] at h;exact ⟨i,rfl,by simpa using h⟩
theorem run_sz {t:TypeId}{n:Nat}(h:szOf P t=some n) (w:World):(sizeOf t).run P w=.ok n w:=by
  obtain ⟨i,hi,rfl⟩:=szOf_some h
  simp [sizeOf,run_ti hi]
theorem getCells_run:∀ (ss:List Sh) (ad:Addr) (i:Nat) (acc:List Value) (K:List Value→WP),getCells ss ad i acc K w →
    ∃ vs,(loadCellsFrom ad i ss.length acc.reverse.toArray).run P w=.ok vs.toArray w∧K vs w∧vs.length=acc.length+ss.length:=by
  intro ss
  induction ss with
  | nil=>intro ad i acc K h;exact ⟨acc.reverse,rfl,h,by simp⟩
  | cons s ss ih=>
    intro ad i acc K h
    obtain ⟨x,hx,h⟩:=h
    obtain ⟨vs,hv,h,hl⟩:=ih ad (i+1) (s.mk x::acc) K h
    refine ⟨vs,?_,h,by rw [hl];simp;omega⟩
    simp only [List.length_cons,loadCellsFrom,Sem.run_bind,run_load,hx,Result.andThen_ok]
    have e:(acc.reverse.toArray.push (s.mk x))=(s.mk x::acc).reverse.toArray:=by simp
    rw [e];exact hv
theorem setCells_run:∀ (vs:List Value) (ad:Addr) (i:Nat) (K:WP) (w:World),setCells vs ad i K w →
    ∃ w',(storeCells ad vs i).run P w=.ok () w'∧K w':=by
  intro vs
  induction vs with
  | nil=>intro ad i K w h;exact ⟨w,rfl,h⟩
  | cons v vs ih=>
    intro ad i K w h
    obtain ⟨⟨u,hu⟩,hf,hv,h⟩:=h
    obtain ⟨w',hw,h⟩:=ih ad (i+1) K _ h
    refine ⟨w',?_,h⟩
    simp only [storeCells,Sem.run_bind,run_store P w _ v _ hv,hu,hf,Bool.false_eq_true,if_false,Result.andThen_ok]
    exact hw
theorem upon_val {o:Oper}{a:Act}{next:Act→World→Prop}{Q:Exit→Act→World→Prop}{s:Sem Value}{v:Value}{w':World}(h:s.run P w=.ok v w') (hn:next (a.put o.dst v) w') :
    o.upon P a next Q ((do pure (Next.value (← s)):Sem Next).run P w):=by
  simp only [Sem.run_bind,h,Result.andThen_ok,Sem.run_pure,Oper.upon]
  exact hn
theorem upon_unit {o:Oper}{a:Act}{next:Act→World→Prop}{Q:Exit→Act→World→Prop}{s:Sem Unit}{w':World}(h:s.run P w=.ok () w') (hn:next (a.put o.dst undef) w') :
    o.upon P a next Q ((do s;pure Next.skip:Sem Next).run P w):=by
  simp only [Sem.run_bind,h,Result.andThen_ok,Sem.run_pure,Oper.upon]
  exact hn
theorem of_bif_bad {c:Bool}{x:WP}(h:(bif c then x else bad) w):c=true∧x w:=by
  cases c
  · exact h.elim
  · exact ⟨rfl,h⟩
theorem isAgg_run {t:TypeId}{d:TypeDesc}(h:P.underlying t=some d) (w:World):(isAgg t).run P w=.ok (isAggB P t) w:=by
  unfold isAgg isAggB
  simp only [Sem.run_bind,run_underlying h,Result.andThen_ok,h]
  cases d<;>rfl
theorem isAggB_under {t:TypeId}(h:isAggB P t=true):∃ d,P.underlying t=some d:=by
  unfold isAggB at h
  cases hd:P.underlying t with
  | none=>rw [hd] at h;cases h
  | some d=>exact ⟨d,rfl⟩
theorem shapes_under {t:TypeId}{n:Nat}{s:Sh}(h:shapes P (n+1) t=[s]):∃ d,P.underlying t=some d:=by
  unfold shapes at h
  cases hd:P.underlying t with
  | none=>rw [hd] at h;cases h
  | some d=>exact ⟨d,rfl⟩
theorem bnd_bound {ρ:Env}{x:Option Operand}{d l:Int}(h:bnd ρ x d=some l) (P:Program) (w:World) (y:Nat) (code:BoundsCode) (h0:0≤l) (h1:l≤y) :
    (match x.map (ev ρ) with | some v=>Instr.sliceBound v y code | none=>pure d.toNat:Sem Nat).run P w=.ok l.toNat w:=by
  cases x with
  | none=>
    simp only [bnd,Option.some.injEq] at h
    subst h;rfl
  | some o=>
    simp only [bnd] at h
    simp only [Option.map_some]
    cases hv:ev ρ o with
    | int k n=>
      rw [hv] at h
      simp only [vInt,Option.some.injEq] at h
      subst h
      simp [Instr.sliceBound,asIntOf,h0,h1]
    | _=>rw [hv] at h;simp [vInt] at h
theorem eqIn_ptr {t e:TypeId}(h:P.underlying t=some (.pointer e)) (d:Nat) (q:Option Addr) (w:World):(Op.equalIn (d+1) t (.pointer q) (.pointer none)).run P w=.ok (noneB q) w:=by
  cases q<;>simp [Op.equalIn,run_underlying h,noneB]
theorem eqIn_slice {t e:TypeId}(h:P.underlying t=some (.slice e)) (d:Nat) (q:Option Addr) (n c n' c':Nat) (w:World):(Op.equalIn (d+1) t (.slice q n c) (.slice none n' c')).run P w=.ok (noneB q) w:=by
  cases q<;>simp [Op.equalIn,run_underlying h,noneB]
theorem eqIn_map {t k e:TypeId}(h:P.underlying t=some (.map k e)) (d:Nat) (q:Option Nat) (w:World):(Op.equalIn (d+1) t (.map q) (.map none)).run P w=.ok (noneB q) w:=by
  cases q<;>simp [Op.equalIn,run_underlying h,noneB]
theorem equal_of {t:TypeId}{x y:Value}{b:Bool}(h:∀ d (w:World),(Op.equalIn (d+1) t x y).run P w=.ok b w) (w:World):(Op.equal t x y).run P w=.ok b w:=h 9999 w
theorem nilEq_some {t:TypeId}{vx:Value}{b:Bool}(h:nilEq P t vx=some b) :
    (∃ q e,vx=.pointer q∧P.underlying t=some (.pointer e)∧b=noneB q)∨(∃ q n c e,vx=.slice q n c∧P.underlying t=some (.slice e)∧b=noneB q) ∨
    (∃ q k e,vx=.map q∧P.underlying t=some (.map k e)∧b=noneB q):=by
  unfold nilEq at h
  split at h
  · split at h
    · rename_i hu;simp only [Option.some.injEq] at h;exact .inl ⟨_,_,rfl,hu,h.symm⟩
    · cases h
  · split at h
    · rename_i hu;simp only [Option.some.injEq] at h;exact .inr (.inl ⟨_,_,_,_,rfl,hu,h.symm⟩)
    · cases h
  · split at h
    · rename_i hu;simp only [Option.some.injEq] at h;exact .inr (.inr ⟨_,_,_,rfl,hu,h.symm⟩)
    · cases h
  · cases h
theorem nilFits_ptr {q:Option Addr}{y:Operand}(h:nilFits (.pointer q) y=true):y=.const (.pointer none):=by
  unfold nilFits at h;split at h<;>first | rfl | (exact absurd h Bool.false_ne_true) | (rename_i heq;cases heq)
theorem nilFits_slice {q:Option Addr}{n c:Nat}{y:Operand}(h:nilFits (.slice q n c) y=true):∃ n c,y=.const (.slice none n c):=by
  unfold nilFits at h;split at h<;>first | exact ⟨_,_,rfl⟩ | (exact absurd h Bool.false_ne_true) | (rename_i heq;cases heq)
theorem nilFits_map {q:Option Nat}{y:Operand}(h:nilFits (.map q) y=true):y=.const (.map none):=by
  unfold nilFits at h;split at h<;>first | rfl | (exact absurd h Bool.false_ne_true) | (rename_i heq;cases heq)
theorem run_nilEq {t:TypeId}{x y:Operand}{vx:Value}{b:Bool}(hb:nilEq P t vx=some b) {ρ:Env}(hy:nilFits vx y=true) (w:World) :
    (do eqGuard .eql t x y vx (ev ρ y);binOp .eql t vx (ev ρ y):Sem Value).run P w=.ok (.bool b) w ∧
    (do eqGuard .neq t x y vx (ev ρ y);binOp .neq t vx (ev ρ y):Sem Value).run P w=.ok (.bool !b) w:=by
  rcases nilEq_some hb with ⟨q,e,rfl,hu,rfl⟩ | ⟨q,n,c,e,rfl,hu,rfl⟩ | ⟨q,k,e,rfl,hu,rfl⟩
  · obtain rfl:=nilFits_ptr hy
    have:=equal_of (fun d w=>eqIn_ptr hu d q w) w
    simp only [eqGuard_at_pointer,ev,binOp,Sem.run_bind,Sem.run_pure,Result.andThen_ok,this]
    exact ⟨trivial,trivial⟩
  · obtain ⟨n',c',rfl⟩:=nilFits_slice hy
    have:=equal_of (fun d w=>eqIn_slice hu d q n c n' c' w) w
    simp only [eqGuard_at_slice,ev,binOp,Sem.run_bind,Sem.run_pure,Result.andThen_ok,this]
    exact ⟨trivial,trivial⟩
  · obtain rfl:=nilFits_map hy
    have:=equal_of (fun d w=>eqIn_map hu d q w) w
    simp only [eqGuard_at_map,ev,binOp,Sem.run_bind,Sem.run_pure,Result.andThen_ok,this]
    exact ⟨trivial,trivial⟩
theorem eqIn_iface {t:TypeId}{ms:Array (String×TypeId)}(hu:P.underlying t=some (.interface ms)) {v:Value}{b:Bool}(hv:nilV false v=some b) (d:Nat) (w:World):(Op.equalIn (d+1) t v .nilIface).run P w=.ok b w:=by
  unfold Op.equalIn
  cases v<;>simp only [nilV,reduceCtorEq,Option.some.injEq] at hv<;>subst hv<;>simp only [Sem.run_bind,run_underlying hu,Result.andThen_ok,Sem.run_pure]
theorem eqIn_func {t:TypeId}{a1 a2 a3}(hu:P.underlying t=some (.func a1 a2 a3)) {v:Value}{b:Bool}(hv:nilV true v=some b) (d:Nat) (w:World):(Op.equalIn (d+1) t v .nilFunc).run P w=.ok b w:=by
  unfold Op.equalIn
  cases v<;>simp only [nilV,reduceCtorEq,Option.some.injEq] at hv<;>subst hv<;>simp only [Sem.run_bind,run_underlying hu,Result.andThen_ok,Sem.run_pure]
theorem run_nilK {t:TypeId}{x y:Operand}{vx:Value}{f b:Bool}(hk:nilK P t y=some f) (hv:nilV f vx=some b) (ρ:Env) (w:World) :
    (do eqGuard .eql t x y vx (ev ρ y);binOp .eql t vx (ev ρ y):Sem Value).run P w=.ok (.bool b) w ∧
    (do eqGuard .neq t x y vx (ev ρ y);binOp .neq t vx (ev ρ y):Sem Value).run P w=.ok (.bool !b) w:=by
  unfold nilK at hk
  split at hk
  · split at hk
    · rename_i ms hu
      obtain rfl:=(Option.some.inj hk).symm
      have:=equal_of (fun d w=>eqIn_iface hu hv d w) w
      cases vx<;>simp only [nilV,reduceCtorEq] at hv <;>
        simp only [eqGuard_nil_constR,eqGuard_at_iface,ev,binOp,Sem.run_bind,Sem.run_pure,Result.andThen_ok,this] <;> exact ⟨trivial,trivial⟩
    · cases hk
  · split at hk
    · rename_i a1 a2 a3 hu
      obtain rfl:=(Option.some.inj hk).symm
      have:=equal_of (fun d w=>eqIn_func hu hv d w) w
      cases vx<;>simp only [nilV,reduceCtorEq] at hv <;>
        simp only [eqGuard_at_nilFunc,eqGuard_at_func,ev,binOp,Sem.run_bind,Sem.run_pure,Result.andThen_ok,this] <;> exact ⟨trivial,trivial⟩
    · cases hk
  · cases hk
section
variable {t:TypeId}{x y:Value}{b:Bool}
theorem eqCell_run (h:eqCell P t x y=some b) (d:Nat) (w:World):(Op.equalIn (d+1) t x y).run P w=.ok b w:=by
  unfold eqCell at h
  unfold Op.equalIn
  split at h
  · rename_i k1 k a k' a' hu
    cases hk:decide (k=k') with
    | false=>simp [hk] at h
    | true=>
      simp only [hk,cond_true,Option.some.injEq] at h
      simp only [Sem.run_bind,run_underlying hu,Result.andThen_ok,if_pos (of_decide_eq_true hk),Sem.run_pure,h]
  · rename_i hu
    simp only [Option.some.injEq] at h
    simp only [Sem.run_bind,run_underlying hu,Result.andThen_ok,Sem.run_pure,h]
  · rename_i hu
    simp only [Option.some.injEq] at h
    simp only [Sem.run_bind,run_underlying hu,Result.andThen_ok,Sem.run_pure,h]
  · cases h
theorem part_run {cs:Array Value}{off:Nat}{v:Value}{d:TypeDesc}(hd:P.underlying t=some d) (ha:isAggB P t=false) (hv:cs[off]? = some v) (w:World):(part t cs off).run P w=.ok v w:=by
  simp only [part,Sem.run_bind,isAgg_run hd,ha,Result.andThen_ok,Bool.false_eq_true,if_false,hv,Sem.run_pure]
theorem eqCell_under (h:eqCell P t x y=some b):∃ d,P.underlying t=some d:=by
  cases hd:P.underlying t with
  | none=>unfold eqCell at h;rw [hd] at h;cases h
  | some d=>exact ⟨d,rfl⟩
theorem eqVal_under:∀ {d:Nat}{t:TypeId}{x y:Value}{b:Bool},eqVal P d t x y=some b→∃ u,P.underlying t=some u:=by
  intro d t x y b h
  cases d with
  | zero=>exact eqCell_under h
  | succ d=>
    unfold eqVal at h
    split at h
    · rename_i hu;exact ⟨_,hu⟩
    · exact eqCell_under h
theorem partOf_run {u:TypeDesc}(hd:P.underlying t=some u) {cs:Array Value}{off:Nat}{v:Value}(h:partOf P t cs.toList off=some v) (w:World):(part t cs off).run P w=.ok v w:=by
  unfold partOf at h
  cases ha:isAggB P t with
  | false=>
    rw [ha] at h
    exact part_run hd ha (by simpa using h) w
  | true=>
    rw [ha] at h
    simp only [cond_true] at h
    cases hs:szOf P t with
    | none=>rw [hs] at h;cases h
    | some n=>
      rw [hs] at h
      simp only [Option.some.injEq] at h
      subst h
      simp only [part,Sem.run_bind,isAgg_run hd,ha,Result.andThen_ok,if_true,run_sz hs,Sem.run_pure]
      congr 2
      apply Array.ext'
      simp [Array.toList_extract,List.extract]
theorem eqFields_run (w:World) (xs ys:Array Value) (n:Nat) {eqv:TypeId→Value→Value→Option Bool}(hE:∀ t x y b,eqv t x y=some b→∀ w,(Op.equalIn (n+1) t x y).run P w=.ok b w)
    (hU:∀ t x y b,eqv t x y=some b→∃ u,P.underlying t=some u):∀ (fs:List Field) (b:Bool),eqFields P eqv fs xs.toList ys.toList=some b →
    (forIn (m:=Sem) fs ((none,()):Option Bool×Unit) fun f _=>
      if f.name ≠ "_" then do
        if !(← Op.equalIn (n+1) f.type (← part f.type xs f.offset) (← part f.type ys f.offset)) then pure (ForInStep.done (some false,()))
        else pure (ForInStep.yield (none,()))
      else pure (ForInStep.yield (none,()))).run P w=.ok (if b then (none,()) else (some false,())) w:=by
  intro fs
  induction fs with
  | nil=>
    intro b h
    simp only [eqFields,Option.some.injEq] at h
    subst h
    simp only [List.forIn_nil,Sem.run_pure,if_true]
  | cons f fs ih=>
    intro b h
    unfold eqFields at h
    cases hc:(!(f.name == "_")) with
    | false=>rw [hc] at h;cases h
    | true=>
      rw [hc] at h
      simp only [cond_true] at h
      simp only [Bool.not_eq_true',beq_eq_false_iff_ne] at hc
      cases hx:partOf P f.type xs.toList f.offset with
      | none=>rw [hx] at h;cases h
      | some x=>
        cases hy:partOf P f.type ys.toList f.offset with
        | none=>rw [hx,hy] at h;cases h
        | some y=>
          rw [hx,hy] at h
          simp only at h
          cases he:eqv f.type x y with
          | none=>rw [he] at h;cases h
          | some b1=>
            cases hr:eqFields P eqv fs xs.toList ys.toList with
            | none=>rw [he,hr] at h;cases h
            | some r=>
              rw [he,hr] at h
              simp only [Option.some.injEq] at h
              subst h
              obtain ⟨d,hd⟩:=hU _ _ _ _ he
              simp only [List.forIn_cons,if_pos hc,Sem.run_bind,partOf_run hd hx,partOf_run hd hy,hE _ _ _ _ he,Result.andThen_ok]
              cases b1 with
              | true=>
                simp only [Bool.not_true,Bool.false_eq_true,if_false,Sem.run_pure,Result.andThen_ok,Bool.true_and]
                exact ih r hr
              | false=>simp only [Bool.not_false,if_true,Sem.run_pure,Result.andThen_ok,Bool.false_and,Bool.false_eq_true,if_false]
theorem eqVal_run:∀ (d m:Nat) (t:TypeId) (x y:Value) (b:Bool),eqVal P d t x y=some b→∀ w,(Op.equalIn (m+d+1) t x y).run P w=.ok b w:=by
  intro d
  induction d with
  | zero=>intro m t x y b h w;exact eqCell_run h _ w
  | succ d ih=>
    intro m t x y b h w
    unfold eqVal at h
    split at h
    · rename_i fs xs ys hu
      obtain ⟨hb,h⟩:P.stoodInHeld t=false∧eqFields P (eqVal P d) fs.toList xs.toList ys.toList=some b:=by
        cases hb:P.stoodInHeld t with
        | false=>rw [hb] at h;exact ⟨rfl,h⟩
        | true=>rw [hb] at h;cases h
      show (Op.equalIn ((m+(d+1))+1) t (.agg xs) (.agg ys)).run P w=_
      unfold Op.equalIn
      simp only [Sem.run_bind,run_underlying hu,Result.andThen_ok,run_program,hb,Bool.false_eq_true,if_false]
      rw [←Array.forIn_toList]
      have:=eqFields_run (P:=P) w xs ys (m+d) (eqv:=eqVal P d) (fun t x y b h w=>ih m t x y b h w) (fun t x y b h=>eqVal_under h) fs.toList b h
      rw [show m+(d+1)=m+d+1 by omega]
      rw [this]
      cases b<;>simp
    · exact eqCell_run h _ w
theorem aggEq_run (h:aggEq P t x y=some b) (w:World):(Op.equal t x y).run P w=.ok b w:=by
  unfold aggEq at h
  split at h
  · rename_i fs xs ys hu
    obtain ⟨hb,h⟩:(!(P.eqGuardType P.depth t) && !(P.stoodInHeld t))=true∧eqFields P (eqVal P 1) fs.toList xs.toList ys.toList=some b:=by
      cases hb:(!(P.eqGuardType P.depth t) && !(P.stoodInHeld t)) with
      | true=>rw [hb] at h;exact ⟨rfl,h⟩
      | false=>rw [hb] at h;cases h
    simp only [Bool.and_eq_true,Bool.not_eq_true'] at hb
    show (Op.equalIn (9999+1) t (.agg xs) (.agg ys)).run P w=_
    unfold Op.equalIn
    simp only [Sem.run_bind,run_underlying hu,Result.andThen_ok,run_program,hb.2,Bool.false_eq_true,if_false]
    rw [←Array.forIn_toList]
    have:=eqFields_run (P:=P) w xs ys 9998 (eqv:=eqVal P 1) (fun t x y b h w=>eqVal_run 1 9997 t x y b h w) (fun t x y b h=>eqVal_under h) fs.toList b h
    simp only [Nat.reduceAdd] at this
    rw [this]
    cases b<;>simp
  · cases h
theorem run_aggEq {x' y':Operand}(h:aggEq P t x y=some b) (w:World) :
    (do eqGuard .eql t x' y' x y;binOp .eql t x y:Sem Value).run P w=.ok (.bool b) w ∧
    (do eqGuard .neq t x' y' x y;binOp .neq t x y:Sem Value).run P w=.ok (.bool !b) w:=by
  have h2:=aggEq_run h w
  unfold aggEq at h
  split at h
  · rename_i fs xs ys hu
    have hb:P.eqGuardType P.depth t=false:=by
      cases hb:(!(P.eqGuardType P.depth t) && !(P.stoodInHeld t)) with
      | true=>simp only [Bool.and_eq_true,Bool.not_eq_true'] at hb;exact hb.1
      | false=>rw [hb] at h;cases h
    constructor
    · simp only [eqGuard,Sem.run_bind,Sem.run_ite,run_program,Result.andThen_ok,hb,binOp,Sem.run_pure]
      simp [h2]
    · simp only [eqGuard,Sem.run_bind,Sem.run_ite,run_program,Result.andThen_ok,hb,binOp,Sem.run_pure]
      simp [h2]
  · cases h
end
theorem pickv_eq (x:Bool) (a b:Value):pickv x a b=if x then a else b:=by
  unfold pickv;split<;>cases x<;>rfl
theorem fold_set (off:Nat):∀ (vs:List Value) (s:Nat) (cs:Array Value),(vs.zipIdx s).foldl (fun(cs:Array Value) x=>cs.setIfInBounds (off+x.2) x.1) cs=(setSeg vs (off+s) cs.toList).toArray:=by
  intro vs
  induction vs with
  | nil=>intro s cs;rfl
  | cons v vs ih=>
    intro s cs
    simp only [List.zipIdx_cons,List.foldl_cons,setSeg]
    rw [ih,Array.toList_setIfInBounds]
    rfl
theorem fill_of_fillL {place:Nat→Option (Nat×Nat)}:∀ (parts:List (Nat×Value)) (cs:Array Value) {r:List Value},fillL place cs.toList parts=some r→Instr.fill place cs parts=some r.toArray:=by
  intro parts
  induction parts with
  | nil=>intro cs r h;simp only [fillL,Option.some.injEq] at h;subst h;rfl
  | cons p ps ih=>
    intro cs r h
    obtain ⟨i,v⟩:=p
    simp only [fillL] at h
    simp only [Instr.fill]
    cases hp:place i with
    | none=>rw [hp] at h;cases h
    | some os=>
      obtain ⟨off,size⟩:=os
      rw [hp] at h
      simp only at h ⊢
      cases hb:(Nat.beq v.cells.toList.length size&&Nat.ble (off+v.cells.toList.length) cs.toList.length) with
      | false=>rw [hb] at h;cases h
      | true=>
        rw [hb] at h
        simp only [cond_true] at h
        simp only [Bool.and_eq_true] at hb
        have h1:=Nat.eq_of_beq_eq_true hb.1
        have h2:=Nat.le_of_ble_eq_true hb.2
        simp only [Array.length_toList] at h1 h2
        rw [if_neg (by simp [h1];omega)]
        have e:v.cells.zipIdx.foldl (fun cs x=>cs.setIfInBounds (off+x.2) x.1) cs=(setSeg v.cells.toList off cs.toList).toArray:=by
          rw [←Array.foldl_toList,Array.toList_zipIdx]
          exact fold_set off _ 0 cs
        have e':(v.cells.zipIdx.foldl (fun cs (x:Value×Nat)=>match x with | (c,j)=>cs.setIfInBounds (off+j) c) cs)=(setSeg v.cells.toList off cs.toList).toArray:=e
        rw [e']
        exact ih _ (by simpa using h)
theorem placesL_eq:∀ (fs:List Field) {ps:List (Nat×Nat)},placesL P fs=some ps→fs.mapM (fun f=>(P.info? f.type).map fun i=>(f.offset,i.size))=some ps:=by
  intro fs
  induction fs with
  | nil=>intro ps h;simp only [placesL,Option.some.injEq] at h;subst h;rfl
  | cons f fs ih=>
    intro ps h
    simp only [placesL] at h
    cases hs:szOf P f.type with
    | none=>rw [hs] at h;cases h
    | some n=>
      cases hp:placesL P fs with
      | none=>rw [hs,hp] at h;cases h
      | some l=>
        rw [hs,hp] at h
        simp only [Option.some.injEq] at h
        subst h
        obtain ⟨i,hi,rfl⟩:=szOf_some hs
        rw [List.mapM_cons,ih hp]
        simp [hi]
theorem zeroOf_some {t:TypeId}{z:List Value}(h:zeroOf P t=some z):∃ i v,P.info? t=some i∧i.zero=some v∧z=v.cells.toList:=by
  unfold zeroOf at h
  cases hi:P.info? t with
  | none=>rw [hi] at h;cases h
  | some i=>
    rw [hi] at h
    simp only at h
    cases hz:i.zero with
    | none=>rw [hz] at h;cases h
    | some v=>rw [hz] at h;exact ⟨i,v,rfl,hz,by simpa using h.symm⟩
theorem run_builtL {t:TypeId}{parts:Array (Nat×Value)}{cs:List Value}(h:builtL P t parts.toList=some cs) (w:World):(Instr.build t parts).run P w=.ok (.agg cs.toArray) w:=by
  refine run_build w t parts _ ?_
  unfold builtL at h
  cases hu:P.underlying t with
  | none=>rw [hu] at h;cases h
  | some d=>
    cases hz:zeroOf P t with
    | none=>rw [hu,hz] at h;cases d<;>cases h
    | some z=>
      obtain ⟨it,v,hi,hv,rfl⟩:=zeroOf_some hz
      rw [hu,hz] at h
      unfold Program.built
      rw [hi,hu]
      cases d<;>simp only [reduceCtorEq] at h
      · rename_i n e
        simp only
        cases hs:szOf P e with
        | none=>rw [hs] at h;cases h
        | some m=>
          rw [hs] at h
          obtain ⟨ie,hie,rfl⟩:=szOf_some hs
          rw [hv,hie]
          exact fill_of_fillL _ _ h
      · rename_i fs
        simp only
        cases hp:placesL P fs.toList with
        | none=>rw [hp] at h;cases h
        | some ps=>
          rw [hp] at h
          rw [hv,placesL_eq _ hp]
          simp only
          refine fill_of_fillL _ _ ?_
          simpa using h
theorem repL_length (z:List Value):∀ n,(repL z n).length=n*z.length:=by
  intro n
  induction n with
  | zero=>simp [repL]
  | succ n ih=>simp only [repL,List.length_append,ih,Nat.succ_mul];omega
theorem repL_get (z:List Value):∀ n k,k<n*z.length→(repL z n)[k]? = z[k % z.length]?:=by
  intro n
  induction n with
  | zero=>intro k h;simp at h
  | succ n ih=>
    intro k h
    rw [Nat.succ_mul] at h
    simp only [repL]
    by_cases hk:k<z.length
    · rw [List.getElem?_append_left hk,Nat.mod_eq_of_lt hk]
    · rw [List.getElem?_append_right (by omega),ih _ (by omega)]
      rw [←Nat.mod_eq_sub_mod (by omega)]
theorem range_repL (z:Array Value) (n:Nat):(Array.range (n*z.size)).map (z[· % z.size]!)=(repL z.toList n).toArray:=by
  apply Array.ext'
  apply List.ext_getElem?
  intro k
  simp only [Array.toList_map,Array.toList_range,List.getElem?_map]
  by_cases hk:k<n*z.size
  · have hz:0<z.size:=by
      rcases Nat.eq_zero_or_pos z.size with h | h
      · rw [h] at hk;simp at hk
      · exact h
    rw [repL_get _ _ _ (by simpa using hk)]
    have hm:=Nat.mod_lt k hz
    simp [hk,hm]
  · rw [List.getElem?_eq_none (by simpa using hk),List.getElem?_eq_none (by rw [repL_length];simpa using hk)]
    rfl
theorem run_buildSliceL {t e:TypeId}{n len:Nat}{z cs:List Value}{parts:Array (Nat×Value)}(hu:P.underlying t=some (.slice e)) (hs:szOf P e=some n) (hz:zeroOf P e=some z) (hb:len*n≤16777216) (hn:z.length=n)
    (h:fillL (fun i=>some (i*n,n)) (repL z len) parts.toList=some cs) (w:World) :
    (Instr.buildSlice t len parts).run P w=.ok (.slice (some ⟨w.heap.size,0,none⟩) len len) (w.alloc (.cells cs.toArray e)):=by
  obtain ⟨ie,v,hi,hv,rfl⟩:=zeroOf_some hz
  obtain ⟨ie',hi',rfl⟩:=szOf_some hs
  obtain rfl:ie'=ie:=by rw [hi] at hi';exact (Option.some.inj hi').symm
  have hsm:¬ (len*ie'.size>2 ^ 24):=by omega
  have hinit:(Array.range (len*ie'.size)).map ((if len*ie'.size=0 then (#[]:Array Value) else v.cells)[· % (if len*ie'.size=0 then (#[]:Array Value) else v.cells).size]!)=(repL v.cells.toList len).toArray:=by
    by_cases h0:len*ie'.size=0
    · rw [if_pos h0,h0]
      have:repL v.cells.toList len=[]:=List.eq_nil_of_length_eq_zero (by rw [repL_length,hn,h0])
      rw [this];simp
    · rw [if_neg h0]
      have hsz:ie'.size=v.cells.size:=by rw [←hn];simp
      rw [hsz]
      exact range_repL _ _
  have hf:=fill_of_fillL (place:=fun i=>some (i*ie'.size,ie'.size)) parts.toList (repL v.cells.toList len).toArray (by simpa using h)
  unfold Instr.buildSlice
  simp only [Sem.run_bind,run_underlying hu,Result.andThen_ok,run_sz hs,Sem.run_ite,if_neg hsm]
  by_cases h0:len*ie'.size=0
  · simp only [h0,if_true] at hinit ⊢
    simp only [Sem.run_pure,Result.andThen_ok,hinit,hf,newRow,Sem.run_bind,run_newObj,World.alloc_eq]
  · simp only [h0,if_false] at hinit ⊢
    simp only [zeroValue,Sem.run_bind,run_ti hi,Result.andThen_ok,hv,Sem.run_pure,hinit,hf,newRow,run_newObj,World.alloc_eq]
theorem partsE_eq (ρ:Env) (parts:Array (Nat×Operand)):(parts.map fun(i,x)=>(i,ev ρ x)).toList=partsE ρ parts.toList:=by
  simp only [Array.toList_map,partsE]
def isLoadB (o:Oper):Bool:=
  match o.op with
  | .load .. => true
  | _=>false
def isAllocB (o:Oper):Bool:=
  match o.op with
  | .alloc _=>true
  | .box .. => true
  | .buildSlice .. => true
  | _=>false
def isNul (P:Program) (o:Oper):Bool:=
  match o.op with
  | .store .. | .alloc _ | .box .. | .buildSlice .. | .makeSlice .. | .lookup .. | .mapUpdate .. | .makeMap .. | .range .. | .next .. => false
  | .call c=>(match c.callee with | .builtin .append=>false | .builtin .copy=>false | .builtin .clear=>false | .builtin _=>true | _=>false)
  | .convert s d _=>(match P.underlying s,P.underlying d with
    | some (.slice _),some .string=>false
    | some .string,some (.slice _)=>false
    | _,_=>true)
  | _=>true
theorem run_val {s:Sem Value}{v:Value}{w w':World}(h:s.run P w=.ok v w'):(do pure (Next.value (← s)):Sem Next).run P w=.ok (.value v) w':=by
  simp only [Sem.run_bind,h,Result.andThen_ok,Sem.run_pure]
set_option maxHeartbeats 1000000 in
theorem wpOp1_nul {ρ:Env}{o:Oper}{K:Env→WP}(hnul:isNul P o=true) (h:wpOp1 P o ρ K w) :
    ∃ v,K (put ρ o.dst v) w∧(execOp (ev ρ) o).run P w=.ok (.value v) w∧(isLoadB o=true∨∀ w',(execOp (ev ρ) o).run P w'=.ok (.value v) w'):=by
  obtain ⟨dst,op,type,pos,after,guard⟩:=o
  have all:∀ v,K (put ρ dst v) w→(∀ w',(execOp (ev ρ) ⟨dst,op,type,pos,after,guard⟩).run P w'=.ok (.value v) w') →
      ∃ v,K (put ρ dst v) w∧(execOp (ev ρ) ⟨dst,op,type,pos,after,guard⟩).run P w=.ok (.value v) w∧(isLoadB ⟨dst,op,type,pos,after,guard⟩=true∨∀ w',(execOp (ev ρ) ⟨dst,op,type,pos,after,guard⟩).run P w'=.ok (.value v) w'):=
    fun v hk hr=>⟨v,hk,hr w,.inr hr⟩
  have hpure:(match pureRun P (execOp (ev ρ) ⟨dst,op,type,pos,after,guard⟩) with | some (.value v)=>K (put ρ dst v) | _=>bad) w →
      ∃ v,K (put ρ dst v) w∧(execOp (ev ρ) ⟨dst,op,type,pos,after,guard⟩).run P w=.ok (.value v) w∧(isLoadB ⟨dst,op,type,pos,after,guard⟩=true∨∀ w',(execOp (ev ρ) ⟨dst,op,type,pos,after,guard⟩).run P w'=.ok (.value v) w'):=by
    intro h
    cases hp:pureRun P (execOp (ev ρ) ⟨dst,op,type,pos,after,guard⟩) with
    | none=>rw [hp] at h;exact h.elim
    | some n=>
      rw [hp] at h
      cases n<;>try exact h.elim
      exact all _ h (pureRun_run _ _ hp)
  cases op with
  | load t x=>
    simp only [wpOp1] at h
    simp only [execOp]
    cases hx:ev ρ x<;>rw [hx] at h<;>try exact h.elim
    rename_i q
    cases q with
    | none=>exact h.elim
    | some ad=>
    simp only at h
    cases hagg:isAggB P t with
    | true=>
      rw [hagg] at h
      simp only [cond_true] at h
      obtain ⟨d,hd⟩:=isAggB_under hagg
      cases hsz:szOf P t with
      | none=>rw [hsz] at h;exact h.elim
      | some n=>
        rw [hsz] at h
        obtain ⟨hb,h⟩:=of_bif_bad h
        have hb:=Nat.eq_of_beq_eq_true hb
        obtain ⟨vs,hv,h,_⟩:=getCells_run (P:=P) _ _ _ _ _ h
        refine ⟨_,h,run_val ?_,.inl rfl⟩
        simp only [Instr.loadAt,Instr.sureAddr,Sem.run_bind,Sem.run_pure,Result.andThen_ok,loadVar,isAgg_run hd,hagg,if_true,run_sz hsz,loadCells]
        rw [hb]
        simp only [List.reverse_nil] at hv
        rw [hv]
        rfl
    | false=>
      rw [hagg] at h
      simp only [cond_false] at h
      cases hsh:shapes P 20 t with
      | nil=>rw [hsh] at h;exact h.elim
      | cons s r=>
        cases r with
        | cons _ _=>rw [hsh] at h;exact h.elim
        | nil=>
          rw [hsh] at h
          obtain ⟨d,hd⟩:=shapes_under hsh
          obtain ⟨y,hy,h⟩:=h
          refine ⟨_,h,run_val ?_,.inl rfl⟩
          simp only [Instr.loadAt,Instr.sureAddr,Sem.run_bind,Sem.run_pure,Result.andThen_ok,loadVar,isAgg_run hd,hagg,Bool.false_eq_true,if_false,run_load,hy]
  | nilCheck x=>
    simp only [wpOp1] at h
    cases hx:ev ρ x with
    | pointer q=>
      rw [hx] at h
      obtain ⟨ad,rfl,h⟩:=h
      exact all _ h fun w=>by simp only [execOp,hx,Sem.run_pure]
    | _=>rw [hx] at h;exact hpure h
  | indexAddr t x i=>
    obtain ⟨F,hF,h'⟩:∃ F,wpOp1 P _ ρ K=F∧F w:=⟨_,rfl,h⟩
    clear h
    have h:=h'
    clear h'
    simp only [wpOp1] at hF
    simp only [execOp]
    split at hF
    · rename_i e q n _ k m hu hx hi
      subst hF
      cases hsz:szOf P e with
      | none=>rw [hsz] at h;exact h.elim
      | some sz=>
        rw [hsz] at h
        obtain ⟨ad,rfl,h0,h1,h⟩:=h
        refine all _ h fun w=>run_val ?_
        simp [Instr.indexAt,asIntOf,hx,hi,run_underlying hu,h0,h1,run_sz hsz]
    · rename_i n e ad k m hu hx hi
      subst hF
      cases hsz:szOf P e with
      | none=>rw [hsz] at h;exact h.elim
      | some sz=>
        rw [hsz] at h
        obtain ⟨ad',ha,h0,h1,h⟩:=h
        obtain rfl:ad=ad':=by simpa using ha
        refine all _ h fun w=>run_val ?_
        simp [Instr.indexAt,Instr.sureAddr,asIntOf,hx,hi,run_underlying hu,h0,h1,run_sz hsz]
    · subst hF;exact h.elim
  | index t x i=>
    obtain ⟨F,hF,h'⟩:∃ F,wpOp1 P _ ρ K=F∧F w:=⟨_,rfl,h⟩
    clear h
    have h:=h'
    clear h'
    simp only [wpOp1] at hF
    simp only [execOp]
    split at hF
    · rename_i s k m hu hx hi
      subst hF
      obtain ⟨b,h0,hb,h⟩:=h
      refine all _ h fun w=>run_val ?_
      simp [Instr.index,asIntOf,hx,hi,run_underlying hu,h0,hb]
    · rename_i n e cs k m hu hx hi
      split at hF
      · rename_i s hsz hss
        subst hF
        obtain ⟨hb,h⟩:=of_bif_bad h
        obtain ⟨h0,h1,v,hv,h⟩:=h
        obtain ⟨d,hd⟩:=shapes_under hss
        refine all _ h fun w=>run_val ?_
        have hp:=part_run (cs:=cs) (off:=m.toNat*1) hd (by simpa using hb) (by simpa using hv) w
        simp only [Instr.index,asIntOf,hx,hi,Sem.run_bind,Sem.run_pure,Result.andThen_ok,run_underlying hu,Sem.run_ite,h0,h1,and_self,if_true,run_sz hsz,hp]
      · rename_i sz hsz _
        subst hF
        obtain ⟨hb,h⟩:=of_bif_bad h
        simp only [Bool.and_eq_true] at hb
        obtain ⟨h0,h1,v,hv,h⟩:=h
        rw [Cur.app_of,hv] at h
        obtain ⟨d,hd⟩:=isAggB_under hb.1
        refine all _ h fun w=>run_val ?_
        have hp:=partOf_run (P:=P) (t:=e) (cs:=cs) (off:=m.toNat*sz) (v:=.agg ((cs.toList.drop (m.toNat*sz)).take sz).toArray) hd (by unfold partOf;rw [hb.1,hsz];rfl) w
        simp only [Instr.index,asIntOf,hx,hi,Sem.run_bind,Sem.run_pure,Result.andThen_ok,run_underlying hu,Sem.run_ite,h0,h1,and_self,if_true,run_sz hsz,hp]
      · subst hF;exact h.elim
    · subst hF;exact h.elim
  | slice t x lo hi mx=>
    obtain ⟨F,hF,h'⟩:∃ F,wpOp1 P _ ρ K=F∧F w:=⟨_,rfl,h⟩
    clear h
    have h:=h'
    clear h'
    simp only [wpOp1] at hF
    simp only [execOp]
    split at hF
    · rename_i e q n c hu hx
      split at hF
      · rename_i l u m sz hl hh hm hsz
        subst hF
        obtain ⟨hc,h⟩:=of_bif_bad h
        obtain ⟨h0,h1,h2,h3,h⟩:=h
        refine all _ h fun w=>run_val ?_
        have h3':m≤(c:Int):=h3
        have hm1:=fun code=>bnd_bound hm P w c code (by omega) h3'
        have hu1:=fun code=>bnd_bound hh P w m.toNat code (by omega) (by omega)
        have hl1:=fun code=>bnd_bound hl P w u.toNat code h0 (by omega)
        simp only [Int.toNat_natCast,Int.toNat_zero] at hm1 hu1 hl1
        have hmc:mx=none→m=c:=fun e=>by subst e;simp [bnd] at hm;exact hm.symm
        simp only [Instr.sliceAt,Instr.slice,Instr.sliceBounds,Sem.run_bind,run_underlying hu,Result.andThen_ok,hx]
        cases mx with
        | none=>
          obtain rfl:=hmc rfl
          simp only [Option.map_none,Sem.run_pure,Option.isSome_none,Bool.false_eq_true,if_false,if_true]
          have hu1:=hu1 .sliceAcap
          have hl1:=hl1 .sliceB
          cases hi<;>cases lo<;>simp only [Option.map_none,Option.map_some,Sem.run_pure,Int.toNat_natCast] at hu1 hl1 ⊢ <;> (try simp only [hu1,hl1,Result.andThen_ok,run_sz hsz,Sem.run_bind,Sem.run_pure,Sl.cut]) <;>
            (try (cases hu1)) <;> (try (cases hl1))<;>simp_all
        | some mo=>
          cases hi with
          | none=>simp at hc
          | some ho=>
            have hm1:=hm1 .slice3Acap
            have hu1:=hu1 .slice3B
            have hl1:=hl1 .slice3C
            cases lo<;>simp only [Option.map_none,Option.map_some,Sem.run_pure,Option.isSome_some,if_true] at hm1 hu1 hl1 ⊢ <;> simp only [hm1,hu1,hl1,Result.andThen_ok,run_sz hsz,Sem.run_bind,Sem.run_pure,Sl.cut] <;> simp_all
      · subst hF;exact h.elim
    · rename_i s hu hx
      split at hF
      · rename_i l u hl hh
        subst hF
        obtain ⟨h0,h1,h2,h⟩:=h
        refine all _ h fun w=>run_val ?_
        have hu1:=fun code=>bnd_bound hh P w s.size code (by omega) h2
        have hl1:=fun code=>bnd_bound hl P w u.toNat code h0 (by omega)
        simp only [Int.toNat_natCast,Int.toNat_zero] at hu1 hl1
        simp only [Instr.sliceAt,Instr.slice,Instr.sliceBounds,Sem.run_bind,run_underlying hu,Result.andThen_ok,hx]
        have hu1:=hu1 .sliceAlen
        have hl1:=hl1 .sliceB
        cases hi<;>cases lo<;>simp only [Option.map_none,Option.map_some,Sem.run_pure,Option.isSome_none,Bool.false_eq_true,if_false] at hu1 hl1 ⊢ <;> (try simp only [hu1,hl1,Result.andThen_ok,Sem.run_pure])<;>simp_all
      · subst hF;exact h.elim
    · rename_i n e a hu hx
      split at hF
      · rename_i sz hsz
        subst hF
        refine all _ h fun w=>run_val ?_
        simp [Instr.sliceAt,Instr.sliceBounds,Sem.run_bind,run_underlying hu,Result.andThen_ok,hx,Instr.sureAddr,run_sz hsz]
        intro _;simp [Addr.add]
      · subst hF;exact h.elim
    · subst hF;exact h.elim
  | binOp op xt x y yt=>
    obtain ⟨F,hF,h'⟩:∃ F,wpOp1 P _ ρ K=F∧F w:=⟨_,rfl,h⟩
    clear h
    have h:=h'
    clear h'
    simp only [wpOp1] at hF
    split at hF<;>subst hF
    · rename_i k m k' m' hx hy
      obtain ⟨hk0,h0,h2⟩:=of_bif_bad h
      have hk1:=of_decide_eq_true hk0
      subst hk1
      refine all _ h2 fun w=>?_
      simp only [execOp,hx,hy]
      refine run_val ?_
      simp only [eqGuard_quo,binOp_quo,Op.intDiv,Sem.run_bind,Sem.run_pure,Result.andThen_ok,Sem.run_ite]
      rw [if_neg h0]
    · rename_i k m k' m' hx hy
      obtain ⟨hk0,h0,h2⟩:=of_bif_bad h
      have hk1:=of_decide_eq_true hk0
      subst hk1
      refine all _ h2 fun w=>?_
      simp only [execOp,hx,hy]
      refine run_val ?_
      simp only [eqGuard_rem,binOp_rem,Op.intDiv,Sem.run_bind,Sem.run_pure,Result.andThen_ok,Sem.run_ite]
      rw [if_neg h0]
    · rename_i k m k' m' hx hy
      obtain ⟨h0,h⟩:=h
      refine all _ h fun w=>?_
      simp only [execOp,hx,hy]
      refine run_val ?_
      simp only [eqGuard_shl,binOp_shl,Op.shift,Sem.run_bind,Sem.run_pure,Result.andThen_ok,Sem.run_ite]
      rw [if_neg (by omega)]
    · rename_i k m k' m' hx hy
      obtain ⟨h0,h⟩:=h
      refine all _ h fun w=>?_
      simp only [execOp,hx,hy]
      refine run_val ?_
      simp only [eqGuard_shr,binOp_shr,Op.shift,Sem.run_bind,Sem.run_pure,Result.andThen_ok,Sem.run_ite]
      rw [if_neg (by omega)]
    · rename_i s s' hx hy
      obtain ⟨hle,h⟩:=h
      refine all _ h fun w=>?_
      simp only [execOp,hx,hy]
      refine run_val ?_
      simp only [eqGuard_add,binOp,Op.stringOp,Sem.run_bind,Sem.run_pure,Result.andThen_ok,Sem.run_ite]
      rw [if_neg (by simp only [IntKind.max_i64];omega)]
    · cases hy:isNilC y with
      | false=>
        rw [hy] at h
        simp only [cond_false] at h
        cases hk:nilK P xt y with
        | some f=>
          rw [hk] at h
          obtain ⟨b,hv,h⟩:=h
          exact all _ h fun w=>by simp only [execOp];exact run_val (run_nilK (x:=x) hk hv ρ w).1
        | none=>
          rw [hk] at h
          cases hb:aggEq P xt (ev ρ x) (ev ρ y) with
          | none=>rw [hb] at h;exact hpure h
          | some b=>
            rw [hb] at h
            exact all _ h fun w=>by simp only [execOp];exact run_val (run_aggEq hb w).1
      | true=>
        rw [hy] at h
        simp only [cond_true] at h
        cases hb:nilEq P xt (ev ρ x) with
        | none=>rw [hb] at h;exact hpure h
        | some b=>
          rw [hb] at h
          obtain ⟨hy',h⟩:=of_bif_bad h
          exact all _ h fun w=>by simp only [execOp];exact run_val (run_nilEq (x:=x) hb (ρ:=ρ) hy' w).1
    · cases hy:isNilC y with
      | false=>
        rw [hy] at h
        simp only [cond_false] at h
        cases hk:nilK P xt y with
        | some f=>
          rw [hk] at h
          obtain ⟨b,hv,h⟩:=h
          exact all _ h fun w=>by simp only [execOp];exact run_val (run_nilK (x:=x) hk hv ρ w).2
        | none=>
          rw [hk] at h
          cases hb:aggEq P xt (ev ρ x) (ev ρ y) with
          | none=>rw [hb] at h;exact hpure h
          | some b=>
            rw [hb] at h
            exact all _ h fun w=>by simp only [execOp];exact run_val (run_aggEq hb w).2
      | true=>
        rw [hy] at h
        simp only [cond_true] at h
        cases hb:nilEq P xt (ev ρ x) with
        | none=>rw [hb] at h;exact hpure h
        | some b=>
          rw [hb] at h
          obtain ⟨hy',h⟩:=of_bif_bad h
          exact all _ h fun w=>by simp only [execOp];exact run_val (run_nilEq (x:=x) hb (ρ:=ρ) hy' w).2
    · exact hpure h
  | pick c x y=>
    simp only [wpOp1] at h
    cases hc:ev ρ c<;>rw [hc] at h<;>try exact h.elim
    rename_i b
    simp only [execOp]
    refine all _ h fun w=>?_
    simp only [execOp]
    rw [hc,pickv_eq]
    simp only [asBool,Sem.run_bind,Sem.run_pure,Result.andThen_ok]
  | call c=>
    simp only [wpOp1] at h
    cases hc:c.callee with
    | value f=>simp [isNul,hc] at hnul
    | invoke r m=>simp [isNul,hc] at hnul
    | builtin b=>
      rw [hc] at h
      obtain ⟨F,hF,h'⟩:∃ F:WP,_=F∧F w:=⟨_,rfl,h⟩
      clear h
      have h:=h'
      clear h'
      have hargs:∀ l,c.args.toList=l→c.args=l.toArray:=fun l e=>by rw [←e]
      have htys:∀ l,c.argTypes.toList=l→c.argTypes=l.toArray:=fun l e=>by rw [←e]
      cases b<;>simp only at hF <;> (try (subst hF;exact hpure h)) <;> (try (simp [isNul,hc] at hnul;done))
      · -- cap
        split at hF
        · rename_i t x ht hx
          split at hF<;>subst hF
          · rename_i hu hv
            refine all _ h fun w=>?_
            simp [execOp,resolve,hc,invoke,builtin,Builtin.cap_,hargs _ hx,htys _ ht,run_underlying hu,hv,goInt]
          · exact hpure h
        · subst hF;exact hpure h
      · -- len
        split at hF
        · rename_i t x ht hx
          split at hF<;>subst hF
          · rename_i hu hv
            refine all _ h fun w=>?_
            simp [execOp,resolve,hc,invoke,builtin,Builtin.len_,hargs _ hx,htys _ ht,run_underlying hu,hv,goInt]
          · rename_i hu hv
            refine all _ h fun w=>?_
            simp [execOp,resolve,hc,invoke,builtin,Builtin.len_,hargs _ hx,htys _ ht,run_underlying hu,hv,goInt]
          · rename_i hu
            refine all _ h fun w=>?_
            simp [execOp,resolve,hc,invoke,builtin,Builtin.len_,hargs _ hx,htys _ ht,run_underlying hu,goInt]
          · exact hpure h
        · subst hF;exact hpure h
      · -- max
        split at hF
        · rename_i x y hx
          split at hF<;>subst hF
          · rename_i ha hb
            refine all _ h fun w=>?_
            simp [execOp,resolve,hc,invoke,builtin,Builtin.max_,Builtin.max2,hargs _ hx,ha,hb]
          · exact hpure h
        · rename_i x y z hx
          split at hF<;>subst hF
          · rename_i ha hb hz
            obtain ⟨hk,h3⟩:=of_bif_bad h
            simp only [Bool.and_eq_true,decide_eq_true_eq] at hk
            obtain ⟨rfl,rfl⟩:=hk
            refine all _ h3 fun w=>?_
            simp [execOp,resolve,hc,invoke,builtin,Builtin.max_,Builtin.max2,hargs _ hx,ha,hb,hz]
          · exact hpure h
        · subst hF;exact hpure h
      · -- min
        split at hF
        · rename_i x y hx
          split at hF<;>subst hF
          · rename_i ha hb
            refine all _ h fun w=>?_
            simp [execOp,resolve,hc,invoke,builtin,Builtin.min_,Builtin.min2,hargs _ hx,ha,hb]
          · exact hpure h
        · rename_i x y z hx
          split at hF<;>subst hF
          · rename_i ha hb hz
            obtain ⟨hk,h3⟩:=of_bif_bad h
            simp only [Bool.and_eq_true,decide_eq_true_eq] at hk
            obtain ⟨rfl,rfl⟩:=hk
            refine all _ h3 fun w=>?_
            simp [execOp,resolve,hc,invoke,builtin,Builtin.min_,Builtin.min2,hargs _ hx,ha,hb,hz]
          · exact hpure h
        · subst hF;exact hpure h
  | build t parts=>
    simp only [wpOp1] at h
    cases hb:builtL P t (partsE ρ parts.toList) with
    | none=>rw [hb] at h;exact h.elim
    | some cs=>
      rw [hb] at h
      refine all _ h fun w=>?_
      simp only [execOp]
      refine run_val (run_builtL ?_ w)
      rw [partsE_eq];exact hb
  | field t x f=>
    obtain ⟨F,hF,h'⟩:∃ F,wpOp1 P _ ρ K=F∧F w:=⟨_,rfl,h⟩
    clear h
    have h:=h'
    clear h'
    simp only [wpOp1] at hF
    split at hF
    · rename_i fs cs hu hx
      cases hfd:fs.toList[f]? with
      | none=>rw [hfd] at hF;subst hF;exact h.elim
      | some fd=>
      rw [hfd] at hF
      have hfd':fs[f]? = some fd:=by simpa using hfd
      simp only at hF
      cases hagg:isAggB P fd.type with
      | true=>
        rw [hagg] at hF
        simp only [cond_true] at hF
        obtain ⟨d,hd⟩:=isAggB_under hagg
        cases hs:szOf P fd.type with
        | none=>rw [hs] at hF;subst hF;exact h.elim
        | some n=>
          rw [hs] at hF
          subst hF
          refine all _ h fun w=>?_
          simp only [execOp,Instr.field,hx,asAgg,part,Sem.run_bind,run_underlying hu,Result.andThen_ok,hfd',Sem.run_pure,isAgg_run hd,hagg,if_true,run_sz hs]
          congr 4
          apply Array.ext'
          simp [List.extract_eq_take_drop]
      | false=>
        rw [hagg] at hF
        simp only [cond_false] at hF
        split at hF<;>subst hF
        · rename_i d v hd hv
          have hv':cs[fd.offset]? = some v:=by simpa using hv
          refine all _ h fun w=>?_
          simp only [execOp,Instr.field,hx,asAgg,part,Sem.run_bind,run_underlying hu,Result.andThen_ok,hfd',Sem.run_pure,isAgg_run hd,hagg,Bool.false_eq_true,if_false,hv']
        · exact h.elim
    · subst hF;exact h.elim
  | convert sT dT x=>
    obtain ⟨F,hF,h'⟩:∃ F,wpOp1 P _ ρ K=F∧F w:=⟨_,rfl,h⟩
    clear h
    have h:=h'
    clear h'
    simp only [wpOp1] at hF
    split at hF
    · rename_i e hs' hd2
      simp [isNul,hs',hd2] at hnul
    · rename_i e hs' hd2
      simp [isNul,hs',hd2] at hnul
    · subst hF;exact hpure h
  | store t x y=>simp [isNul] at hnul
  | alloc e=>simp [isNul] at hnul
  | box e x=>simp [isNul] at hnul
  | buildSlice t n ps=>simp [isNul] at hnul
  | makeSlice t x y=>simp [isNul] at hnul
  | lookup t x i ok=>simp [isNul] at hnul
  | mapUpdate t m k x=>simp [isNul] at hnul
  | makeMap t r=>simp [isNul] at hnul
  | range t x=>simp [isNul] at hnul
  | next t x=>simp [isNul] at hnul
  | _=>exact hpure h
def isYieldB (ρ:Env) (o:Oper):Bool:=match o.op with
  | .call c=>(yieldee ρ c.callee).isSome
  | _=>false
theorem wpOp1_yield {rn:Option Nat}{ρ:Env}{a:Act}{o:Oper}{K:Env→WP}{next:Act→World→Prop}{Q:Exit→Act→World→Prop}
    (hs:∀ cs b,o.op≠.select cs b) (hev:∀ x∈o.op.operands,a.eval x=ev ρ x) (hy:isYieldB ρ o=true) (h:wpOp1 P o ρ K w)
    (hk:∀ v w',K (put ρ o.dst v) w'→next (a.put o.dst v) w'):o.wpIn (FF rn) 0 P a w next Q:=by
  obtain ⟨dst,op,type,pos,after,guard⟩:=o
  have he:execOp a.eval ⟨dst,op,type,pos,after,guard⟩=execOp (ev ρ) ⟨dst,op,type,pos,after,guard⟩:=execOp_congr _ hs hev
  have fin:∀ v w',K (put ρ dst v) w'→next (a.put dst v) w':=hk
  unfold isYieldB at hy
  cases op with
  | call c=>
    simp only at hy
    simp only [wpOp1] at h
    cases hc:c.callee with
    | value f=>
      rw [hc] at h hy
      simp only [callee,yieldee] at h hy
      cases hv:ev ρ f<;>rw [hv] at h hy<;>try (cases hy;done)
      rename_i fn first cap
      cases fn<;>try (cases hy;done)
      rename_i l
      simp only at h
      generalize rsOf P type=r at h
      obtain ⟨r1,ss⟩:=r
      cases r1 with
      | agg=>exact h.elim
      | tup l=>exact h.elim
      | one=>
        cases ss with
        | nil=>exact h.elim
        | cons s ss=>
          cases ss with
          | cons _ _=>cases s<;>exact h.elim
          | nil=>
            cases s<;>try exact h.elim
            obtain ⟨fn,tmps,assign,body,hr,hR⟩:=h
            refine ⟨fun _ _=>trivial,?_⟩
            rw [Oper.semAt_eq _ _ _ (by simp),he]
            have e:(first.toList++c.args.toList.map (ev ρ)).toArray=first++c.args.map (ev ρ):=by apply Array.ext';simp
            rw [e] at hr
            have hx:(execOp (ev ρ) ⟨dst,.call c,type,pos,after,guard⟩).run P w=.ok (.round l fn tmps assign body) w:=by
              simp only [execOp,resolve,hc,Deferred.ofValue,hv,invoke,Sem.run_bind,Sem.run_pure,Result.andThen_ok]
              exact hr
            rw [hx]
            refine ⟨fun h=>(by cases h),?_⟩
            refine RoundIn.mono (F:=FF rn) hR ?_
            rintro e w' ⟨b,rfl,hK⟩
            exact fin _ _ hK
    | invoke r m=>rw [hc] at hy;cases hy
    | builtin b=>rw [hc] at hy;cases hy
  | _=>cases hy
set_option maxHeartbeats 1000000 in
theorem wpOp1_at {rn:Option Nat}{ρ:Env}{a:Act}{o:Oper}{K:Env→WP}{next:Act→World→Prop}{Q:Exit→Act→World→Prop}
    (hn:NoGor P) (hp:∀ w',Pan.q w'→Q (.panic Pan.ch) a w') (hs:∀ cs b,o.op≠.select cs b) (hev:∀ x∈o.op.operands,a.eval x=ev ρ x) (h:wpOp1 P o ρ K w)
    (hk:∀ v w',K (put ρ o.dst v) w'→next (a.put o.dst v) w'):o.wpIn (FF rn) 0 P a w next Q:=by
  rcases Bool.eq_false_or_eq_true (isYieldB ρ o) with hy | hy
  · exact wpOp1_yield hs hev hy h hk
  obtain ⟨dst,op,type,pos,after,guard⟩:=o
  have he:execOp a.eval ⟨dst,op,type,pos,after,guard⟩=execOp (ev ρ) ⟨dst,op,type,pos,after,guard⟩:=execOp_congr _ hs hev
  have fin:∀ v w',K (put ρ dst v) w'→next (a.put dst v) w':=hk
  refine wpIn_of_wp (fun c e=>?_) ?_
  · simp only at e
    subst e
    cases hnul:isNul P ⟨dst,.defer c,type,pos,after,guard⟩ with
    | false=>simp [isNul] at hnul
    | true=>
      obtain ⟨v,_,hr,_⟩:=wpOp1_nul hnul h
      simp only [execOp,Sem.run_bind] at hr
      cases hres:(resolve (ev ρ) c type).run P w with
      | ok d w'=>rw [hres] at hr;simp only [Result.andThen_ok,Sem.run_pure] at hr;cases hr
      | halt x w'=>rw [hres] at hr;cases hr
  unfold Oper.wp
  rw [he]
  cases hnul:isNul P ⟨dst,op,type,pos,after,guard⟩ with
  | true=>
    obtain ⟨v,hK,hr,_⟩:=wpOp1_nul hnul h
    rw [hr]
    exact fin _ _ hK
  | false=>
    cases op with
    | store t x y=>
      simp only [wpOp1] at h
      simp only [execOp]
      cases hx:ev ρ x<;>rw [hx] at h<;>try exact h.elim
      rename_i q
      cases q with
      | none=>exact h.elim
      | some ad=>
      simp only at h
      cases hsz:szOf P t with
      | none=>rw [hsz] at h;exact h.elim
      | some n=>
        rw [hsz] at h
        obtain ⟨hb,h⟩:=of_bif_bad h
        have hb:=Nat.eq_of_beq_eq_true hb
        obtain ⟨w',hv,h⟩:=setCells_run (P:=P) _ _ _ _ _ h
        refine upon_unit (w':=w') ?_ (fin _ _ h)
        simp only [Instr.storeAt,Instr.sureAddr,Sem.run_bind,Sem.run_pure,Result.andThen_ok,storeVar,run_sz hsz,Sem.run_ite]
        rw [if_neg (by simp only [Array.length_toList] at hb;omega)]
        exact hv
    | alloc e=>
      simp only [wpOp1] at h
      simp only [execOp]
      cases hi:P.info? e with
      | none=>rw [hi] at h;exact h.elim
      | some i=>
        rw [hi] at h
        simp only [Option.bind_some] at h
        cases hz:i.zero with
        | none=>rw [hz] at h;exact h.elim
        | some z=>
          rw [hz] at h
          refine upon_val (w':=w.alloc (.cells z.cells e)) ?_ (fin _ _ h)
          simp [Instr.alloc,zeroValue,run_ti hi,hz,newVar,newRow]
    | box e x=>
      simp only [wpOp1] at h
      simp only [execOp]
      refine upon_val (w':=w.alloc (.cells (ev ρ x).cells e)) ?_ (fin _ _ h)
      simp [Instr.box,newVar,newRow]
    | call c=>
      simp only [wpOp1] at h
      cases hc:c.callee with
      | value f=>
        rw [hc] at h
        simp only [callee,yieldee] at h
        cases hv:ev ρ f<;>rw [hv] at h<;>try exact h.elim
        rename_i fn first cap
        cases fn<;>try exact h.elim
        case yield l=>simp only [isYieldB,hc,yieldee,hv] at hy;cases hy
        rename_i g
        simp only at h
        have e:(first.toList++c.args.toList.map (ev ρ)++cap.toList).toArray=first++c.args.map (ev ρ)++cap:=by
          apply Array.ext';simp
        cases hb:hasBody P g with
        | false=>
          rw [hb] at h
          simp only [cond_false] at h
          generalize rsOf P type=r at h
          obtain ⟨r1,ss⟩:=r
          cases r1 with
          | agg=>exact h.elim
          | tup l=>exact h.elim
          | one=>
            cases ss with
            | nil=>exact h.elim
            | cons s ss=>
              cases ss with
              | cons _ _=>exact h.elim
              | nil=>
                obtain ⟨x,w',hr',h⟩:=h
                rw [e] at hr'
                have hx:(execOp (ev ρ) ⟨dst,.call c,type,pos,after,guard⟩).run P w=.ok (.value (s.mk x)) w':=by
                  simp only [execOp,resolve,hc,Deferred.ofValue,hv,invoke,Sem.run_bind,Sem.run_pure,Result.andThen_ok]
                  exact hr'
                rw [hx]
                exact fin _ _ h
        | true=>
        rw [hb] at h
        simp only [cond_true] at h
        have hx:(execOp (ev ρ) ⟨dst,.call c,type,pos,after,guard⟩).run P w=.ok (.enter g (first++c.args.map (ev ρ)++cap)) w:=by
          unfold hasBody at hb
          cases hg:P.funcs[g]? with
          | none=>rw [hg] at hb;cases hb
          | some fd=>
            rw [hg] at hb
            have hnm:=hn g fd hg
            have hbn:fd.body.isNone=false:=by cases hbb:fd.body<;>simp_all
            simp only [execOp,resolve,hc,Deferred.ofValue,hv,invoke,callFunc,Sem.run_bind,Sem.run_pure,Result.andThen_ok,run_program,hg,hnm,hbn,Bool.false_eq_true,if_false]
        rw [hx]
        simp only [Oper.upon]
        have e:(first.toList++c.args.toList.map (ev ρ)++cap.toList).toArray=first++c.args.map (ev ρ)++cap:=by
          apply Array.ext';simp
        cases hm:Pan.may g with
        | false=>
          rw [hm] at h
          simp only [cond_false] at h
          unfold XCall at h
          rw [e] at h
          refine h.mono ?_
          rintro e w' ⟨t,rfl,hK⟩
          rw [Cur.app_of] at hK
          exact fin _ _ hK
        | true=>
          rw [hm] at h
          simp only [cond_true] at h
          unfold XCallP at h
          rw [e] at h
          refine h.mono ?_
          rintro e w' (⟨t,rfl,hK⟩ | ⟨rfl,hq⟩)
          · rw [Cur.app_of] at hK
            exact fin _ _ hK
          · exact hp _ hq
      | invoke r m=>rw [hc] at h;exact h.elim
      | builtin b=>
        rw [hc] at h
        have hargs:c.args.map (ev ρ)=(c.args.toList.map (ev ρ)).toArray:=by apply Array.ext';simp
        cases b <;> (try (simp [isNul,hc] at hnul;done))
        · obtain ⟨s,w',hr,h⟩:=h
          have hx:(execOp (ev ρ) ⟨dst,.call c,type,pos,after,guard⟩).run P w=.ok (.value s.v) w':=by
            rw [←hargs] at hr
            simp only [execOp,resolve,hc,Sem.run_bind,Sem.run_pure,Result.andThen_ok,invoke,builtin,hr]
          rw [hx]
          exact fin _ _ h
        · obtain ⟨s,w',hr,h⟩:=h
          have hx:(execOp (ev ρ) ⟨dst,.call c,type,pos,after,guard⟩).run P w=.ok (.value s) w':=by
            rw [←hargs] at hr
            simp only [execOp,resolve,hc,Sem.run_bind,Sem.run_pure,Result.andThen_ok,invoke,builtin,hr]
          rw [hx]
          exact fin _ _ h
        · obtain ⟨s,w',hr,h⟩:=h
          have hx:(execOp (ev ρ) ⟨dst,.call c,type,pos,after,guard⟩).run P w=.ok (.value (.int .i64 s)) w':=by
            rw [←hargs] at hr
            simp only [execOp,resolve,hc,Sem.run_bind,Sem.run_pure,Result.andThen_ok,invoke,builtin,hr]
          rw [hx]
          exact fin _ _ h
    | buildSlice t len parts=>
      obtain ⟨F,hF,h'⟩:∃ F,wpOp1 P _ ρ K=F∧F w:=⟨_,rfl,h⟩
      clear h
      have h:=h'
      clear h'
      simp only [wpOp1] at hF
      split at hF
      · rename_i e hu
        split at hF
        · rename_i n z hs hz
          subst hF
          obtain ⟨hb,h⟩:=of_bif_bad h
          simp only [Bool.and_eq_true] at hb
          cases hfl:fillL (fun i=>some (i*n,n)) (repL z len) (partsE ρ parts.toList) with
          | none=>rw [hfl] at h;exact h.elim
          | some cs=>
            rw [hfl] at h
            simp only [execOp]
            refine upon_val (run_buildSliceL hu hs hz (Nat.le_of_ble_eq_true hb.1) (Nat.eq_of_beq_eq_true hb.2) ?_ w) (fin _ _ h)
            rw [partsE_eq];exact hfl
        · subst hF;exact h.elim
      · subst hF;exact h.elim
    | makeSlice t x y=>
      obtain ⟨s,w',hr,h⟩:=h
      simp only [execOp]
      exact upon_val hr (fin _ _ h)
    | makeMap t r=>
      obtain ⟨s,w',hr,h⟩:=h
      simp only [execOp]
      exact upon_val hr (fin _ _ h)
    | range t x=>
      simp only [wpOp1] at h
      simp only [execOp]
      cases ht:P.underlying t with
      | none=>rw [ht] at h;exact h.elim
      | some d=>
        rw [ht] at h
        cases d<;>try exact h.elim
        obtain ⟨s,w',hr,h⟩:=h
        exact upon_val hr (fin _ _ h)
    | next it s=>
      simp only [wpOp1] at h
      simp only [execOp]
      obtain ⟨hs,h⟩:=of_bif_bad h
      subst hs
      obtain ⟨v',w',hr,⟨rfl,h⟩ | ⟨i,c,rfl,h⟩⟩:=h
      · exact upon_val hr (fin _ _ h)
      · exact upon_val hr (fin _ _ h)
    | mapUpdate t m k x=>
      obtain ⟨w',hr,h⟩:=h
      simp only [execOp]
      exact upon_unit hr (fin _ _ h)
    | lookup t x i ok=>
      simp only [wpOp1] at h
      simp only [execOp]
      cases ht:P.underlying t with
      | none=>rw [ht] at h;exact h.elim
      | some d=>
        rw [ht] at h
        cases d<;>try exact h.elim
        rename_i k e
        simp only at h
        cases hs:shapes P 20 e with
        | nil=>rw [hs] at h;exact h.elim
        | cons s ss=>
          cases ss with
          | cons _ _=>rw [hs] at h;exact h.elim
          | nil=>
            rw [hs] at h
            simp only at h
            obtain ⟨_,h⟩:=of_bif_bad h
            cases ok with
            | true=>
              obtain ⟨v,b,w',hr,h⟩:=h
              exact upon_val hr (fin _ _ h)
            | false=>
              obtain ⟨v,w',hr,h⟩:=h
              exact upon_val hr (fin _ _ h)
    | convert sT dT x=>
      obtain ⟨F,hF,h'⟩:∃ F,wpOp1 P _ ρ K=F∧F w:=⟨_,rfl,h⟩
      clear h
      have h:=h'
      clear h'
      simp only [wpOp1] at hF
      split at hF
      · rename_i e hs' hd2
        subst hF
        obtain ⟨s,w',hr,h⟩:=h
        simp only [execOp]
        exact upon_val hr (fin _ _ h)
      · rename_i e hs' hd2
        subst hF
        obtain ⟨s,w',hr,h⟩:=h
        simp only [execOp]
        exact upon_val hr (fin _ _ h)
      · subst hF
        simp only [isNul] at hnul
        exact absurd hnul (by simp)
    | _=>simp [isNul] at hnul
theorem wpOp1_sound {rn:Option Nat}{ds:List Deferred}{N:Nat}{ρ:Env}{a:Act}{o:Oper}{K:Env→WP}{next:Act→World→Prop}{Q:Exit→Act→World→Prop}
    (hn:NoGor P) (hp:∀ w',Pan.q w'→Q (.panic Pan.ch) a w') (hf:Fits N ds ρ a) (hok:opOk N ρ o=true) (h:wpOp1 P o ρ K w)
    (hk:∀ v w',K (put ρ o.dst v) w'→next (a.put o.dst v) w'):o.wpIn (FF rn) 0 P a w next Q:=by
  simp only [opOk,Bool.and_eq_true,List.all_eq_true] at hok
  obtain ⟨⟨hall,_⟩,hs⟩:=hok
  exact wpOp1_at hn hp (fun cs b e=>by rw [e] at hs;simp at hs) (fun x hx=>hf.eval (hall x (by simpa using hx))) h hk
end ops
end Go.Cf
