import Derived.OrdersIn
import Derived.LoopNIn
import Derived.RangeFuncRecord
import Derived.KernelRfl
import Derived.Laws.World
import Derived.Laws.Slices
import Derived.Laws.Entries
import Derived.Laws.Tables
set_option linter.unusedSectionVars false
namespace Go.Cf
open Go
set_option linter.unusedSimpArgs false
abbrev FF(rn:Option Nat):Fence:={ fn:=fun _=>True,depth:=none,alive:=false,round:=rn }
theorem QWH{rn:Option Nat}{P:Program}{m m':Machine}:StepsIn (Machine.fenced P (FF rn)) P m m'↔Steps P m m':=stepsIn_wide
theorem QJt{rn:Option Nat}{n:Nat}{P:Program}{f:FuncId}{args:Array Value}{w:World}{R:Ending→World→Prop}:CallsIn (FF rn) n P f args w R↔Calls P f args w R:=callsIn_wide (n:=n)
theorem QYq{rn:Option Nat}{n:Nat}{P:Program}{row:String}{args:Array Value}{w:World}{R:Value→World→Prop}(h:Rows P row args w R):RowsIn (FF rn) n P row args w R:=
 fun c cs _=>let ⟨v,w',r,s⟩:=h c cs;⟨v,w',r,QWH.2 s⟩
theorem QHH{rn:Option Nat}{P:Program}{o:Oper}{a:Act}{w:World}{next:Act→World→Prop}{Q:Exit→Act→World→Prop}(hd:∀c,o.op≠.defer c)(h:o.wp P a w next Q):o.wpIn (FF rn) 0 P a w next Q:=by
 refine⟨fun _ _=>trivial,?_⟩;rw[Oper.semAt_eq _ _ _ hd];unfold Oper.wp at h;generalize (execOp a.eval o).run P w=r at h⊢;unfold Oper.upon at h;split at h
 ·exact h
 ·exact h
 ·exact h
 ·exact⟨fun h=>(by cases h),QJt.2 h⟩
 ·exact⟨fun h=>(by cases h),QYq h⟩
 ·exact h
 ·exact h.elim
abbrev WP:=World→Prop
structure Sl where
 p:Option Addr
 n:Nat
 c:Nat
inductive Sh where
 | int (k:IntKind)
 | bool
 | str
 | ptr
 | slice
 | map
 | val
abbrev Sh.ty:Sh→Type
 | .int _=>Int
 | .bool=>Bool
 | .str=>ByteArray
 | .ptr=>Option Addr
 | .slice=>Sl
 | .map=>Option Nat
 | .val=>Value
abbrev Sl.v(s:Sl):Value:=.slice s.p s.n s.c
abbrev Sh.mk:(s:Sh)→s.ty→Value
 | .int k,x=>.int k x
 | .bool,x=>.bool x
 | .str,x=>.string x
 | .ptr,x=>.pointer x
 | .slice,x=>x.v
 | .map,x=>.map x
 | .val,x=>x
def Sh.un:(s:Sh)→Value→Option s.ty
 | .int k,.int k' x=>if k=k' then some x else none
 | .bool,.bool x=>some x
 | .str,.string x=>some x
 | .ptr,.pointer x=>some x
 | .slice,.slice p n c=>some ⟨p,n,c⟩
 | .map,.map x=>some x
 | .val,x=>some x
 | _,_=>none
theorem Sh.mk_un{s:Sh}{v:Value}{x:s.ty}(h:s.un v=some x):s.mk x=v:=by
 cases s<;>cases v<;>simp only[Sh.un,Option.some.injEq,reduceCtorEq]at h<;>first
  | (subst h;rfl)
  | (split at h<;>first|(rename_i hk;subst hk;simp only[Option.some.injEq]at h;subst h;rfl)|cases h)
def QZx:Value→Sh
 | .int k _=>.int k
 | .bool _=>.bool
 | .string _=>.str
 | .pointer _=>.ptr
 | .slice _ _ _=>.slice
 | .map _=>.map
 | _=>.val
abbrev Tup:List Sh→Type
 | []=>Unit
 | s::ss=>s.ty×Tup ss
def Tup.vals:(ss:List Sh)→Tup ss→List Value
 | [],_=>[]
 | s::ss,t=>s.mk t.1::Tup.vals ss t.2
abbrev Cur:List Sh→Type
 | []=>WP
 | s::ss=>s.ty→Cur ss
def Cur.of:(ss:List Sh)→(List Value→WP)→Cur ss
 | [],f=>f []
 | s::ss,f=>fun x=>Cur.of ss fun vs=>f (s.mk x::vs)
def Cur.ofT:(ss:List Sh)→(Tup ss→WP)→Cur ss
 | [],f=>f ()
 | _::ss,f=>fun x=>Cur.ofT ss fun t=>f (x,t)
def Cur.app:(ss:List Sh)→Cur ss→Tup ss→WP
 | [],k,_=>k
 | _::ss,k,t=>Cur.app ss (k t.1) t.2
def Cur.appV:(ss:List Sh)→Cur ss→List Value→WP
 | [],k,[]=>k
 | s::ss,k,v::vs=>match s.un v with
  | some x=>Cur.appV ss (k x) vs
  | none=>fun _=>False
 | _,_,_=>fun _=>False
theorem Cur.app_of(ss:List Sh):∀(f:List Value→WP) (t:Tup ss),Cur.app ss (Cur.of ss f) t=f (Tup.vals ss t):=by
 induction ss with
 | nil=>intro f t;rfl
 | cons s ss ih=>intro f t;exact ih _ _
theorem Cur.app_ofT(ss:List Sh):∀(f:Tup ss→WP) (t:Tup ss),Cur.app ss (Cur.ofT ss f) t=f t:=by
 induction ss with
 | nil=>intro f t;rfl
 | cons s ss ih=>intro f t;exact ih _ _
theorem Cur.appV_app(ss:List Sh):∀(k:Cur ss) (vs:List Value) (w:World),Cur.appV ss k vs w→∃t,Tup.vals ss t=vs∧Cur.app ss k t w:=by
 induction ss with
 | nil=>
  intro k vs w h
  cases vs with
  | nil=>exact⟨(),rfl,h⟩
  | cons=>exact h.elim
 | cons s ss ih=>
  intro k vs w h
  cases vs with
  | nil=>exact h.elim
  | cons v vs=>
   have h:(match s.un v with|some x=>Cur.appV ss (k x) vs|none=>fun _=>False) w:=h
   cases hx:s.un v with
   | none=>rw[hx]at h;exact h.elim
   | some x=>
    rw[hx]at h;obtain⟨t,ht,h⟩:=ih _ _ _ h;exact⟨(x,t),by simp only[Tup.vals,ht,Sh.mk_un hx],h⟩
def fK(k:IntKind)(f:IntKind→WP):WP:=match k with
 | .i8=>f .i8
 | .i16=>f .i16
 | .i32=>f .i32
 | .i64=>f .i64
 | .u8=>f .u8
 | .u16=>f .u16
 | .u32=>f .u32
 | .u64=>f .u64
def fSh(s:Sh)(f:Sh→WP):WP:=match s with
 | .int k=>fK k fun k=>f (.int k)
 | .bool=>f .bool
 | .str=>f .str
 | .ptr=>f .ptr
 | .slice=>f .slice
 | .map=>f .map
 | .val=>f .val
def fSs:List Sh→(List Sh→WP)→WP
 | [],f=>f []
 | s::r,f=>fSh s fun s=>fSs r fun r=>f (s::r)
theorem Qen(k:IntKind)(f:IntKind→WP):fK k f=f k:=by cases k<;>rfl
theorem QBW(s:Sh)(f:Sh→WP):fSh s f=f s:=by
 cases s<;>first|rfl|exact Qen _ fun k=>f (.int k)
theorem QBY:∀(l:List Sh) (f:List Sh→WP),fSs l f=f l
 | [],_=>rfl
 | s::r,f=>by rw[fSs,QBW,QBY r]
def fNs:List Nat→(List Nat→WP)→WP
 | [],f=>f []
 | n::r,f=>fNs r fun r=>f (n::r)
theorem QOA:∀(l:List Nat) (f:List Nat→WP),fNs l f=f l
 | [],_=>rfl
 | n::r,f=>by rw[fNs,QOA r]
def fE:List (Nat×Value)→(List (Nat×Value)→WP)→WP
 | [],f=>f []
 | (t,v)::r,f=>fE r fun r=>f ((t,v)::r)
theorem QZQ:∀(l:List (Nat×Value)) (f:List (Nat×Value)→WP),fE l f=f l
 | [],_=>rfl
 | (t,v)::r,f=>by rw[fE,QZQ r]
def fVs:List Value→(List Value→WP)→WP
 | [],f=>f []
 | v::r,f=>fVs r fun r=>f (v::r)
theorem QcX:∀(l:List Value) (f:List Value→WP),fVs l f=f l
 | [],_=>rfl
 | n::r,f=>by rw[fVs,QcX r]
def fV(v:Value)(f:Value→WP):WP:=match v with
 | .int k n=>fK k fun k=>f (.int k n)
 | .bool b=>f (.bool b)
 | .string s=>f (.string s)
 | .pointer q=>f (.pointer q)
 | .slice p n c=>f (.slice p n c)
 | .agg ⟨l⟩=>fVs l fun l=>f (.agg ⟨l⟩)
 | v=>f v
theorem QDS(v:Value)(f:Value→WP):fV v f=f v:=by
 unfold fV;split
 ·exact Qen _ fun k=>f (.int k _)
 ·rfl
 ·rfl
 ·rfl
 ·rfl
 ·exact QcX _ fun l=>f (.agg ⟨l⟩)
 ·rfl
def XIf(b:Bool)(A B:WP):WP:=fun w=>(b=true→A w)∧(b=false→B w)
def QLu(p:Prop)(K:WP):WP:=fun w=>p∧K w
def QAq(s:Sh)(a:Addr)(K:s.ty→WP):WP:=fun w=>∃x,w.cell? a=some (s.mk x)∧K x w
def QBG(a:Addr)(v:Value)(K:WP):WP:=fun w=>(∃u,w.cell? a=some u)∧w.frozen? a=false∧v.oneCell'=true∧K (w.setCell a v)
def QDE(cs:List Value)(e:TypeId)(K:Nat→WP):WP:=fun w=>K w.heap.size (w.alloc (.cells cs.toArray e))
def QCe(q:Option Addr)(K:Addr→WP):WP:=fun w=>∃a,q=some a∧K a w
def QKB(q:Option Addr)(n:Nat)(i:Int)(sz:Nat)(K:Addr→WP):WP:=fun w=>∃a,q=some a∧0≤i∧i<n∧K (a.add (i.toNat*sz)) w
def Sl.cut(s:Sl)(l h m sz:Nat):Sl:=⟨if m=l then s.p else s.p.map (·.add (l*sz)),h - l,m - l⟩
def QQU(s:Sl)(l h m:Int)(sz:Nat)(K:Sl→WP):WP:=fun w=>0≤l∧l≤h∧h≤m∧m≤s.c∧K (s.cut l.toNat h.toNat m.toNat sz) w
def QRs(cs:List Value)(i:Int)(n:Nat)(s:Sh)(K:s.ty→WP):WP:=fun w=>0≤i∧i<n∧∃x,cs[i.toNat]? = some (s.mk x)∧K x w
def QLc(cs:List Value)(i:Int)(n sz:Nat)(ss:List Sh)(K:Cur ss):WP:=fun w=>0≤i∧i<n∧∃t:Tup ss,Tup.vals ss t=(cs.drop (i.toNat*sz)).take sz∧Cur.app ss K t w
def Qdw(s:ByteArray)(l h:Int)(K:ByteArray→WP):WP:=fun w=>0≤l∧l≤h∧h≤s.size∧K (s.extract l.toNat h.toNat) w
def QSt(s:ByteArray)(i:Int)(K:Int→WP):WP:=fun w=>∃b,0≤i∧s[i.toNat]? = some b∧K b.toNat w
def QVe{P:Program}(s:Sem Value)(sh:Sh)(K:sh.ty→WP):WP:=fun w=>∃x w',s.run P w=.ok (sh.mk x) w'∧K x w'
abbrev QKt(P:Program)(s:Sem Value)(sh:Sh)(K:sh.ty→WP):WP:=QVe (P:=P) s sh K
abbrev QSR(P:Program)(t u ty:TypeId)(s x:Value)(K:Sl→WP):WP:=QKt P (Builtin.append_ #[t,u] ty #[s,x]) .slice K
abbrev QbH(P:Program)(t u ty:TypeId)(s x:Value)(K:Int→WP):WP:=QKt P (Builtin.copy_ #[t,u] ty #[s,x]) (.int .i64) K
abbrev QcQ(P:Program)(t ty:TypeId)(s:Value)(K:Value→WP):WP:=QKt P (Builtin.clear_ #[t] ty #[s]) .val K
abbrev QeB(P:Program)(t:TypeId)(n c:Value)(K:Sl→WP):WP:=QKt P (Instr.makeSlice t n c) .slice K
def QNV{P:Program}(t:TypeId)(x i:Value)(s:Sh)(K:s.ty→Bool→WP):WP:=fun w=>∃v b w',(Instr.lookup t x i true).run P w=.ok (.tuple #[s.mk v,.bool b]) w'∧K v b w'
abbrev Qez(P:Program)(t:TypeId)(x i:Value)(s:Sh)(K:s.ty→Bool→WP):WP:=QNV (P:=P) t x i s K
def QW8{P:Program}(t:TypeId)(m k x:Value)(K:WP):WP:=fun w=>∃w',(Instr.mapUpdate t m k x).run P w=.ok () w'∧K w'
abbrev Qgn(P:Program)(t:TypeId)(m k x:Value)(K:WP):WP:=QW8 (P:=P) t m k x K
def QJX{P:Program}(v:Value)(ty:TypeId)(K0:WP)(K1:Int→Int→WP):WP:=fun w=>∃v' w',(Instr.next v true ty).run P w=.ok v' w'∧((v'=.tuple #[.bool false]∧K0 w')∨∃i c,v'=.tuple #[.bool true,.int .i64 i,.int .i32 c]∧K1 i c w')
abbrev QZP(P:Program)(v:Value)(ty:TypeId)(K0:WP)(K1:Int→Int→WP):WP:=QJX (P:=P) v ty K0 K1
def QFX(K:WP):WP:=fun w=>K w.drew
def QBc(ss:List Sh)(body:Cur ss→WP)(rest:Cur ss):WP:=body rest
def QHB(ss:List Sh)(body:Cur ss→Cur ss):Nat→Cur ss
 | 0=>Cur.ofT ss fun _ _=>False
 | n+1=>body (QHB ss body n)
def QGp(ss:List Sh)(body:Cur ss→Cur ss):Cur ss:=Cur.ofT ss fun t w=>∃n,Cur.app ss (QHB ss body n) t w
inductive Rs where
 | one
 | agg
 | tup (l:List (Option Nat))
def QW4:List (Option Nat)→List Value→List Value
 | [],_=>[]
 | none::l,v::vs=>v::QW4 l vs
 | some n::l,vs=>.agg (vs.take n).toArray::QW4 l (vs.drop n)
 | none::_,[]=>[]
def Rs.mk:Rs→List Value→Value
 | .one,vs=>vs.headD undef
 | .agg,vs=>.agg vs.toArray
 | .tup l,vs=>.tuple (QW4 l vs).toArray
def QK5{P:Program}(f:FuncId)(args:List Value)(rs:Rs)(ss:List Sh)(K:Cur ss):WP:=fun w=>
 Calls P f args.toArray w fun e w'=>∃t,e=.returned (rs.mk (Tup.vals ss t))∧Cur.app ss K t w'
abbrev QAb(P:Program)(f:FuncId)(args:List Value)(rs:Rs)(ss:List Sh)(K:Cur ss):WP:=QK5 (P:=P) f args rs ss K
class Pan where
 may:Nat→Bool
 q:WP
 ch:List PanicEntry
instance (priority:=low) Pan.none:Pan:=⟨fun _=>false,fun _=>False,[]⟩
def QIB[Pan]{P:Program}(f:FuncId)(args:List Value)(rs:Rs)(ss:List Sh)(K:Cur ss):WP:=fun w=>
 Calls P f args.toArray w fun e w'=>(∃t,e=.returned (rs.mk (Tup.vals ss t))∧Cur.app ss K t w')∨(e=.panicked Pan.ch∧Pan.q w')
abbrev QGI[Pan](P:Program)(f:FuncId)(args:List Value)(rs:Rs)(ss:List Sh)(K:Cur ss):WP:=QIB (P:=P) f args rs ss K
def QXE{P:Program}(g:FuncId)(args:List Value)(s:Sh)(K:s.ty→WP):WP:=fun w=>∃x w',(callFunc g args.toArray).run P w=.ok (.value (s.mk x)) w'∧K x w'
abbrev Qfd(P:Program)(g:FuncId)(args:List Value)(s:Sh)(K:s.ty→WP):WP:=QXE (P:=P) g args s K
abbrev Env:=List (Nat×Value)
def gv:Env→Nat→Value
 | [],_=>undef
 | (u,v)::r,t=>bif Nat.beq u t then v else gv r t
def has:Env→Nat→Bool
 | [],_=>false
 | (u,_)::r,t=>bif Nat.beq u t then true else has r t
def ev(ρ:Env):Operand→Value
 | .tmp t=>gv ρ t
 | .const v=>v
 | .global g=>.pointer (some ⟨g,0,none⟩)
 | .func f=>.func (.func f) #[] #[]
def QNJ(ρ:Env):Operand→Bool
 | .tmp t=>has ρ t
 | _=>true
def put(ρ:Env)(d:Option Nat)(v:Value):Env:=
 match d with
 | some d=>(d,v)::ρ
 | none=>ρ
def QA1(P:Program){α:Type}:Sem α→Option α
 | .pure a=>some a
 | .program k=>QA1 P (k P)
 | .mark _ k=>QA1 P k
 | _=>none
theorem QIG{P:Program}{α:Type}(s:Sem α):∀a,QA1 P s=some a→∀w,s.run P w=.ok a w:=by
 induction s with
 | pure a=>intro b h w;simp only[QA1,Option.some.injEq]at h;subst h;rfl
 | program k ih=>intro b h w;exact ih _ b h w
 | mark m k ih=>intro b h w;exact ih b h w
 | _=>intro b h w;simp[QA1]at h
def QaI(P:Program){α:Type}:List (Sem α)→Option (List α)
 | []=>some []
 | s::r=>match QA1 P s,QaI P r with
  | some a,some l=>some (a::l)
  | _,_=>none
def QBX(P:Program):Nat→TypeId→List Sh
 | 0,_=>[]
 | d+1,t=>match P.underlying t with
  | some (.int k)=>[.int k]
  | some .bool=>[.bool]
  | some .string=>[.str]
  | some (.pointer _)=>[.ptr]
  | some (.slice _)=>[.slice]
  | some (.map _ _)=>[.map]
  | some (.struct fs)=>fs.toList.flatMap fun f=>QBX P d f.type
  | some (.array n e)=>(List.replicate n (QBX P d e)).flatten
  | some _=>[.val]
  | none=>[]
def QHj(P:Program)(t:TypeId):Option Nat:=
 match P.info? t with
 | some i=>some i.size
 | none=>none
def QBj(P:Program)(t:TypeId):Bool:=
 match P.underlying t with
 | some (.struct _)=>true
 | some (.array _ _)=>true
 | _=>false
def QFm:List Sh→Addr→Nat→List Value→(List Value→WP)→WP
 | [],_,_,acc,K=>K acc.reverse
 | s::ss,a,i,acc,K=>fSh s fun s=>QAq s (a.add i) fun x=>QFm ss a (i+1) (s.mk x::acc) K
def QP4:List Value→Addr→Nat→WP→WP
 | [],_,_,K=>K
 | v::vs,a,i,K=>QBG (a.add i) v (QP4 vs a (i+1) K)
def Qf3:Value→Option Int
 | .int _ n=>some n
 | _=>none
def bad:WP:=fun _=>False
def bnd(ρ:Env)(x:Option Operand)(d:Int):Option Int:=
 match x with
 | none=>some d
 | some o=>Qf3 (ev ρ o)
def QGW(b:Bool):Bool:=!b
def QZk(a b:Bool):Bool:=a&&b
def vOr(a b:Bool):Bool:=a||b
def Qah(x a b:Bool):Bool:=bif x then a else b
def vEq(x y:Int):Bool:=x == y
def vNe(x y:Int):Bool:=x != y
def vLt(x y:Int):Bool:=decide (x<y)
def vLe(x y:Int):Bool:=decide (x≤y)
def vGt(x y:Int):Bool:=decide (x>y)
def vGe(x y:Int):Bool:=decide (x≥y)
def Qcr(k:IntKind)(x y:Int):Int:=k.wrap (x+y)
def QcV(k:IntKind)(x y:Int):Int:=k.wrap (x - y)
def Qdg(k:IntKind)(x y:Int):Int:=k.wrap (x*y)
def QC5(k:IntKind)(x y:Int):Int:=k.wrap (x.tdiv y)
def QC3(x y:Int):Int:=x.tmod y
def QJS(k:IntKind)(x y:Int):Int:=k.wrap (x*2 ^ (min y.toNat k.bits))
def QJR(k:IntKind)(x y:Int):Int:=x.fdiv (2 ^ (min y.toNat k.bits))
def QRD(op:BinOp)(k:IntKind)(x y:Int):Int:=
 let a:=BitVec.ofInt k.bits x
 let b:=BitVec.ofInt k.bits y
 k.wrap ((match op with|.and=>a &&& b|.or=>a ||| b|.xor=>a ^^^ b|_=>a &&& ~~~b:BitVec k.bits).toNat:Nat)
def QTa(k:IntKind)(x:Int):Int:=k.wrap x
def QGM(n:Nat):Int:=n
def QIR(a b:Int):Int:=if b<a then b else a
def QIP(a b:Int):Int:=if b>a then b else a
def QZ6(a b:Bool):Bool:=a == b
def QcT(a b:ByteArray):Bool:=a == b
def QJQ(a b:ByteArray):ByteArray:=a++b
def tEq(a b:ByteArray):Bool:=a.toList == b.toList
def tLt(a b:ByteArray):Bool:=Op.bytesLess a.toList b.toList
def vOp(op:BinOp)(k:IntKind)(a b:Int):Value:=match op with
 | .add=>.int k (Qcr k a b)
 | .sub=>.int k (QcV k a b)
 | .mul=>.int k (Qdg k a b)
 | .eql=>.bool (vEq a b)
 | .neq=>.bool (vNe a b)
 | .lss=>.bool (vLt a b)
 | .leq=>.bool (vLe a b)
 | .gtr=>.bool (vGt a b)
 | .geq=>.bool (vGe a b)
 | op=>.int k (QRD op k a b)
def Qdi:BinOp→Bool
 | .shl|.shr|.quo|.rem=>false
 | _=>true
def gvO:Env→Nat→Option Value
 | [],_=>some undef
 | (u,v)::r,t=>bif Nat.beq u t then some v else gvO r t
theorem Qcc:∀(ρ:Env) (t:Nat),gvO ρ t=some (gv ρ t)
 | [],_=>rfl
 | (u,v)::r,t=>by
  rw[gvO,gv];cases Nat.beq u t
  ·exact Qcc r t
  ·rfl
def evO(ρ:Env):Operand→Option Value
 | .tmp t=>gvO ρ t
 | o=>some (ev ρ o)
theorem Qef(ρ:Env)(o:Operand):evO ρ o=some (ev ρ o):=by
 cases o<;>first|rfl|exact Qcc ..
def kpO{α:Type}(ρ:Env)(d:Option Nat)(v:Value)(f:Env→Option α):Option α:=match d with
 | some d=>f ((d,v)::ρ)
 | none=>f ρ
theorem Qd4{α:Type}(ρ:Env)(d:Option Nat)(v:Value)(f:Env→Option α):kpO ρ d v f=f (put ρ d v):=by cases d<;>rfl
def kp(K:Env→WP)(ρ:Env)(d:Option Nat)(v:Value):WP:=match d with
 | some d=>K ((d,v)::ρ)
 | none=>K ρ
theorem QCD(K:Env→WP)(ρ:Env)(d:Option Nat)(v:Value):kp K ρ d v=K (put ρ d v):=by cases d<;>rfl
def pv(P:Program)(ρ:Env)(o:Oper):Option Value:=match o.op with
 | .move x=>evO ρ x
 | .makeFunc f a b=>some (.func f (a.toList.map (ev ρ)).toArray (b.toList.map (ev ρ)).toArray)
 | .call ⟨.builtin .len,as,ts⟩=>(match ts.toList,as.toList with
  | [t],[x]=>(match P.underlying t,ev ρ x with
   | some (.slice _),.slice _ n _=>some (.int .i64 (QGM n))
   | some .string,.string s=>some (.int .i64 (QGM s.size))
   | _,_=>none)
  | _,_=>none)
 | .binOp op xt x y _=>match ev ρ x,ev ρ y with
  | .int k a,.int k' b=>bif Qdi op&&decide (k=k') then some (vOp op k a b) else none
  | .string a,.string b=>(match op with
   | .eql=>some (.bool (tEq a b))
   | .neq=>some (.bool (QGW (tEq a b)))
   | .lss=>some (.bool (tLt a b))
   | .leq=>some (.bool (vOr (tLt a b) (tEq a b)))
   | .gtr=>some (.bool (QGW (vOr (tLt a b) (tEq a b))))
   | .geq=>some (.bool (QGW (tLt a b)))
   | _=>none)
  | .bool a,.bool b=>(match op,P.underlying xt with
   | .eql,some .bool=>some (.bool (QZ6 a b))
   | .neq,some .bool=>some (.bool (QGW (QZ6 a b)))
   | _,_=>none)
  | _,_=>none
 | .unOp .not _ x=>match ev ρ x with
  | .bool b=>some (.bool (QGW b))
  | _=>none
 | .unOp .neg _ x=>match ev ρ x with
  | .int k a=>some (.int k (QcV k 0 a))
  | _=>none
 | .unOp .xor _ x=>match ev ρ x with
  | .int k a=>some (.int k (QRD .xor k (if k.signed then -1 else k.max) a))
  | _=>none
 | .convert s d x=>match P.underlying s,P.underlying d,ev ρ x with
  | some _,some (.int k),.int _ n=>some (.int k (QTa k n))
  | _,_,_=>none
 | _=>none
def QVz(P:Program)(ρ:Env)(o:Oper):Option Next:=match pv P ρ o with
 | some v=>some (.value v)
 | none=>QA1 P (execOp (ev ρ) o)
def QYk(x:Bool):Value→Value→Value
 | .bool a,.bool b=>.bool (bif x then a else b)
 | a,b=>bif x then a else b
def QXK(x:Bool)(a b:Operand)(va vb:Value):Value:=match a,b,va,vb with
 | .const (.bool true),_,.bool _,.bool v=>.bool (vOr x v)
 | _,.const (.bool false),.bool u,.bool _=>.bool (QZk x u)
 | _,_,.bool u,.bool v=>.bool (Qah x u v)
 | _,_,va,vb=>bif x then va else vb
def callee(ρ:Env):Callee→Option (FuncId×List Value×List Value)
 | .value f=>match ev ρ f with
  | .func (.func g) first cap=>some (g,first.toList,cap.toList)
  | _=>none
 | _=>none
def QGm(ρ:Env):Callee→Option (Nat×List Value)
 | .value f=>match ev ρ f with
  | .func (.yield l) first _=>some (l,first.toList)
  | _=>none
 | _=>none
def QJl{P:Program}(l:Nat)(args:List Value)(K:Bool→WP):WP:=fun w=>
 ∃fn tmps assign body,(Instr.yield l args.toArray).run P w=.ok (.round l fn tmps assign body) w∧RoundIn (FF none) 0 P l fn tmps assign body w fun e w'=>∃b,e=.returned (.bool b)∧K b w'
abbrev QcU(P:Program)(l:Nat)(args:List Value)(K:Bool→WP):WP:=QJl (P:=P) l args K
def gvK:Env→Nat→(Value→WP)→WP
 | [],_,f=>f undef
 | (u,v)::r,t,f=>bif Nat.beq u t then f v else gvK r t f
theorem Qb5:∀(ρ:Env) (t:Nat) (f:Value→WP),gvK ρ t f=f (gv ρ t)
 | [],_,_=>rfl
 | (u,v)::r,t,f=>by
  rw[gvK,gv];cases Nat.beq u t
  ·exact Qb5 r t f
  ·rfl
def evK(ρ:Env)(o:Operand)(f:Value→WP):WP:=match o with
 | .tmp t=>gvK ρ t f
 | o=>f (ev ρ o)
theorem QBw(ρ:Env)(o:Operand)(f:Value→WP):evK ρ o f=f (ev ρ o):=by
 cases o<;>first|rfl|exact Qb5 ..
def QUd:Operand→Bool
 | .const (.pointer none)=>true
 | .const (.slice none _ _)=>true
 | .const (.map none)=>true
 | _=>false
def QFe:Value→Operand→Bool
 | .pointer _,.const (.pointer none)=>true
 | .slice _ _ _,.const (.slice none _ _)=>true
 | .map _,.const (.map none)=>true
 | _,_=>false
def QDF{α:Type}:Option α→Bool
 | none=>true
 | some _=>false
def QcG:Bool→Value→Option Bool
 | false,.nilIface=>some true
 | false,.iface _ _=>some false
 | true,.nilFunc=>some true
 | true,.func _ _ _=>some false
 | _,_=>none
def QLd(f:Bool)(v:Value)(K:Bool→WP):WP:=fun w=>∃b,QcG f v=some b∧K b w
def Qdo(P:Program)(t:TypeId):Operand→Option Bool
 | .const .nilIface=>match P.underlying t with
  | some (.interface _)=>some false
  | _=>none
 | .const .nilFunc=>match P.underlying t with
  | some (.func _ _ _)=>some true
  | _=>none
 | _=>none
def QSo(P:Program)(t:TypeId):Value→Option Bool
 | .pointer q=>match P.underlying t with
  | some (.pointer _)=>some (QDF q)
  | _=>none
 | .slice q _ _=>match P.underlying t with
  | some (.slice _)=>some (QDF q)
  | _=>none
 | .map q=>match P.underlying t with
  | some (.map _ _)=>some (QDF q)
  | _=>none
 | _=>none
def QfZ(P:Program)(t:TypeId):Rs×List Sh:=
 match P.underlying t with
 | some (.tuple ts)=>(.tup (ts.toList.map fun u=>bif QBj P u then some (QBX P 20 u).length else none),ts.toList.flatMap fun u=>QBX P 20 u)
 | _=>bif QBj P t then (.agg,QBX P 20 t) else (.one,QBX P 20 t)
def QB8(P:Program)(g:FuncId):Bool:=
 match P.funcs[g]? with
 | some fn=>fn.body.isSome
 | none=>false
def QER:List Value→Nat→List Value→List Value
 | [],_,cs=>cs
 | v::vs,i,cs=>QER vs (i+1) (cs.set i v)
def QNO(place:Nat→Option (Nat×Nat)):List Value→List (Nat×Value)→Option (List Value)
 | cs,[]=>some cs
 | cs,(i,v)::r=>match place i with
  | some (off,size)=>bif Nat.beq v.cells.toList.length size&&Nat.ble (off+v.cells.toList.length) cs.length then QNO place (QER v.cells.toList off cs) r else none
  | none=>none
def QIM(P:Program):List Field→Option (List (Nat×Nat))
 | []=>some []
 | f::fs=>match QHj P f.type,QIM P fs with
  | some n,some l=>some ((f.offset,n)::l)
  | _,_=>none
def QEw(P:Program)(t:TypeId):Option (List Value):=
 match P.info? t with
 | some i=>(match i.zero with|some z=>some z.cells.toList|none=>none)
 | none=>none
def QVA(P:Program)(t:TypeId)(parts:List (Nat×Value)):Option (List Value):=
 match P.underlying t,QEw P t with
 | some (.struct fs),some z=>(match QIM P fs.toList with
  | some ps=>QNO (fun i=>ps[i]?) z parts
  | none=>none)
 | some (.array _ e),some z=>(match QHj P e with
  | some n=>QNO (fun i=>some (i*n,n)) z parts
  | none=>none)
 | _,_=>none
def QIQ(z:List Value):Nat→List Value
 | 0=>[]
 | n+1=>z++QIQ z n
def QML(ρ:Env)(ps:List (Nat×Operand)):List (Nat×Value):=ps.map fun p=>(p.1,ev ρ p.2)
def QNh(P:Program)(t:TypeId)(x y:Value):Option Bool:=
 match P.underlying t,x,y with
 | some (.int _),.int k a,.int k' b=>bif decide (k=k') then some (vEq a b) else none
 | some .bool,.bool a,.bool b=>some (QZ6 a b)
 | some .string,.string a,.string b=>some (QcT a b)
 | _,_,_=>none
def QLM(P:Program)(t:TypeId)(xs:List Value)(off:Nat):Option Value:=
 bif QBj P t then (match QHj P t with
  | some n=>some (.agg ((xs.drop off).take n).toArray)
  | none=>none)
 else xs[off]?
def QD8(P:Program)(eqv:TypeId→Value→Value→Option Bool):List Field→List Value→List Value→Option Bool
 | [],_,_=>some true
 | f::fs,xs,ys=>bif !(f.name == "_") then (match QLM P f.type xs f.offset,QLM P f.type ys f.offset with
  | some x,some y=>(match eqv f.type x y,QD8 P eqv fs xs ys with
   | some b,some r=>some (QZk b r)
   | _,_=>none)
  | _,_=>none) else none
def QM7(P:Program):Nat→TypeId→Value→Value→Option Bool
 | 0,t,x,y=>QNh P t x y
 | d+1,t,x,y=>match P.underlying t,x,y with
  | some (.struct fs),.agg xs,.agg ys=>bif !(P.stoodInHeld t) then QD8 P (QM7 P d) fs.toList xs.toList ys.toList else none
  | _,_,_=>QNh P t x y
def QQK(P:Program)(t:TypeId)(x y:Value):Option Bool:=
 match P.underlying t,x,y with
 | some (.struct fs),.agg xs,.agg ys=>bif !(P.eqGuardType P.depth t) && !(P.stoodInHeld t) then QD8 P (QM7 P 1) fs.toList xs.toList ys.toList else none
 | _,_,_=>none
def QBJ[Pan](P:Program)(o:Oper)(ρ:Env)(K:Env→WP):WP:=
 let pure':WP:=match QVz P ρ o with
  | some (.value v)=>kp K ρ o.dst (v)
  | _=>bad
 match o.op with
 | .move x=>evK ρ x fun v=>kp K ρ o.dst (v)
 | .assign x=>evK ρ x fun v=>kp K ρ o.dst (v)
 | .fieldAddr .. => (match QVz P ρ o with
  | some (.value v)=>fV v fun v=>kp K ρ o.dst (v)
  | _=>bad)
 | .load t a=>match ev ρ a with
  | .pointer (some ad) => bif QBj P t then
        (match QHj P t with
          | some n=>bif Nat.beq n (QBX P 20 t).length then QFm (QBX P 20 t) ad 0 [] fun vs=>kp K ρ o.dst ((.agg vs.toArray)) else bad
          | none=>bad)
    else match QBX P 20 t with
     | [s]=>fSh s fun s=>QAq s ad fun x=>kp K ρ o.dst ((s.mk x))
     | _=>bad
  | _=>bad
 | .store t a x=>match ev ρ a with
  | .pointer (some ad)=>match QHj P t with
   | some n=>bif Nat.beq n (ev ρ x).cells.toList.length then QP4 (ev ρ x).cells.toList ad 0 (kp K ρ o.dst (undef)) else bad
   | none=>bad
  | _=>bad
 | .alloc e=>match (P.info? e).bind (·.zero) with
  | some z=>QDE z.cells.toList e fun b=>kp K ρ o.dst ((.pointer (some ⟨b,0,none⟩)))
  | none=>bad
 | .box e x=>QDE (ev ρ x).cells.toList e fun b=>kp K ρ o.dst ((.pointer (some ⟨b,0,none⟩)))
 | .nilCheck x=>match ev ρ x with
  | .pointer q=>QCe q fun a=>kp K ρ o.dst ((.pointer (some a)))
  | _=>pure'
 | .indexAddr t x i=>match P.underlying t,ev ρ x,ev ρ i with
  | some (.slice e),.slice q n _,.int _ i=>match QHj P e with
   | some sz=>QKB q n i sz fun a=>kp K ρ o.dst ((.pointer (some a)))
   | none=>bad
  | some (.array n e),.pointer (some a),.int _ i=>match QHj P e with
   | some sz=>QKB (some a) n i sz fun a=>kp K ρ o.dst ((.pointer (some a)))
   | none=>bad
  | _,_,_=>bad
 | .index t x i=>match P.underlying t,ev ρ x,ev ρ i with
  | some .string,.string s,.int _ i=>QSt s i fun b=>kp K ρ o.dst ((.int .u8 b))
  | some (.array n e),.agg cs,.int _ i=>(match QHj P e,QBX P 20 e with
   | some 1,[s]=>bif !(QBj P e) then (fSh s fun s=>QRs cs.toList i n s fun x=>kp K ρ o.dst ((s.mk x))) else bad
   | some sz,ss=>bif QBj P e&&Nat.beq sz ss.length then (fSs ss fun ss=>QLc cs.toList i n sz ss (Cur.of ss fun vs=>kp K ρ o.dst ((.agg vs.toArray)))) else bad
   | _,_=>bad)
  | _,_,_=>bad
 | .slice t x lo hi mx=>match P.underlying t,ev ρ x with
  | some (.slice e),.slice q n c=>match bnd ρ lo 0,bnd ρ hi (QGM n),bnd ρ mx (QGM c),QHj P e with
   | some l,some h,some m,some sz=>bif (mx.isNone||hi.isSome) then QQU ⟨q,n,c⟩ l h m sz fun s=>kp K ρ o.dst (s.v) else bad
   | _,_,_,_=>bad
  | some .string,.string s=>match bnd ρ lo 0,bnd ρ hi (QGM s.size),mx with
   | some l,some h,none=>Qdw s l h fun s=>kp K ρ o.dst ((.string s))
   | _,_,_=>bad
  | some (.array n e),.pointer (some a)=>match lo,hi,mx,QHj P e with
   | none,none,none,some _=>kp K ρ o.dst ((.slice (some a) n n))
   | _,_,_,_=>bad
  | _,_=>bad
 | .binOp op xt x y _=>match op,ev ρ x,ev ρ y with
  | .quo,.int k a,.int k' b=>bif decide (k=k') then QLu (b≠0) (kp K ρ o.dst ((.int k (QC5 k a b)))) else bad
  | .rem,.int k a,.int k' b=>bif decide (k=k') then QLu (b≠0) (kp K ρ o.dst ((.int k (QC3 a b)))) else bad
  | .shl,.int k a,.int _ b=>QLu (0≤b) (kp K ρ o.dst ((.int k (QJS k a b))))
  | .shr,.int k a,.int _ b=>QLu (0≤b) (kp K ρ o.dst ((.int k (QJR k a b))))
  | .add,.string a,.string b=>QLu (a.size+b.size≤9223372036854775807) (kp K ρ o.dst ((.string (QJQ a b))))
  | .eql,_,_=>bif QUd y then (match QSo P xt (ev ρ x) with|some b=>bif QFe (ev ρ x) y then kp K ρ o.dst ((.bool b)) else bad|none=>pure') else (match Qdo P xt y with|some f=>QLd f (ev ρ x) (fun b=>kp K ρ o.dst ((.bool b)))|none=>(match QQK P xt (ev ρ x) (ev ρ y) with|some b=>kp K ρ o.dst ((.bool b))|none=>pure'))
  | .neq,_,_=>bif QUd y then (match QSo P xt (ev ρ x) with|some b=>bif QFe (ev ρ x) y then kp K ρ o.dst ((.bool (QGW b))) else bad|none=>pure') else (match Qdo P xt y with|some f=>QLd f (ev ρ x) (fun b=>kp K ρ o.dst ((.bool (QGW b))))|none=>(match QQK P xt (ev ρ x) (ev ρ y) with|some b=>kp K ρ o.dst ((.bool (QGW b)))|none=>pure'))
  | _,_,_=>pure'
 | .pick c a b=>match ev ρ c with
  | .bool x=>kp K ρ o.dst ((QXK x a b (ev ρ a) (ev ρ b)))
  | _=>bad
 | .call c=>match c.callee with
  | .value _=>match callee ρ c.callee with
   | some (g,first,cap)=>
    let r:=QfZ P o.type
    bif QB8 P g then
     (bif Pan.may g then (fSs r.2 fun ss=>QGI P g (first++(c.args.toList.map (ev ρ))++cap) r.1 ss (Cur.of ss fun vs=>kp K ρ o.dst ((r.1.mk vs))))
     else (fSs r.2 fun ss=>QAb P g (first++(c.args.toList.map (ev ρ))++cap) r.1 ss (Cur.of ss fun vs=>kp K ρ o.dst ((r.1.mk vs)))))
    else (match r with
     | (.one,[s])=>fSh s fun s=>Qfd P g (first++(c.args.toList.map (ev ρ))++cap) s fun x=>kp K ρ o.dst ((s.mk x))
     | _=>bad)
   | none=>match QGm ρ c.callee with
    | some (l,first)=>(match QfZ P o.type with
     | (.one,[.bool])=>QcU P l (first++c.args.toList.map (ev ρ)) fun b=>kp K ρ o.dst ((.bool b))
     | _=>bad)
    | none=>bad
  | .builtin .append=>QKt P (Builtin.append_ c.argTypes o.type (c.args.toList.map (ev ρ)).toArray) .slice fun s=>kp K ρ o.dst (s.v)
  | .builtin .copy=>QKt P (Builtin.copy_ c.argTypes o.type (c.args.toList.map (ev ρ)).toArray) (.int .i64) fun s=>kp K ρ o.dst ((.int .i64 s))
  | .builtin .clear=>QKt P (Builtin.clear_ c.argTypes o.type (c.args.toList.map (ev ρ)).toArray) .val fun s=>kp K ρ o.dst (s)
  | .builtin .len=>match c.argTypes.toList,c.args.toList with
   | [t],[x]=>(match P.underlying t,ev ρ x with
    | some (.slice _),.slice _ n _=>kp K ρ o.dst ((.int .i64 (QGM n)))
    | some .string,.string s=>kp K ρ o.dst ((.int .i64 (QGM s.size)))
    | some (.array n _),_=>kp K ρ o.dst ((.int .i64 (QGM n)))
    | _,_=>pure')
   | _,_=>pure'
  | .builtin .cap=>match c.argTypes.toList,c.args.toList with
   | [t],[x]=>(match P.underlying t,ev ρ x with
    | some (.slice _),.slice _ _ n=>kp K ρ o.dst ((.int .i64 (QGM n)))
    | _,_=>pure')
   | _,_=>pure'
  | .builtin .min=>match c.args.toList with
   | [x,y]=>(match ev ρ x,ev ρ y with
    | .int k a,.int _ b=>kp K ρ o.dst ((.int k (QIR a b)))
    | _,_=>pure')
   | [x,y,z]=>(match ev ρ x,ev ρ y,ev ρ z with
    | .int k a,.int k1 b,.int k2 c=>bif decide (k=k1)&&decide (k=k2) then kp K ρ o.dst ((.int k (QIR (QIR a b) c))) else bad
    | _,_,_=>pure')
   | _=>pure'
  | .builtin .max=>match c.args.toList with
   | [x,y]=>(match ev ρ x,ev ρ y with
    | .int k a,.int _ b=>kp K ρ o.dst ((.int k (QIP a b)))
    | _,_=>pure')
   | [x,y,z]=>(match ev ρ x,ev ρ y,ev ρ z with
    | .int k a,.int k1 b,.int k2 c=>bif decide (k=k1)&&decide (k=k2) then kp K ρ o.dst ((.int k (QIP (QIP a b) c))) else bad
    | _,_,_=>pure')
   | _=>pure'
  | .builtin _=>pure'
  | _=>bad
 | .build t parts=>match QVA P t (QML ρ parts.toList) with
  | some cs=>kp K ρ o.dst ((.agg cs.toArray))
  | none=>bad
 | .field t x f=>match P.underlying t,ev ρ x with
  | some (.struct fs),.agg cs=>(match fs.toList[f]? with
   | some fd=>bif QBj P fd.type then (match QHj P fd.type with
     | some n=>kp K ρ o.dst ((.agg ((cs.toList.drop fd.offset).take n).toArray))
     | none=>bad)
    else (match P.underlying fd.type,cs.toList[fd.offset]? with
     | some _,some v=>kp K ρ o.dst (v)
     | _,_=>bad)
   | none=>bad)
  | _,_=>bad
 | .buildSlice t len parts=>match P.underlying t with
  | some (.slice e)=>(match QHj P e,QEw P e with
   | some n,some z=>bif Nat.ble (len*n) 16777216&&Nat.beq z.length n then (match QNO (fun i=>some (i*n,n)) (QIQ z len) (QML ρ parts.toList) with
     | some cs=>QDE cs e fun b=>kp K ρ o.dst ((.slice (some ⟨b,0,none⟩) len len))
     | none=>bad) else bad
   | _,_=>bad)
  | _=>bad
 | .makeSlice t len cap=>QKt P (Instr.makeSlice t (ev ρ len) (ev ρ cap)) .slice fun s=>kp K ρ o.dst (s.v)
 | .convert s d x=>match P.underlying s,P.underlying d with
  | some (.slice _),some .string=>QKt P (convert s d (ev ρ x)) .str fun s=>kp K ρ o.dst ((.string s))
  | some .string,some (.slice _)=>QKt P (convert s d (ev ρ x)) .slice fun s=>kp K ρ o.dst (s.v)
  | _,_=>pure'
 | .makeMap t r=>QKt P (Instr.makeMap t (r.map (ev ρ))) .map fun m=>kp K ρ o.dst ((.map m))
 | .lookup t x i ok=>match P.underlying t with
  | some (.map _ e)=>(match QBX P 20 e with
   | [s]=>bif !(QBj P e) then (fSh s fun s=>bif ok then Qez P t (ev ρ x) (ev ρ i) s fun v b=>kp K ρ o.dst ((.tuple #[s.mk v,.bool b])) else QKt P (Instr.lookup t (ev ρ x) (ev ρ i) false) s fun v=>kp K ρ o.dst ((s.mk v))) else bad
   | _=>bad)
  | _=>bad
 | .range t x=>match P.underlying t with
  | some .string=>QKt P (Instr.range t (ev ρ x)) .ptr fun q=>kp K ρ o.dst ((.pointer q))
  | _=>bad
 | .next it s=>bif s then QZP P (ev ρ it) o.type (kp K ρ o.dst ((.tuple #[.bool false]))) (fun i c=>kp K ρ o.dst ((.tuple #[.bool true,.int .i64 i,.int .i32 c]))) else bad
 | .mapUpdate t m k x=>Qgn P t (ev ρ m) (ev ρ k) (ev ρ x) (kp K ρ o.dst (undef))
 | _=>pure'
structure Fits(N:Nat)(ds:List Deferred)(ρ:Env)(a:Act):Prop where
 size:N≤a.tmps.size
 defs:a.defers=ds
 get:∀t,has ρ t=true→a.tmps[t]? = some (gv ρ t)
theorem QCv{u t:Nat}{v:Value}{ρ:Env}:has ((u,v)::ρ) t=(bif Nat.beq u t then true else has ρ t):=rfl
theorem QCy{u t:Nat}{v:Value}{ρ:Env}:gv ((u,v)::ρ) t=(bif Nat.beq u t then v else gv ρ t):=rfl
theorem Fits.put{ds:List Deferred}{N:Nat}{ρ:Env}{a:Act}{d:Option Nat}{v:Value}(h:Fits N ds ρ a)(hd:∀t,d=some t→t<N):Fits N ds (put ρ d v) (a.put d v):=by
 cases d with
 | none=>exact h
 | some d=>
  have hs:=h.size;have hd:=hd d rfl;refine⟨by simpa [Act.put]using hs,h.defs,fun t ht=>?_⟩;by_cases e:d=t
  ·subst e;simp only[Cf.put,Act.put,QCy,Nat.beq_refl,cond_true];rw[Array.getElem?_setIfInBounds_self_of_lt (by omega)]
  ·have e':Nat.beq d t=false:=by
    cases hb:Nat.beq d t
    ·rfl
    ·exact absurd (Nat.eq_of_beq_eq_true hb) e
   simp only[Cf.put,QCv,e',cond_false]at ht;simp only[Cf.put,Act.put,QCy,e',cond_false];rw[Array.getElem?_setIfInBounds_ne e];exact h.get t ht
theorem Fits.eval{ds:List Deferred}{N:Nat}{ρ:Env}{a:Act}(h:Fits N ds ρ a){x:Operand}(hx:QNJ ρ x=true):a.eval x=ev ρ x:=by
 cases x with
 | tmp t=>
  have:=h.get t hx;simp[Act.eval,ev,Array.getD_eq_getD_getElem?,this]
 | _=>rfl
def QSO(N:Nat)(ρ:Env)(o:Oper):Bool:=
 o.op.operands.toList.all (QNJ ρ)&&(match o.dst with|some d=>Nat.blt d N|none=>true)&&(match o.op with|.select .. => false|_=>true)
def QI5(P:Program):Prop:=∀(g:Nat) (fn:Func),P.funcs[g]? = some fn→(fn.name == "runtime.NumGoroutine")=false
section ops
variable [Pan] {P:Program}{w:World}
theorem QVU{t:TypeId}{i:TypeInfo}(h:P.info? t=some i)(w:World):(typeInfo t).run P w=.ok i w:=by
 simp[typeInfo,h]
theorem QIm{t:TypeId}{n:Nat}(h:QHj P t=some n):∃i,P.info? t=some i∧i.size=n:=by
 unfold QHj at h
 cases hi:P.info? t with
 | none=>rw[hi]at h;cases h
 | some i=>rw[hi]at h;exact⟨i,rfl,by simpa using h⟩
theorem QD0{t:TypeId}{n:Nat}(h:QHj P t=some n)(w:World):(sizeOf t).run P w=.ok n w:=by
 obtain⟨i,hi,rfl⟩:=QIm h;simp[sizeOf,QVU hi]
theorem QKU:∀(ss:List Sh) (ad:Addr) (i:Nat) (acc:List Value) (K:List Value→WP),QFm ss ad i acc K w →
  ∃vs,(loadCellsFrom ad i ss.length acc.reverse.toArray).run P w=.ok vs.toArray w∧K vs w∧vs.length=acc.length+ss.length:=by
 intro ss
 induction ss with
 | nil=>intro ad i acc K h;exact⟨acc.reverse,rfl,h,by simp⟩
 | cons s ss ih=>
  intro ad i acc K h;rw[QFm,QBW]at h;obtain⟨x,hx,h⟩:=h;obtain⟨vs,hv,h,hl⟩:=ih ad (i+1) (s.mk x::acc) K h;refine⟨vs,?_,h,by rw[hl];simp;omega⟩;simp only[List.length_cons,loadCellsFrom,Sem.run_bind,run_load,hx,Result.andThen_ok]
  have e:(acc.reverse.toArray.push (s.mk x))=(s.mk x::acc).reverse.toArray:=by simp
  rw[e];exact hv
theorem QQz:∀(vs:List Value) (ad:Addr) (i:Nat) (K:WP) (w:World),QP4 vs ad i K w →
  ∃w',(storeCells ad vs i).run P w=.ok () w'∧K w':=by
 intro vs
 induction vs with
 | nil=>intro ad i K w h;exact⟨w,rfl,h⟩
 | cons v vs ih=>
  intro ad i K w h;obtain⟨⟨u,hu⟩,hf,hv,h⟩:=h;obtain⟨w',hw,h⟩:=ih ad (i+1) K _ h;refine⟨w',?_,h⟩;simp only[storeCells,Sem.run_bind,run_store P w _ v _ hv,hu,hf,Bool.false_eq_true,if_false,Result.andThen_ok];exact hw
theorem QCd{o:Oper}{a:Act}{next:Act→World→Prop}{Q:Exit→Act→World→Prop}{s:Sem Value}{v:Value}{w':World}(h:s.run P w=.ok v w')(hn:next (a.put o.dst v) w') :
  o.upon P a next Q ((do pure (Next.value (← s)):Sem Next).run P w):=by
 simp only[Sem.run_bind,h,Result.andThen_ok,Sem.run_pure,Oper.upon];exact hn
theorem QSE{o:Oper}{a:Act}{next:Act→World→Prop}{Q:Exit→Act→World→Prop}{s:Sem Unit}{w':World}(h:s.run P w=.ok () w')(hn:next (a.put o.dst undef) w') :
  o.upon P a next Q ((do s;pure Next.skip:Sem Next).run P w):=by
 simp only[Sem.run_bind,h,Result.andThen_ok,Sem.run_pure,Oper.upon];exact hn
theorem QAI{c:Bool}{x:WP}(h:(bif c then x else bad) w):c=true∧x w:=by
 cases c
 ·exact h.elim
 ·exact⟨rfl,h⟩
theorem QB4{t:TypeId}{d:TypeDesc}(h:P.underlying t=some d)(w:World):(isAgg t).run P w=.ok (QBj P t) w:=by
 unfold isAgg QBj;simp only[Sem.run_bind,run_underlying h,Result.andThen_ok,h];cases d<;>rfl
theorem QCk{t:TypeId}(h:QBj P t=true):∃d,P.underlying t=some d:=by
 unfold QBj at h
 cases hd:P.underlying t with
 | none=>rw[hd]at h;cases h
 | some d=>exact⟨d,rfl⟩
theorem QEq{t:TypeId}{n:Nat}{s:Sh}(h:QBX P (n+1) t=[s]):∃d,P.underlying t=some d:=by
 unfold QBX at h
 cases hd:P.underlying t with
 | none=>rw[hd]at h;cases h
 | some d=>exact⟨d,rfl⟩
theorem QGh{ρ:Env}{x:Option Operand}{d l:Int}(h:bnd ρ x d=some l)(P:Program)(w:World)(y:Nat)(code:BoundsCode)(h0:0≤l)(h1:l≤y) :
  (match x.map (ev ρ) with|some v=>Instr.sliceBound v y code|none=>pure d.toNat:Sem Nat).run P w=.ok l.toNat w:=by
 cases x with
 | none=>
  simp only[bnd,Option.some.injEq]at h;subst h;rfl
 | some o=>
  simp only[bnd]at h;simp only[Option.map_some]
  cases hv:ev ρ o with
  | int k n=>
   rw[hv]at h;simp only[Qf3,Option.some.injEq]at h;subst h;simp[Instr.sliceBound,asIntOf,h0,h1]
  | _=>rw[hv]at h;simp[Qf3]at h
theorem Qau{t e:TypeId}(h:P.underlying t=some (.pointer e))(d:Nat)(q:Option Addr)(w:World):(Op.equalIn (d+1) t (.pointer q) (.pointer none)).run P w=.ok (QDF q) w:=by
 cases q<;>simp[Op.equalIn,run_underlying h,QDF]
theorem QWp{t e:TypeId}(h:P.underlying t=some (.slice e))(d:Nat)(q:Option Addr)(n c n' c':Nat)(w:World):(Op.equalIn (d+1) t (.slice q n c) (.slice none n' c')).run P w=.ok (QDF q) w:=by
 cases q<;>simp[Op.equalIn,run_underlying h,QDF]
theorem Qbp{t k e:TypeId}(h:P.underlying t=some (.map k e))(d:Nat)(q:Option Nat)(w:World):(Op.equalIn (d+1) t (.map q) (.map none)).run P w=.ok (QDF q) w:=by
 cases q<;>simp[Op.equalIn,run_underlying h,QDF]
theorem QJM{t:TypeId}{x y:Value}{b:Bool}(h:∀d (w:World),(Op.equalIn (d+1) t x y).run P w=.ok b w)(w:World):(Op.equal t x y).run P w=.ok b w:=h 9999 w
theorem QW9{t:TypeId}{vx:Value}{b:Bool}(h:QSo P t vx=some b) :
  (∃q e,vx=.pointer q∧P.underlying t=some (.pointer e)∧b=QDF q)∨(∃q n c e,vx=.slice q n c∧P.underlying t=some (.slice e)∧b=QDF q) ∨
  (∃q k e,vx=.map q∧P.underlying t=some (.map k e)∧b=QDF q):=by
 unfold QSo at h;split at h
 ·split at h
  ·rename_i hu;simp only[Option.some.injEq]at h;exact .inl ⟨_,_,rfl,hu,h.symm⟩
  ·cases h
 ·split at h
  ·rename_i hu;simp only[Option.some.injEq]at h;exact .inr (.inl ⟨_,_,_,_,rfl,hu,h.symm⟩)
  ·cases h
 ·split at h
  ·rename_i hu;simp only[Option.some.injEq]at h;exact .inr (.inr ⟨_,_,_,rfl,hu,h.symm⟩)
  ·cases h
 ·cases h
theorem QS5{q:Option Addr}{y:Operand}(h:QFe (.pointer q) y=true):y=.const (.pointer none):=by
 unfold QFe at h;split at h<;>first|rfl|(exact absurd h Bool.false_ne_true)|(rename_i heq;cases heq)
theorem QPU{q:Option Addr}{n c:Nat}{y:Operand}(h:QFe (.slice q n c) y=true):∃n c,y=.const (.slice none n c):=by
 unfold QFe at h;split at h<;>first|exact⟨_,_,rfl⟩|(exact absurd h Bool.false_ne_true)|(rename_i heq;cases heq)
theorem QSU{q:Option Nat}{y:Operand}(h:QFe (.map q) y=true):y=.const (.map none):=by
 unfold QFe at h;split at h<;>first|rfl|(exact absurd h Bool.false_ne_true)|(rename_i heq;cases heq)
theorem QSJ{t:TypeId}{x y:Operand}{vx:Value}{b:Bool}(hb:QSo P t vx=some b){ρ:Env}(hy:QFe vx y=true)(w:World) :
  (do eqGuard .eql t x y vx (ev ρ y);binOp .eql t vx (ev ρ y):Sem Value).run P w=.ok (.bool b) w ∧
  (do eqGuard .neq t x y vx (ev ρ y);binOp .neq t vx (ev ρ y):Sem Value).run P w=.ok (.bool !b) w:=by
 rcases QW9 hb with⟨q,e,rfl,hu,rfl⟩|⟨q,n,c,e,rfl,hu,rfl⟩|⟨q,k,e,rfl,hu,rfl⟩
 ·obtain rfl:=QS5 hy;have:=QJM (fun d w=>Qau hu d q w) w;simp only[eqGuard_at_pointer,ev,binOp,Sem.run_bind,Sem.run_pure,Result.andThen_ok,this];exact⟨trivial,trivial⟩
 ·obtain⟨n',c',rfl⟩:=QPU hy;have:=QJM (fun d w=>QWp hu d q n c n' c' w) w;simp only[eqGuard_at_slice,ev,binOp,Sem.run_bind,Sem.run_pure,Result.andThen_ok,this];exact⟨trivial,trivial⟩
 ·obtain rfl:=QSU hy;have:=QJM (fun d w=>Qbp hu d q w) w;simp only[eqGuard_at_map,ev,binOp,Sem.run_bind,Sem.run_pure,Result.andThen_ok,this];exact⟨trivial,trivial⟩
theorem QWn{t:TypeId}{ms:Array (String×TypeId)}(hu:P.underlying t=some (.interface ms)){v:Value}{b:Bool}(hv:QcG false v=some b)(d:Nat)(w:World):(Op.equalIn (d+1) t v .nilIface).run P w=.ok b w:=by
 unfold Op.equalIn;cases v<;>simp only[QcG,reduceCtorEq,Option.some.injEq]at hv<;>subst hv<;>simp only[Sem.run_bind,run_underlying hu,Result.andThen_ok,Sem.run_pure]
theorem QXW{t:TypeId}{a1 a2 a3}(hu:P.underlying t=some (.func a1 a2 a3)){v:Value}{b:Bool}(hv:QcG true v=some b)(d:Nat)(w:World):(Op.equalIn (d+1) t v .nilFunc).run P w=.ok b w:=by
 unfold Op.equalIn;cases v<;>simp only[QcG,reduceCtorEq,Option.some.injEq]at hv<;>subst hv<;>simp only[Sem.run_bind,run_underlying hu,Result.andThen_ok,Sem.run_pure]
theorem QUa{t:TypeId}{x y:Operand}{vx:Value}{f b:Bool}(hk:Qdo P t y=some f)(hv:QcG f vx=some b)(ρ:Env)(w:World) :
  (do eqGuard .eql t x y vx (ev ρ y);binOp .eql t vx (ev ρ y):Sem Value).run P w=.ok (.bool b) w ∧
  (do eqGuard .neq t x y vx (ev ρ y);binOp .neq t vx (ev ρ y):Sem Value).run P w=.ok (.bool !b) w:=by
 unfold Qdo at hk;split at hk
 ·split at hk
  ·rename_i ms hu
   obtain rfl:=(Option.some.inj hk).symm;have:=QJM (fun d w=>QWn hu hv d w) w
   cases vx<;>simp only[QcG,reduceCtorEq]at hv <;>
    simp only[eqGuard_nil_constR,eqGuard_at_iface,ev,binOp,Sem.run_bind,Sem.run_pure,Result.andThen_ok,this] <;> exact⟨trivial,trivial⟩
  ·cases hk
 ·split at hk
  ·rename_i a1 a2 a3 hu
   obtain rfl:=(Option.some.inj hk).symm;have:=QJM (fun d w=>QXW hu hv d w) w
   cases vx<;>simp only[QcG,reduceCtorEq]at hv <;>
    simp only[eqGuard_at_nilFunc,eqGuard_at_func,ev,binOp,Sem.run_bind,Sem.run_pure,Result.andThen_ok,this] <;> exact⟨trivial,trivial⟩
  ·cases hk
 ·cases hk
section
variable {t:TypeId}{x y:Value}{b:Bool}
theorem QNq(h:QNh P t x y=some b)(d:Nat)(w:World):(Op.equalIn (d+1) t x y).run P w=.ok b w:=by
 unfold QNh vEq QZ6 QcT at h;unfold Op.equalIn;split at h
 ·rename_i k1 k a k' a' hu
  cases hk:decide (k=k') with
  | false=>simp[hk]at h
  | true=>
   simp only[hk,cond_true,Option.some.injEq]at h;simp only[Sem.run_bind,run_underlying hu,Result.andThen_ok,if_pos (of_decide_eq_true hk),Sem.run_pure,h]
 ·rename_i hu
  simp only[Option.some.injEq]at h;simp only[Sem.run_bind,run_underlying hu,Result.andThen_ok,Sem.run_pure,h]
 ·rename_i hu
  simp only[Option.some.injEq]at h;simp only[Sem.run_bind,run_underlying hu,Result.andThen_ok,Sem.run_pure,h]
 ·cases h
theorem QUn{cs:Array Value}{off:Nat}{v:Value}{d:TypeDesc}(hd:P.underlying t=some d)(ha:QBj P t=false)(hv:cs[off]? = some v)(w:World):(part t cs off).run P w=.ok v w:=by
 simp only[part,Sem.run_bind,QB4 hd,ha,Result.andThen_ok,Bool.false_eq_true,if_false,hv,Sem.run_pure]
theorem QJ4(h:QNh P t x y=some b):∃d,P.underlying t=some d:=by
 cases hd:P.underlying t with
 | none=>unfold QNh at h;rw[hd]at h;cases h
 | some d=>exact⟨d,rfl⟩
theorem QLB:∀{d:Nat}{t:TypeId}{x y:Value}{b:Bool},QM7 P d t x y=some b→∃u,P.underlying t=some u:=by
 intro d t x y b h
 cases d with
 | zero=>exact QJ4 h
 | succ d=>
  unfold QM7 at h;split at h
  ·rename_i hu;exact⟨_,hu⟩
  ·exact QJ4 h
theorem QJn{u:TypeDesc}(hd:P.underlying t=some u){cs:Array Value}{off:Nat}{v:Value}(h:QLM P t cs.toList off=some v)(w:World):(part t cs off).run P w=.ok v w:=by
 unfold QLM at h
 cases ha:QBj P t with
 | false=>
  rw[ha]at h;exact QUn hd ha (by simpa using h) w
 | true=>
  rw[ha]at h;simp only[cond_true]at h
  cases hs:QHj P t with
  | none=>rw[hs]at h;cases h
  | some n=>
   rw[hs]at h;simp only[Option.some.injEq]at h;subst h;simp only[part,Sem.run_bind,QB4 hd,ha,Result.andThen_ok,if_true,QD0 hs,Sem.run_pure];congr 2;apply Array.ext';simp[Array.toList_extract,List.extract]
theorem QJ7(w:World)(xs ys:Array Value)(n:Nat){eqv:TypeId→Value→Value→Option Bool}(hE:∀t x y b,eqv t x y=some b→∀w,(Op.equalIn (n+1) t x y).run P w=.ok b w)
  (hU:∀t x y b,eqv t x y=some b→∃u,P.underlying t=some u):∀(fs:List Field) (b:Bool),QD8 P eqv fs xs.toList ys.toList=some b →
  (forIn (m:=Sem) fs ((none,()):Option Bool×Unit) fun f _=>
   if f.name ≠ "_" then do
    if !(← Op.equalIn (n+1) f.type (← part f.type xs f.offset) (← part f.type ys f.offset)) then pure (ForInStep.done (some false,()))
    else pure (ForInStep.yield (none,()))
   else pure (ForInStep.yield (none,()))).run P w=.ok (if b then (none,()) else (some false,())) w:=by
 intro fs
 induction fs with
 | nil=>
  intro b h;simp only[QD8,Option.some.injEq]at h;subst h;simp only[List.forIn_nil,Sem.run_pure,if_true]
 | cons f fs ih=>
  intro b h;unfold QD8 QZk at h
  cases hc:(!(f.name == "_")) with
  | false=>rw[hc]at h;cases h
  | true=>
   rw[hc]at h;simp only[cond_true]at h;simp only[Bool.not_eq_true',beq_eq_false_iff_ne]at hc
   cases hx:QLM P f.type xs.toList f.offset with
   | none=>rw[hx]at h;cases h
   | some x=>
    cases hy:QLM P f.type ys.toList f.offset with
    | none=>rw[hx,hy]at h;cases h
    | some y=>
     rw[hx,hy]at h;simp only at h
     cases he:eqv f.type x y with
     | none=>rw[he]at h;cases h
     | some b1=>
      cases hr:QD8 P eqv fs xs.toList ys.toList with
      | none=>rw[he,hr]at h;cases h
      | some r=>
       rw[he,hr]at h;simp only[Option.some.injEq]at h;subst h;obtain⟨d,hd⟩:=hU _ _ _ _ he;simp only[List.forIn_cons,if_pos hc,Sem.run_bind,QJn hd hx,QJn hd hy,hE _ _ _ _ he,Result.andThen_ok]
       cases b1 with
       | true=>
        simp only[Bool.not_true,Bool.false_eq_true,if_false,Sem.run_pure,Result.andThen_ok,Bool.true_and];exact ih r hr
       | false=>simp only[Bool.not_false,if_true,Sem.run_pure,Result.andThen_ok,Bool.false_and,Bool.false_eq_true,if_false]
theorem QYr:∀(d m:Nat) (t:TypeId) (x y:Value) (b:Bool),QM7 P d t x y=some b→∀w,(Op.equalIn (m+d+1) t x y).run P w=.ok b w:=by
 intro d
 induction d with
 | zero=>intro m t x y b h w;exact QNq h _ w
 | succ d ih=>
  intro m t x y b h w;unfold QM7 at h;split at h
  ·rename_i fs xs ys hu
   obtain⟨hb,h⟩:P.stoodInHeld t=false∧QD8 P (QM7 P d) fs.toList xs.toList ys.toList=some b:=by
    cases hb:P.stoodInHeld t with
    | false=>rw[hb]at h;exact⟨rfl,h⟩
    | true=>rw[hb]at h;cases h
   show (Op.equalIn ((m+(d+1))+1) t (.agg xs) (.agg ys)).run P w=_;unfold Op.equalIn;simp only[Sem.run_bind,run_underlying hu,Result.andThen_ok,run_program,hb,Bool.false_eq_true,if_false];rw[←Array.forIn_toList];have:=QJ7 (P:=P) w xs ys (m+d) (eqv:=QM7 P d) (fun t x y b h w=>ih m t x y b h w) (fun t x y b h=>QLB h) fs.toList b h;rw[show m+(d+1)=m+d+1 by omega];rw[this];cases b<;>simp
  ·exact QNq h _ w
theorem QX2(h:QQK P t x y=some b)(w:World):(Op.equal t x y).run P w=.ok b w:=by
 unfold QQK at h;split at h
 ·rename_i fs xs ys hu
  obtain⟨hb,h⟩:(!(P.eqGuardType P.depth t) && !(P.stoodInHeld t))=true∧QD8 P (QM7 P 1) fs.toList xs.toList ys.toList=some b:=by
   cases hb:(!(P.eqGuardType P.depth t) && !(P.stoodInHeld t)) with
   | true=>rw[hb]at h;exact⟨rfl,h⟩
   | false=>rw[hb]at h;cases h
  simp only[Bool.and_eq_true,Bool.not_eq_true']at hb;show (Op.equalIn (9999+1) t (.agg xs) (.agg ys)).run P w=_;unfold Op.equalIn;simp only[Sem.run_bind,run_underlying hu,Result.andThen_ok,run_program,hb.2,Bool.false_eq_true,if_false];rw[←Array.forIn_toList];have:=QJ7 (P:=P) w xs ys 9998 (eqv:=QM7 P 1) (fun t x y b h w=>QYr 1 9997 t x y b h w) (fun t x y b h=>QLB h) fs.toList b h;simp only[Nat.reduceAdd]at this;rw[this];cases b<;>simp
 ·cases h
theorem QSI{x' y':Operand}(h:QQK P t x y=some b)(w:World) :
  (do eqGuard .eql t x' y' x y;binOp .eql t x y:Sem Value).run P w=.ok (.bool b) w ∧
  (do eqGuard .neq t x' y' x y;binOp .neq t x y:Sem Value).run P w=.ok (.bool !b) w:=by
 have h2:=QX2 h w;unfold QQK at h;split at h
 ·rename_i fs xs ys hu
  have hb:P.eqGuardType P.depth t=false:=by
   cases hb:(!(P.eqGuardType P.depth t) && !(P.stoodInHeld t)) with
   | true=>simp only[Bool.and_eq_true,Bool.not_eq_true']at hb;exact hb.1
   | false=>rw[hb]at h;cases h
  constructor
  ·simp only[eqGuard,Sem.run_bind,Sem.run_ite,run_program,Result.andThen_ok,hb,binOp,Sem.run_pure];simp[h2]
  ·simp only[eqGuard,Sem.run_bind,Sem.run_ite,run_program,Result.andThen_ok,hb,binOp,Sem.run_pure];simp[h2]
 ·cases h
end
theorem Qdh{op:BinOp}(h:Qdi op=true)(xt:TypeId)(k:IntKind)(a b:Int):QA1 P (binOp op xt (.int k a) (.int k b))=some (vOp op k a b):=by
 cases op<;>first|(cases h;done)|(simp only[binOp,ne_eq,not_true_eq_false,if_false];rfl)
theorem QLC{s:Sem Value}:∀{v},QA1 P s=some v→QA1 P (do pure (Next.value (← s)):Sem Next)=some (.value v):=by
 induction s with
 | pure a=>intro v h;simp only[QA1,Option.some.injEq]at h;subst h;rfl
 | program k ih=>intro v h;exact ih _ h
 | mark m k ih=>intro v h;exact ih h
 | _=>intro v h;simp[QA1]at h
theorem QIF{α β:Type}(s:Sem α)(f:α→Sem β):∀{a},QA1 P s=some a→QA1 P (s >>= f)=QA1 P (f a):=by
 induction s with
 | pure a=>intro v h;simp only[QA1,Option.some.injEq]at h;subst h;rfl
 | program k ih=>intro v h;exact ih _ h
 | mark m k ih=>intro v h;exact ih h
 | _=>intro v h;simp[QA1]at h
theorem QIx{t:TypeId}{d:TypeDesc}(h:P.underlying t=some d):QA1 P (underlying t)=some d:=by
 unfold underlying;show QA1 P (match P.underlying t with|some d=>pure d|none=>_)=_;rw[h];rfl
theorem QcB{xt:TypeId}{a b:Bool}(hu:P.underlying xt=some .bool):QA1 P (Op.equal xt (.bool a) (.bool b))=some (a == b):=by
 unfold Op.equal;rw[show Op.maxDepth=9999+1 from rfl,Op.equalIn,QIF _ _ (QIx hu)];rfl
theorem QTH(op:BinOp)(t:TypeId)(x y:Operand)(k k':IntKind)(a b:Int):eqGuard op t x y (.int k a) (.int k' b)=pure ():=by
 cases op<;>rfl
theorem QSs(op:BinOp)(t:TypeId)(x y:Operand)(a b:ByteArray):eqGuard op t x y (.string a) (.string b)=pure ():=by
 cases op<;>rfl
theorem Qd0{ρ:Env}{as:Array Operand}{ts:Array TypeId}{v:Value}{dst:Option Tmp}{type:TypeId}{pos:String}{after:Array Edge}{guard:Option (Nat×Bool)}
  (h:(match ts.toList,as.toList with
  | [t],[x]=>(match P.underlying t,ev ρ x with
   | some (.slice _),.slice _ n _=>some (.int .i64 (QGM n))
   | some .string,.string s=>some (.int .i64 (QGM s.size))
   | _,_=>none)
  | _,_=>none)=some v):QA1 P (execOp (ev ρ) ⟨dst,.call ⟨.builtin .len,as,ts⟩,type,pos,after,guard⟩)=some (.value v):=by
 obtain⟨as⟩:=as;obtain⟨ts⟩:=ts;split at h
 ·rename_i t x ht hx
  simp only at ht hx;subst ht hx
  have e:∀v,QA1 P (Builtin.len_ #[t] type #[ev ρ x])=some v→QA1 P (execOp (ev ρ) ⟨dst,.call ⟨.builtin .len,#[x],#[t]⟩,type,pos,after,guard⟩)=some (.value v):=by
   intro v hv;simp only[execOp,resolve,invoke,builtin];refine QLC ?_;show QA1 P (Builtin.len_ #[t] type (Array.map (ev ρ) #[x]))=_;rw[show Array.map (ev ρ) #[x] = #[ev ρ x] by simp];exact hv
  split at h
  ·rename_i hu hv
   simp only[Option.some.injEq]at h;subst h;refine e _ ?_;rw[hv];show QA1 P (underlying t >>= _)=_;rw[QIF _ _ (QIx hu)];rfl
  ·rename_i hu hv
   simp only[Option.some.injEq]at h;subst h;refine e _ ?_;rw[hv];show QA1 P (underlying t >>= _)=_;rw[QIF _ _ (QIx hu)];rfl
  ·cases h
 ·cases h
theorem QfC{ρ:Env}{o:Oper}{v:Value}(h:pv P ρ o=some v):QA1 P (execOp (ev ρ) o)=some (.value v):=by
 obtain⟨dst,op,type,pos,after,guard⟩:=o;unfold pv at h;simp only at h;split at h
 ·rw[Qef]at h;simp only[Option.some.injEq]at h;subst h;rfl
 ·simp only[Option.some.injEq]at h;subst h
  have e:∀a:Array Operand,(a.toList.map (ev ρ)).toArray=a.map (ev ρ):=fun a=>by apply Array.ext';simp
  rw[e,e];rfl
 ·exact Qd0 h
 ·rename_i op xt x y _
  simp only[execOp];refine QLC ?_;split at h
  ·rename_i k a k' b hx hy
   cases hb:(Qdi op&&decide (k=k')) with
   | false=>rw[hb]at h;cases h
   | true=>
    rw[hb]at h;simp only[Bool.and_eq_true,decide_eq_true_eq]at hb;obtain⟨h1,rfl⟩:=hb;simp only[cond_true,Option.some.injEq]at h;subst h;rw[hx,hy,QTH];exact Qdh h1 ..
  ·rename_i a b hx hy
   rw[hx,hy,QSs];cases op<;>simp only[reduceCtorEq]at h <;> (simp only[Option.some.injEq]at h;subst h;rfl)
  ·rename_i a b hx hy
   rw[hx,hy];split at h
   ·rename_i hu
    simp only[Option.some.injEq]at h;subst h;show QA1 P (Op.equal xt (.bool a) (.bool b) >>= fun r=>pure (Value.bool r))=some _;rw[QIF _ _ (QcB hu)];rfl
   ·rename_i hu
    simp only[Option.some.injEq]at h;subst h;show QA1 P (Op.equal xt (.bool a) (.bool b) >>= fun r=>pure (Value.bool !r))=some _;rw[QIF _ _ (QcB hu)];rfl
   ·cases h
  ·cases h
 ·split at h
  ·rename_i x b hx
   simp only[Option.some.injEq]at h;subst h;simp only[execOp,hx];rfl
  ·cases h
 ·split at h
  ·rename_i x k a hx
   simp only[Option.some.injEq]at h;subst h;simp only[execOp,hx];rfl
  ·cases h
 ·split at h
  ·rename_i x k a hx
   simp only[Option.some.injEq]at h;subst h;simp only[execOp,hx];rfl
  ·cases h
 ·rename_i sT d x
  split at h
  ·rename_i u k k' n hs hd hx
   simp only[Option.some.injEq]at h;subst h;simp only[execOp];refine QLC ?_;unfold convert;rw[QIF _ _ (QIx hs),QIF _ _ (QIx hd),hx];cases u<;>rfl
  ·cases h
 ·cases h
theorem QUe{ρ:Env}{o:Oper}:QVz P ρ o=QA1 P (execOp (ev ρ) o):=by
 unfold QVz;split
 ·rename_i v h;exact (QfC h).symm
 ·rfl
theorem QPG{x:Bool}{a b:Operand}{ρ ρ':Env}:QXK x a b (ev ρ a) (ev ρ' b)=QYk x (ev ρ a) (ev ρ' b):=by
 have k:∀va vb,va=ev ρ a→vb=ev ρ' b→QXK x a b va vb=QYk x va vb:=by
  intro va vb ha hb;unfold QXK;split
  ·cases ha;cases x<;>rfl
  ·cases hb;rename_i u _;cases x<;>cases u<;>rfl
  ·rfl
  ·unfold QYk;split
   ·rename_i g _ _;exact (g _ _ rfl rfl).elim
   ·rfl
 exact k _ _ rfl rfl
theorem QPZ(x:Bool)(a b:Value):QYk x a b=if x then a else b:=by
 unfold QYk;split<;>cases x<;>rfl
theorem Qbx(off:Nat):∀(vs:List Value) (s:Nat) (cs:Array Value),(vs.zipIdx s).foldl (fun(cs:Array Value) x=>cs.setIfInBounds (off+x.2) x.1) cs=(QER vs (off+s) cs.toList).toArray:=by
 intro vs
 induction vs with
 | nil=>intro s cs;rfl
 | cons v vs ih=>
  intro s cs;simp only[List.zipIdx_cons,List.foldl_cons,QER];rw[ih,Array.toList_setIfInBounds];rfl
theorem QF2{place:Nat→Option (Nat×Nat)}:∀(parts:List (Nat×Value)) (cs:Array Value) {r:List Value},QNO place cs.toList parts=some r→Instr.fill place cs parts=some r.toArray:=by
 intro parts
 induction parts with
 | nil=>intro cs r h;simp only[QNO,Option.some.injEq]at h;subst h;rfl
 | cons p ps ih=>
  intro cs r h;obtain⟨i,v⟩:=p;simp only[QNO]at h;simp only[Instr.fill]
  cases hp:place i with
  | none=>rw[hp]at h;cases h
  | some os=>
   obtain⟨off,size⟩:=os;rw[hp]at h;simp only at h⊢
   cases hb:(Nat.beq v.cells.toList.length size&&Nat.ble (off+v.cells.toList.length) cs.toList.length) with
   | false=>rw[hb]at h;cases h
   | true=>
    rw[hb]at h;simp only[cond_true]at h;simp only[Bool.and_eq_true]at hb;have h1:=Nat.eq_of_beq_eq_true hb.1;have h2:=Nat.le_of_ble_eq_true hb.2;simp only[Array.length_toList]at h1 h2;rw[if_neg (by simp[h1];omega)]
    have e:v.cells.zipIdx.foldl (fun cs x=>cs.setIfInBounds (off+x.2) x.1) cs=(QER v.cells.toList off cs.toList).toArray:=by
     rw[←Array.foldl_toList,Array.toList_zipIdx];exact Qbx off _ 0 cs
    have e':(v.cells.zipIdx.foldl (fun cs (x:Value×Nat)=>match x with|(c,j)=>cs.setIfInBounds (off+j) c) cs)=(QER v.cells.toList off cs.toList).toArray:=e;rw[e'];exact ih _ (by simpa using h)
theorem QXJ:∀(fs:List Field) {ps:List (Nat×Nat)},QIM P fs=some ps→fs.mapM (fun f=>(P.info? f.type).map fun i=>(f.offset,i.size))=some ps:=by
 intro fs
 induction fs with
 | nil=>intro ps h;simp only[QIM,Option.some.injEq]at h;subst h;rfl
 | cons f fs ih=>
  intro ps h;simp only[QIM]at h
  cases hs:QHj P f.type with
  | none=>rw[hs]at h;cases h
  | some n=>
   cases hp:QIM P fs with
   | none=>rw[hs,hp]at h;cases h
   | some l=>
    rw[hs,hp]at h;simp only[Option.some.injEq]at h;subst h;obtain⟨i,hi,rfl⟩:=QIm hs;rw[List.mapM_cons,ih hp];simp[hi]
theorem QCM{t:TypeId}{z:List Value}(h:QEw P t=some z):∃i v,P.info? t=some i∧i.zero=some v∧z=v.cells.toList:=by
 unfold QEw at h
 cases hi:P.info? t with
 | none=>rw[hi]at h;cases h
 | some i=>
  rw[hi]at h;simp only at h
  cases hz:i.zero with
  | none=>rw[hz]at h;cases h
  | some v=>rw[hz]at h;exact⟨i,v,rfl,hz,by simpa using h.symm⟩
theorem QXI{t:TypeId}{parts:Array (Nat×Value)}{cs:List Value}(h:QVA P t parts.toList=some cs)(w:World):(Instr.build t parts).run P w=.ok (.agg cs.toArray) w:=by
 refine run_build w t parts _ ?_;unfold QVA at h
 cases hu:P.underlying t with
 | none=>rw[hu]at h;cases h
 | some d=>
  cases hz:QEw P t with
  | none=>rw[hu,hz]at h;cases d<;>cases h
  | some z=>
   obtain⟨it,v,hi,hv,rfl⟩:=QCM hz;rw[hu,hz]at h;unfold Program.built;rw[hi,hu];cases d<;>simp only[reduceCtorEq]at h
   ·rename_i n e
    (try simp only)
    cases hs:QHj P e with
    | none=>rw[hs]at h;cases h
    | some m=>
     rw[hs]at h;obtain⟨ie,hie,rfl⟩:=QIm hs;rw[hv,hie];exact QF2 _ _ h
   ·rename_i fs
    (try simp only)
    cases hp:QIM P fs.toList with
    | none=>rw[hp]at h;cases h
    | some ps=>
     rw[hp]at h;rw[hv,QXJ _ hp]
     (try simp only)
     refine QF2 _ _ ?_;simpa using h
theorem QMB(z:List Value):∀n,(QIQ z n).length=n*z.length:=by
 intro n
 induction n with
 | zero=>simp[QIQ]
 | succ n ih=>simp only[QIQ,List.length_append,ih,Nat.succ_mul];omega
theorem QbZ(z:List Value):∀n k,k<n*z.length→(QIQ z n)[k]? = z[k % z.length]?:=by
 intro n
 induction n with
 | zero=>intro k h;simp at h
 | succ n ih=>
  intro k h;rw[Nat.succ_mul]at h;simp only[QIQ];by_cases hk:k<z.length
  ·rw[List.getElem?_append_left hk,Nat.mod_eq_of_lt hk]
  ·rw[List.getElem?_append_right (by omega),ih _ (by omega)];rw[←Nat.mod_eq_sub_mod (by omega)]
theorem QEH(z:Array Value)(n:Nat):(Array.range (n*z.size)).map (z[· % z.size]!)=(QIQ z.toList n).toArray:=by
 apply Array.ext';apply List.ext_getElem?;intro k;simp only[Array.toList_map,Array.toList_range,List.getElem?_map];by_cases hk:k<n*z.size
 ·have hz:0<z.size:=by
   rcases Nat.eq_zero_or_pos z.size with h|h
   ·rw[h]at hk;simp at hk
   ·exact h
  rw[QbZ _ _ _ (by simpa using hk)];have hm:=Nat.mod_lt k hz;simp[hk,hm]
 ·rw[List.getElem?_eq_none (by simpa using hk),List.getElem?_eq_none (by rw[QMB];simpa using hk)];rfl
theorem QMZ{t e:TypeId}{n len:Nat}{z cs:List Value}{parts:Array (Nat×Value)}(hu:P.underlying t=some (.slice e))(hs:QHj P e=some n)(hz:QEw P e=some z)(hb:len*n≤16777216)(hn:z.length=n)
  (h:QNO (fun i=>some (i*n,n)) (QIQ z len) parts.toList=some cs) (w:World) :
  (Instr.buildSlice t len parts).run P w=.ok (.slice (some ⟨w.heap.size,0,none⟩) len len) (w.alloc (.cells cs.toArray e)):=by
 obtain⟨ie,v,hi,hv,rfl⟩:=QCM hz;obtain⟨ie',hi',rfl⟩:=QIm hs
 obtain rfl:ie'=ie:=by rw[hi]at hi';exact (Option.some.inj hi').symm
 have hsm:¬(len*ie'.size>2 ^ 24):=by omega
 have hinit:(Array.range (len*ie'.size)).map ((if len*ie'.size=0 then (#[]:Array Value) else v.cells)[· % (if len*ie'.size=0 then (#[]:Array Value) else v.cells).size]!)=(QIQ v.cells.toList len).toArray:=by
  by_cases h0:len*ie'.size=0
  ·rw[if_pos h0,h0];have:QIQ v.cells.toList len=[]:=List.eq_nil_of_length_eq_zero (by rw[QMB,hn,h0]);rw[this];simp
  ·rw[if_neg h0]
   have hsz:ie'.size=v.cells.size:=by rw[←hn];simp
   rw[hsz];exact QEH _ _
 have hf:=QF2 (place:=fun i=>some (i*ie'.size,ie'.size)) parts.toList (QIQ v.cells.toList len).toArray (by simpa using h);unfold Instr.buildSlice;simp only[Sem.run_bind,run_underlying hu,Result.andThen_ok,QD0 hs,Sem.run_ite,if_neg hsm];by_cases h0:len*ie'.size=0
 ·simp only[h0,if_true]at hinit⊢;simp only[Sem.run_pure,Result.andThen_ok,hinit,hf,newRow,Sem.run_bind,run_newObj,World.alloc_eq]
 ·simp only[h0,if_false]at hinit⊢;simp only[zeroValue,Sem.run_bind,QVU hi,Result.andThen_ok,hv,Sem.run_pure,hinit,hf,newRow,run_newObj,World.alloc_eq]
theorem QQG(ρ:Env)(parts:Array (Nat×Operand)):(parts.map fun(i,x)=>(i,ev ρ x)).toList=QML ρ parts.toList:=by
 simp only[Array.toList_map,QML]
def QEg(o:Oper):Bool:=
 match o.op with
 | .load .. => true
 | _=>false
def QJP(o:Oper):Bool:=
 match o.op with
 | .alloc _=>true
 | .box .. => true
 | .buildSlice .. => true
 | _=>false
def QDm(P:Program)(o:Oper):Bool:=
 match o.op with
 | .store ..|.alloc _|.box ..|.buildSlice ..|.makeSlice ..|.lookup ..|.mapUpdate ..|.makeMap ..|.range ..|.next .. => false
 | .call c=>(match c.callee with|.builtin .append=>false|.builtin .copy=>false|.builtin .clear=>false|.builtin _=>true|_=>false)
 | .convert s d _=>(match P.underlying s,P.underlying d with
  | some (.slice _),some .string=>false
  | some .string,some (.slice _)=>false
  | _,_=>true)
 | _=>true
theorem QBS{s:Sem Value}{v:Value}{w w':World}(h:s.run P w=.ok v w'):(do pure (Next.value (← s)):Sem Next).run P w=.ok (.value v) w':=by
 simp only[Sem.run_bind,h,Result.andThen_ok,Sem.run_pure]
set_option maxHeartbeats 1000000 in
theorem QLY{ρ:Env}{o:Oper}{K:Env→WP}(hnul:QDm P o=true)(h:QBJ P o ρ K w) :
  ∃v,K (put ρ o.dst v) w∧(execOp (ev ρ) o).run P w=.ok (.value v) w∧(QEg o=true∨∀w',(execOp (ev ρ) o).run P w'=.ok (.value v) w'):=by
 obtain⟨dst,op,type,pos,after,guard⟩:=o
 have all:∀v,K (put ρ dst v) w→(∀w',(execOp (ev ρ) ⟨dst,op,type,pos,after,guard⟩).run P w'=.ok (.value v) w') →
   ∃v,K (put ρ dst v) w∧(execOp (ev ρ) ⟨dst,op,type,pos,after,guard⟩).run P w=.ok (.value v) w∧(QEg ⟨dst,op,type,pos,after,guard⟩=true∨∀w',(execOp (ev ρ) ⟨dst,op,type,pos,after,guard⟩).run P w'=.ok (.value v) w'):=
  fun v hk hr=>⟨v,hk,hr w,.inr hr⟩
 have hpure:(match QVz P ρ ⟨dst,op,type,pos,after,guard⟩ with|some (.value v)=>K (put ρ dst v)|_=>bad) w →
   ∃v,K (put ρ dst v) w∧(execOp (ev ρ) ⟨dst,op,type,pos,after,guard⟩).run P w=.ok (.value v) w∧(QEg ⟨dst,op,type,pos,after,guard⟩=true∨∀w',(execOp (ev ρ) ⟨dst,op,type,pos,after,guard⟩).run P w'=.ok (.value v) w'):=by
  intro h;rw[QUe]at h
  cases hp:QA1 P (execOp (ev ρ) ⟨dst,op,type,pos,after,guard⟩) with
  | none=>rw[hp]at h;exact h.elim
  | some n=>
   rw[hp]at h;cases n<;>try exact h.elim
   exact all _ h (QIG _ _ hp)
 cases op with
 | load t x=>
  simp only[QBJ,QGM,QC5,QC3,QJS,QJR,QJQ,QIR,QIP,QGW,QBW,QBY,QBw,QDS,QCD]at h;simp only[execOp];cases hx:ev ρ x<;>rw[hx]at h<;>try exact h.elim
  rename_i q
  cases q with
  | none=>exact h.elim
  | some ad=>
  simp only at h
  cases hagg:QBj P t with
  | true=>
   rw[hagg]at h;simp only[cond_true]at h;obtain⟨d,hd⟩:=QCk hagg
   cases hsz:QHj P t with
   | none=>rw[hsz]at h;exact h.elim
   | some n=>
    rw[hsz]at h;obtain⟨hb,h⟩:=QAI h;have hb:=Nat.eq_of_beq_eq_true hb;obtain⟨vs,hv,h,_⟩:=QKU (P:=P) _ _ _ _ _ h;refine⟨_,h,QBS ?_,.inl rfl⟩;simp only[Instr.loadAt,Instr.sureAddr,Sem.run_bind,Sem.run_pure,Result.andThen_ok,loadVar,QB4 hd,hagg,if_true,QD0 hsz,loadCells];rw[hb];simp only[List.reverse_nil]at hv;rw[hv];rfl
  | false=>
   rw[hagg]at h;simp only[cond_false]at h
   cases hsh:QBX P 20 t with
   | nil=>rw[hsh]at h;exact h.elim
   | cons s r=>
    cases r with
    | cons _ _=>rw[hsh]at h;exact h.elim
    | nil=>
     rw[hsh]at h;obtain⟨d,hd⟩:=QEq hsh;obtain⟨y,hy,h⟩:=h;refine⟨_,h,QBS ?_,.inl rfl⟩;simp only[Instr.loadAt,Instr.sureAddr,Sem.run_bind,Sem.run_pure,Result.andThen_ok,loadVar,QB4 hd,hagg,Bool.false_eq_true,if_false,run_load,hy]
 | nilCheck x=>
  simp only[QBJ,QGM,QC5,QC3,QJS,QJR,QJQ,QIR,QIP,QGW,QBW,QBY,QBw,QDS,QCD]at h
  cases hx:ev ρ x with
  | pointer q=>
   rw[hx]at h;obtain⟨ad,rfl,h⟩:=h
   exact all _ h fun w=>by simp only[execOp,hx,Sem.run_pure]
  | _=>rw[hx]at h;exact hpure h
 | indexAddr t x i=>
  obtain⟨F,hF,h'⟩:∃F,QBJ P _ ρ K=F∧F w:=⟨_,rfl,h⟩;clear h;have h:=h';clear h';simp only[QBJ,QGM,QC5,QC3,QJS,QJR,QJQ,QIR,QIP,QGW,QBW,QBY,QBw,QDS,QCD]at hF;simp only[execOp];split at hF
  ·rename_i e q n _ k m hu hx hi
   subst hF
   cases hsz:QHj P e with
   | none=>rw[hsz]at h;exact h.elim
   | some sz=>
    rw[hsz]at h;obtain⟨ad,rfl,h0,h1,h⟩:=h;refine all _ h fun w=>QBS ?_;simp[Instr.indexAt,asIntOf,hx,hi,run_underlying hu,h0,h1,QD0 hsz]
  ·rename_i n e ad k m hu hx hi
   subst hF
   cases hsz:QHj P e with
   | none=>rw[hsz]at h;exact h.elim
   | some sz=>
    rw[hsz]at h;obtain⟨ad',ha,h0,h1,h⟩:=h
    obtain rfl:ad=ad':=by simpa using ha
    refine all _ h fun w=>QBS ?_;simp[Instr.indexAt,Instr.sureAddr,asIntOf,hx,hi,run_underlying hu,h0,h1,QD0 hsz]
  ·subst hF;exact h.elim
 | index t x i=>
  obtain⟨F,hF,h'⟩:∃F,QBJ P _ ρ K=F∧F w:=⟨_,rfl,h⟩;clear h;have h:=h';clear h';simp only[QBJ,QGM,QC5,QC3,QJS,QJR,QJQ,QIR,QIP,QGW,QBW,QBY,QBw,QDS,QCD]at hF;simp only[execOp];split at hF
  ·rename_i s k m hu hx hi
   subst hF;obtain⟨b,h0,hb,h⟩:=h;refine all _ h fun w=>QBS ?_;simp[Instr.index,asIntOf,hx,hi,run_underlying hu,h0,hb]
  ·rename_i n e cs k m hu hx hi
   split at hF
   ·rename_i s hsz hss
    subst hF;obtain⟨hb,h⟩:=QAI h;obtain⟨h0,h1,v,hv,h⟩:=h;obtain⟨d,hd⟩:=QEq hss;refine all _ h fun w=>QBS ?_;have hp:=QUn (cs:=cs) (off:=m.toNat*1) hd (by simpa using hb) (by simpa using hv) w;simp only[Instr.index,asIntOf,hx,hi,Sem.run_bind,Sem.run_pure,Result.andThen_ok,run_underlying hu,Sem.run_ite,h0,h1,and_self,if_true,QD0 hsz,hp]
   ·rename_i sz hsz _
    subst hF;obtain⟨hb,h⟩:=QAI h;simp only[Bool.and_eq_true]at hb;obtain⟨h0,h1,v,hv,h⟩:=h;rw[Cur.app_of,hv]at h;obtain⟨d,hd⟩:=QCk hb.1;refine all _ h fun w=>QBS ?_;have hp:=QJn (P:=P) (t:=e) (cs:=cs) (off:=m.toNat*sz) (v:=.agg ((cs.toList.drop (m.toNat*sz)).take sz).toArray) hd (by unfold QLM;rw[hb.1,hsz];rfl) w;simp only[Instr.index,asIntOf,hx,hi,Sem.run_bind,Sem.run_pure,Result.andThen_ok,run_underlying hu,Sem.run_ite,h0,h1,and_self,if_true,QD0 hsz,hp]
   ·subst hF;exact h.elim
  ·subst hF;exact h.elim
 | slice t x lo hi mx=>
  obtain⟨F,hF,h'⟩:∃F,QBJ P _ ρ K=F∧F w:=⟨_,rfl,h⟩;clear h;have h:=h';clear h';simp only[QBJ,QGM,QC5,QC3,QJS,QJR,QJQ,QIR,QIP,QGW,QBW,QBY,QBw,QDS,QCD]at hF;simp only[execOp];split at hF
  ·rename_i e q n c hu hx
   split at hF
   ·rename_i l u m sz hl hh hm hsz
    subst hF;obtain⟨hc,h⟩:=QAI h;obtain⟨h0,h1,h2,h3,h⟩:=h;refine all _ h fun w=>QBS ?_;have h3':m≤(c:Int):=h3;have hm1:=fun code=>QGh hm P w c code (by omega) h3';have hu1:=fun code=>QGh hh P w m.toNat code (by omega) (by omega);have hl1:=fun code=>QGh hl P w u.toNat code h0 (by omega);simp only[Int.toNat_natCast,Int.toNat_zero]at hm1 hu1 hl1
    have hmc:mx=none→m=c:=fun e=>by subst e;simp[bnd]at hm;exact hm.symm
    simp only[Instr.sliceAt,Instr.slice,Instr.sliceBounds,Sem.run_bind,run_underlying hu,Result.andThen_ok,hx]
    cases mx with
    | none=>
     obtain rfl:=hmc rfl;simp only[Option.map_none,Sem.run_pure,Option.isSome_none,Bool.false_eq_true,if_false,if_true];have hu1:=hu1 .sliceAcap;have hl1:=hl1 .sliceB
     cases hi<;>cases lo<;>simp only[Option.map_none,Option.map_some,Sem.run_pure,Int.toNat_natCast]at hu1 hl1⊢ <;> (try simp only[hu1,hl1,Result.andThen_ok,QD0 hsz,Sem.run_bind,Sem.run_pure,Sl.cut]) <;>
      (try (cases hu1)) <;> (try (cases hl1))<;>simp_all
    | some mo=>
     cases hi with
     | none=>simp at hc
     | some ho=>
      have hm1:=hm1 .slice3Acap;have hu1:=hu1 .slice3B;have hl1:=hl1 .slice3C;cases lo<;>simp only[Option.map_none,Option.map_some,Sem.run_pure,Option.isSome_some,if_true]at hm1 hu1 hl1⊢ <;> simp only[hm1,hu1,hl1,Result.andThen_ok,QD0 hsz,Sem.run_bind,Sem.run_pure,Sl.cut] <;> simp_all
   ·subst hF;exact h.elim
  ·rename_i s hu hx
   split at hF
   ·rename_i l u hl hh
    subst hF;obtain⟨h0,h1,h2,h⟩:=h;refine all _ h fun w=>QBS ?_;have hu1:=fun code=>QGh hh P w s.size code (by omega) h2;have hl1:=fun code=>QGh hl P w u.toNat code h0 (by omega);simp only[Int.toNat_natCast,Int.toNat_zero]at hu1 hl1;simp only[Instr.sliceAt,Instr.slice,Instr.sliceBounds,Sem.run_bind,run_underlying hu,Result.andThen_ok,hx];have hu1:=hu1 .sliceAlen;have hl1:=hl1 .sliceB;cases hi<;>cases lo<;>simp only[Option.map_none,Option.map_some,Sem.run_pure,Option.isSome_none,Bool.false_eq_true,if_false]at hu1 hl1⊢ <;> (try simp only[hu1,hl1,Result.andThen_ok,Sem.run_pure])<;>simp_all
   ·subst hF;exact h.elim
  ·rename_i n e a hu hx
   split at hF
   ·rename_i sz hsz
    subst hF;refine all _ h fun w=>QBS ?_;simp[Instr.sliceAt,Instr.sliceBounds,Sem.run_bind,run_underlying hu,Result.andThen_ok,hx,Instr.sureAddr,QD0 hsz];intro _;simp[Addr.add]
   ·subst hF;exact h.elim
  ·subst hF;exact h.elim
 | binOp op xt x y yt=>
  obtain⟨F,hF,h'⟩:∃F,QBJ P _ ρ K=F∧F w:=⟨_,rfl,h⟩;clear h;have h:=h';clear h';simp only[QBJ,QGM,QC5,QC3,QJS,QJR,QJQ,QIR,QIP,QGW,QBW,QBY,QBw,QDS,QCD]at hF;split at hF<;>subst hF
  ·rename_i k m k' m' hx hy
   obtain⟨hk0,h0,h2⟩:=QAI h;have hk1:=of_decide_eq_true hk0;subst hk1;refine all _ h2 fun w=>?_;simp only[execOp,hx,hy];refine QBS ?_;simp only[eqGuard_quo,binOp_quo,Op.intDiv,Sem.run_bind,Sem.run_pure,Result.andThen_ok,Sem.run_ite];rw[if_neg h0]
  ·rename_i k m k' m' hx hy
   obtain⟨hk0,h0,h2⟩:=QAI h;have hk1:=of_decide_eq_true hk0;subst hk1;refine all _ h2 fun w=>?_;simp only[execOp,hx,hy];refine QBS ?_;simp only[eqGuard_rem,binOp_rem,Op.intDiv,Sem.run_bind,Sem.run_pure,Result.andThen_ok,Sem.run_ite];rw[if_neg h0]
  ·rename_i k m k' m' hx hy
   obtain⟨h0,h⟩:=h;refine all _ h fun w=>?_;simp only[execOp,hx,hy];refine QBS ?_;simp only[eqGuard_shl,binOp_shl,Op.shift,Sem.run_bind,Sem.run_pure,Result.andThen_ok,Sem.run_ite];rw[if_neg (by omega)]
  ·rename_i k m k' m' hx hy
   obtain⟨h0,h⟩:=h;refine all _ h fun w=>?_;simp only[execOp,hx,hy];refine QBS ?_;simp only[eqGuard_shr,binOp_shr,Op.shift,Sem.run_bind,Sem.run_pure,Result.andThen_ok,Sem.run_ite];rw[if_neg (by omega)]
  ·rename_i s s' hx hy
   obtain⟨hle,h⟩:=h;refine all _ h fun w=>?_;simp only[execOp,hx,hy];refine QBS ?_;simp only[eqGuard_add,binOp,Op.stringOp,Sem.run_bind,Sem.run_pure,Result.andThen_ok,Sem.run_ite];rw[if_neg (by simp only[IntKind.max_i64];omega)]
  ·cases hy:QUd y with
   | false=>
    rw[hy]at h;simp only[cond_false]at h
    cases hk:Qdo P xt y with
    | some f=>
     rw[hk]at h;obtain⟨b,hv,h⟩:=h
     exact all _ h fun w=>by simp only[execOp];exact QBS (QUa (x:=x) hk hv ρ w).1
    | none=>
     rw[hk]at h
     cases hb:QQK P xt (ev ρ x) (ev ρ y) with
     | none=>rw[hb]at h;exact hpure h
     | some b=>
      rw[hb]at h
      exact all _ h fun w=>by simp only[execOp];exact QBS (QSI hb w).1
   | true=>
    rw[hy]at h;simp only[cond_true]at h
    cases hb:QSo P xt (ev ρ x) with
    | none=>rw[hb]at h;exact hpure h
    | some b=>
     rw[hb]at h;obtain⟨hy',h⟩:=QAI h
     exact all _ h fun w=>by simp only[execOp];exact QBS (QSJ (x:=x) hb (ρ:=ρ) hy' w).1
  ·cases hy:QUd y with
   | false=>
    rw[hy]at h;simp only[cond_false]at h
    cases hk:Qdo P xt y with
    | some f=>
     rw[hk]at h;obtain⟨b,hv,h⟩:=h
     exact all _ h fun w=>by simp only[execOp];exact QBS (QUa (x:=x) hk hv ρ w).2
    | none=>
     rw[hk]at h
     cases hb:QQK P xt (ev ρ x) (ev ρ y) with
     | none=>rw[hb]at h;exact hpure h
     | some b=>
      rw[hb]at h
      exact all _ h fun w=>by simp only[execOp];exact QBS (QSI hb w).2
   | true=>
    rw[hy]at h;simp only[cond_true]at h
    cases hb:QSo P xt (ev ρ x) with
    | none=>rw[hb]at h;exact hpure h
    | some b=>
     rw[hb]at h;obtain⟨hy',h⟩:=QAI h
     exact all _ h fun w=>by simp only[execOp];exact QBS (QSJ (x:=x) hb (ρ:=ρ) hy' w).2
  ·exact hpure h
 | pick c x y=>
  simp only[QBJ,QGM,QC5,QC3,QJS,QJR,QJQ,QIR,QIP,QGW,QBW,QBY,QBw,QDS,QCD]at h;cases hc:ev ρ c<;>rw[hc]at h<;>try exact h.elim
  rename_i b
  simp only[execOp];refine all _ h fun w=>?_;simp only[execOp];rw[hc,QPG,QPZ];simp only[asBool,Sem.run_bind,Sem.run_pure,Result.andThen_ok]
 | call c=>
  simp only[QBJ,QGM,QC5,QC3,QJS,QJR,QJQ,QIR,QIP,QGW,QBW,QBY,QBw,QDS,QCD]at h
  cases hc:c.callee with
  | value f=>simp[QDm,hc]at hnul
  | invoke r m=>simp[QDm,hc]at hnul
  | builtin b=>
   rw[hc]at h;obtain⟨F,hF,h'⟩:∃F:WP,_=F∧F w:=⟨_,rfl,h⟩;clear h;have h:=h';clear h'
   have hargs:∀l,c.args.toList=l→c.args=l.toArray:=fun l e=>by rw[←e]
   have htys:∀l,c.argTypes.toList=l→c.argTypes=l.toArray:=fun l e=>by rw[←e]
   cases b<;>simp only at hF <;> (try (subst hF;exact hpure h)) <;> (try (simp[QDm,hc]at hnul;done))
   ·-- cap
    split at hF
    ·rename_i t x ht hx
     split at hF<;>subst hF
     ·rename_i hu hv
      refine all _ h fun w=>?_;simp[execOp,resolve,hc,invoke,builtin,Builtin.cap_,hargs _ hx,htys _ ht,run_underlying hu,hv,goInt]
     ·exact hpure h
    ·subst hF;exact hpure h
   ·-- len
    split at hF
    ·rename_i t x ht hx
     split at hF<;>subst hF
     ·rename_i hu hv
      refine all _ h fun w=>?_;simp[execOp,resolve,hc,invoke,builtin,Builtin.len_,hargs _ hx,htys _ ht,run_underlying hu,hv,goInt]
     ·rename_i hu hv
      refine all _ h fun w=>?_;simp[execOp,resolve,hc,invoke,builtin,Builtin.len_,hargs _ hx,htys _ ht,run_underlying hu,hv,goInt]
     ·rename_i hu
      refine all _ h fun w=>?_;simp[execOp,resolve,hc,invoke,builtin,Builtin.len_,hargs _ hx,htys _ ht,run_underlying hu,goInt]
     ·exact hpure h
    ·subst hF;exact hpure h
   ·-- max
    split at hF
    ·rename_i x y hx
     split at hF<;>subst hF
     ·rename_i ha hb
      refine all _ h fun w=>?_;simp[execOp,resolve,hc,invoke,builtin,Builtin.max_,Builtin.max2,hargs _ hx,ha,hb]
     ·exact hpure h
    ·rename_i x y z hx
     split at hF<;>subst hF
     ·rename_i ha hb hz
      obtain⟨hk,h3⟩:=QAI h;simp only[Bool.and_eq_true,decide_eq_true_eq]at hk;obtain⟨rfl,rfl⟩:=hk;refine all _ h3 fun w=>?_;simp[execOp,resolve,hc,invoke,builtin,Builtin.max_,Builtin.max2,hargs _ hx,ha,hb,hz]
     ·exact hpure h
    ·subst hF;exact hpure h
   ·-- min
    split at hF
    ·rename_i x y hx
     split at hF<;>subst hF
     ·rename_i ha hb
      refine all _ h fun w=>?_;simp[execOp,resolve,hc,invoke,builtin,Builtin.min_,Builtin.min2,hargs _ hx,ha,hb]
     ·exact hpure h
    ·rename_i x y z hx
     split at hF<;>subst hF
     ·rename_i ha hb hz
      obtain⟨hk,h3⟩:=QAI h;simp only[Bool.and_eq_true,decide_eq_true_eq]at hk;obtain⟨rfl,rfl⟩:=hk;refine all _ h3 fun w=>?_;simp[execOp,resolve,hc,invoke,builtin,Builtin.min_,Builtin.min2,hargs _ hx,ha,hb,hz] <;> rfl
     ·exact hpure h
    ·subst hF;exact hpure h
 | build t parts=>
  simp only[QBJ,QGM,QC5,QC3,QJS,QJR,QJQ,QIR,QIP,QGW,QBW,QBY,QBw,QDS,QCD]at h
  cases hb:QVA P t (QML ρ parts.toList) with
  | none=>rw[hb]at h;exact h.elim
  | some cs=>
   rw[hb]at h;refine all _ h fun w=>?_;simp only[execOp];refine QBS (QXI ?_ w);rw[QQG];exact hb
 | field t x f=>
  obtain⟨F,hF,h'⟩:∃F,QBJ P _ ρ K=F∧F w:=⟨_,rfl,h⟩;clear h;have h:=h';clear h';simp only[QBJ,QGM,QC5,QC3,QJS,QJR,QJQ,QIR,QIP,QGW,QBW,QBY,QBw,QDS,QCD]at hF;split at hF
  ·rename_i fs cs hu hx
   cases hfd:fs.toList[f]? with
   | none=>rw[hfd]at hF;subst hF;exact h.elim
   | some fd=>
   rw[hfd]at hF
   have hfd':fs[f]? = some fd:=by simpa using hfd
   simp only at hF
   cases hagg:QBj P fd.type with
   | true=>
    rw[hagg]at hF;simp only[cond_true]at hF;obtain⟨d,hd⟩:=QCk hagg
    cases hs:QHj P fd.type with
    | none=>rw[hs]at hF;subst hF;exact h.elim
    | some n=>
     rw[hs]at hF;subst hF;refine all _ h fun w=>?_;simp only[execOp,Instr.field,hx,asAgg,part,Sem.run_bind,run_underlying hu,Result.andThen_ok,hfd',Sem.run_pure,QB4 hd,hagg,if_true,QD0 hs];congr 4;apply Array.ext';simp[List.extract_eq_take_drop]
   | false=>
    rw[hagg]at hF;simp only[cond_false]at hF;split at hF<;>subst hF
    ·rename_i d v hd hv
     have hv':cs[fd.offset]? = some v:=by simpa using hv
     refine all _ h fun w=>?_;simp only[execOp,Instr.field,hx,asAgg,part,Sem.run_bind,run_underlying hu,Result.andThen_ok,hfd',Sem.run_pure,QB4 hd,hagg,Bool.false_eq_true,if_false,hv']
    ·exact h.elim
  ·subst hF;exact h.elim
 | convert sT dT x=>
  obtain⟨F,hF,h'⟩:∃F,QBJ P _ ρ K=F∧F w:=⟨_,rfl,h⟩;clear h;have h:=h';clear h';simp only[QBJ,QGM,QC5,QC3,QJS,QJR,QJQ,QIR,QIP,QGW,QBW,QBY,QBw,QDS,QCD]at hF;split at hF
  ·rename_i e hs' hd2
   simp[QDm,hs',hd2]at hnul
  ·rename_i e hs' hd2
   simp[QDm,hs',hd2]at hnul
  ·subst hF;exact hpure h
 | store t x y=>simp[QDm]at hnul
 | alloc e=>simp[QDm]at hnul
 | box e x=>simp[QDm]at hnul
 | buildSlice t n ps=>simp[QDm]at hnul
 | makeSlice t x y=>simp[QDm]at hnul
 | lookup t x i ok=>simp[QDm]at hnul
 | mapUpdate t m k x=>simp[QDm]at hnul
 | makeMap t r=>simp[QDm]at hnul
 | range t x=>simp[QDm]at hnul
 | next t x=>simp[QDm]at hnul
 | move x=>
  simp only[QBJ,QBw,QCD]at h;exact all _ h fun _=>rfl
 | assign x=>
  simp only[QBJ,QBw,QCD]at h;exact all _ h fun _=>rfl
 | fieldAddr t x f=>
  simp only[QBJ,QDS,QCD]at h;exact hpure h
 | _=>simp only[QBJ,QCD]at h;exact hpure h
def QKk(ρ:Env)(o:Oper):Bool:=match o.op with
 | .call c=>(QGm ρ c.callee).isSome
 | _=>false
theorem QS7{rn:Option Nat}{ρ:Env}{a:Act}{o:Oper}{K:Env→WP}{next:Act→World→Prop}{Q:Exit→Act→World→Prop}
  (hs:∀cs b,o.op≠.select cs b) (hev:∀x∈o.op.operands,a.eval x=ev ρ x) (hy:QKk ρ o=true) (h:QBJ P o ρ K w)
  (hk:∀v w',K (put ρ o.dst v) w'→next (a.put o.dst v) w'):o.wpIn (FF rn) 0 P a w next Q:=by
 obtain⟨dst,op,type,pos,after,guard⟩:=o;have he:execOp a.eval ⟨dst,op,type,pos,after,guard⟩=execOp (ev ρ) ⟨dst,op,type,pos,after,guard⟩:=execOp_congr _ hs hev;have fin:∀v w',K (put ρ dst v) w'→next (a.put dst v) w':=hk;unfold QKk at hy
 cases op with
 | call c=>
  simp only at hy;simp only[QBJ,QGM,QC5,QC3,QJS,QJR,QJQ,QIR,QIP,QGW,QBW,QBY,QBw,QDS,QCD]at h
  cases hc:c.callee with
  | value f=>
   rw[hc]at h hy;simp only[callee,QGm]at h hy;cases hv:ev ρ f<;>rw[hv]at h hy<;>try (cases hy;done)
   rename_i fn first cap
   cases fn<;>try (cases hy;done)
   rename_i l
   simp only at h;generalize QfZ P type=r at h;obtain⟨r1,ss⟩:=r
   cases r1 with
   | agg=>exact h.elim
   | tup l=>exact h.elim
   | one=>
    cases ss with
    | nil=>exact h.elim
    | cons s ss=>
     cases ss with
     | cons _ _=>cases s<;>exact h.elim
     | nil=>
      cases s<;>try exact h.elim
      obtain⟨fn,tmps,assign,body,hr,hR⟩:=h;refine⟨fun _ _=>trivial,?_⟩;rw[Oper.semAt_eq _ _ _ (by simp),he]
      have e:(first.toList++c.args.toList.map (ev ρ)).toArray=first++c.args.map (ev ρ):=by apply Array.ext';simp
      rw[e]at hr
      have hx:(execOp (ev ρ) ⟨dst,.call c,type,pos,after,guard⟩).run P w=.ok (.round l fn tmps assign body) w:=by
       simp only[execOp,resolve,hc,Deferred.ofValue,hv,invoke,Sem.run_bind,Sem.run_pure,Result.andThen_ok];exact hr
      rw[hx];refine⟨fun h=>(by cases h),?_⟩;refine RoundIn.mono (F:=FF rn) hR ?_;rintro e w' ⟨b,rfl,hK⟩;exact fin _ _ hK
  | invoke r m=>rw[hc]at hy;cases hy
  | builtin b=>rw[hc]at hy;cases hy
 | _=>cases hy
set_option maxHeartbeats 1000000 in
theorem QPC{rn:Option Nat}{ρ:Env}{a:Act}{o:Oper}{K:Env→WP}{next:Act→World→Prop}{Q:Exit→Act→World→Prop}
  (hn:QI5 P) (hp:∀w',Pan.q w'→Q (.panic Pan.ch) a w') (hs:∀cs b,o.op≠.select cs b) (hev:∀x∈o.op.operands,a.eval x=ev ρ x) (h:QBJ P o ρ K w)
  (hk:∀v w',K (put ρ o.dst v) w'→next (a.put o.dst v) w'):o.wpIn (FF rn) 0 P a w next Q:=by
 rcases Bool.eq_false_or_eq_true (QKk ρ o) with hy|hy
 ·exact QS7 hs hev hy h hk
 obtain⟨dst,op,type,pos,after,guard⟩:=o;have he:execOp a.eval ⟨dst,op,type,pos,after,guard⟩=execOp (ev ρ) ⟨dst,op,type,pos,after,guard⟩:=execOp_congr _ hs hev;have fin:∀v w',K (put ρ dst v) w'→next (a.put dst v) w':=hk;refine QHH (fun c e=>?_) ?_
 ·simp only at e;subst e
  cases hnul:QDm P ⟨dst,.defer c,type,pos,after,guard⟩ with
  | false=>simp[QDm]at hnul
  | true=>
   obtain⟨v,_,hr,_⟩:=QLY hnul h;simp only[execOp,Sem.run_bind]at hr
   cases hres:(resolve (ev ρ) c type).run P w with
   | ok d w'=>rw[hres]at hr;simp only[Result.andThen_ok,Sem.run_pure]at hr;cases hr
   | halt x w'=>rw[hres]at hr;cases hr
 unfold Oper.wp;rw[he]
 cases hnul:QDm P ⟨dst,op,type,pos,after,guard⟩ with
 | true=>
  obtain⟨v,hK,hr,_⟩:=QLY hnul h;rw[hr];exact fin _ _ hK
 | false=>
  cases op with
  | store t x y=>
   simp only[QBJ,QGM,QC5,QC3,QJS,QJR,QJQ,QIR,QIP,QGW,QBW,QBY,QBw,QDS,QCD]at h;simp only[execOp];cases hx:ev ρ x<;>rw[hx]at h<;>try exact h.elim
   rename_i q
   cases q with
   | none=>exact h.elim
   | some ad=>
   simp only at h
   cases hsz:QHj P t with
   | none=>rw[hsz]at h;exact h.elim
   | some n=>
    rw[hsz]at h;obtain⟨hb,h⟩:=QAI h;have hb:=Nat.eq_of_beq_eq_true hb;obtain⟨w',hv,h⟩:=QQz (P:=P) _ _ _ _ _ h;refine QSE (w':=w') ?_ (fin _ _ h);simp only[Instr.storeAt,Instr.sureAddr,Sem.run_bind,Sem.run_pure,Result.andThen_ok,storeVar,QD0 hsz,Sem.run_ite];rw[if_neg (by simp only[Array.length_toList]at hb;omega)];exact hv
  | alloc e=>
   simp only[QBJ,QGM,QC5,QC3,QJS,QJR,QJQ,QIR,QIP,QGW,QBW,QBY,QBw,QDS,QCD]at h;simp only[execOp]
   cases hi:P.info? e with
   | none=>rw[hi]at h;exact h.elim
   | some i=>
    rw[hi]at h;simp only[Option.bind_some]at h
    cases hz:i.zero with
    | none=>rw[hz]at h;exact h.elim
    | some z=>
     rw[hz]at h;refine QCd (w':=w.alloc (.cells z.cells e)) ?_ (fin _ _ h);simp[Instr.alloc,zeroValue,QVU hi,hz,newVar,newRow]
  | box e x=>
   simp only[QBJ,QGM,QC5,QC3,QJS,QJR,QJQ,QIR,QIP,QGW,QBW,QBY,QBw,QDS,QCD]at h;simp only[execOp];refine QCd (w':=w.alloc (.cells (ev ρ x).cells e)) ?_ (fin _ _ h);simp[Instr.box,newVar,newRow]
  | call c=>
   simp only[QBJ,QGM,QC5,QC3,QJS,QJR,QJQ,QIR,QIP,QGW,QBW,QBY,QBw,QDS,QCD]at h
   cases hc:c.callee with
   | value f=>
    rw[hc]at h;simp only[callee,QGm]at h;cases hv:ev ρ f<;>rw[hv]at h<;>try exact h.elim
    rename_i fn first cap
    cases fn<;>try exact h.elim
    case yield l=>simp only[QKk,hc,QGm,hv]at hy;cases hy
    rename_i g
    simp only at h
    have e:(first.toList++c.args.toList.map (ev ρ)++cap.toList).toArray=first++c.args.map (ev ρ)++cap:=by
     apply Array.ext';simp
    cases hb:QB8 P g with
    | false=>
     rw[hb]at h;simp only[cond_false]at h;generalize QfZ P type=r at h;obtain⟨r1,ss⟩:=r
     cases r1 with
     | agg=>exact h.elim
     | tup l=>exact h.elim
     | one=>
      cases ss with
      | nil=>exact h.elim
      | cons s ss=>
       cases ss with
       | cons _ _=>exact h.elim
       | nil=>
        obtain⟨x,w',hr',h⟩:=h;rw[e]at hr'
        have hx:(execOp (ev ρ) ⟨dst,.call c,type,pos,after,guard⟩).run P w=.ok (.value (s.mk x)) w':=by
         simp only[execOp,resolve,hc,Deferred.ofValue,hv,invoke,Sem.run_bind,Sem.run_pure,Result.andThen_ok];exact hr'
        rw[hx];exact fin _ _ h
    | true=>
    rw[hb]at h;simp only[cond_true]at h
    have hx:(execOp (ev ρ) ⟨dst,.call c,type,pos,after,guard⟩).run P w=.ok (.enter g (first++c.args.map (ev ρ)++cap)) w:=by
     unfold QB8 at hb
     cases hg:P.funcs[g]? with
     | none=>rw[hg]at hb;cases hb
     | some fd=>
      rw[hg]at hb;have hnm:=hn g fd hg
      have hbn:fd.body.isNone=false:=by cases hbb:fd.body<;>simp_all
      simp only[execOp,resolve,hc,Deferred.ofValue,hv,invoke,callFunc,Sem.run_bind,Sem.run_pure,Result.andThen_ok,run_program,hg,hnm,hbn,Bool.false_eq_true,if_false]
    rw[hx];simp only[Oper.upon]
    have e:(first.toList++c.args.toList.map (ev ρ)++cap.toList).toArray=first++c.args.map (ev ρ)++cap:=by
     apply Array.ext';simp
    cases hm:Pan.may g with
    | false=>
     rw[hm]at h;simp only[cond_false]at h;unfold QAb QK5 at h;rw[e]at h;refine h.mono ?_;rintro e w' ⟨t,rfl,hK⟩;rw[Cur.app_of]at hK;exact fin _ _ hK
    | true=>
     rw[hm]at h;simp only[cond_true]at h;unfold QGI QIB at h;rw[e]at h;refine h.mono ?_;rintro e w' (⟨t,rfl,hK⟩|⟨rfl,hq⟩)
     ·rw[Cur.app_of]at hK;exact fin _ _ hK
     ·exact hp _ hq
   | invoke r m=>rw[hc]at h;exact h.elim
   | builtin b=>
    rw[hc]at h
    have hargs:c.args.map (ev ρ)=(c.args.toList.map (ev ρ)).toArray:=by apply Array.ext';simp
    cases b <;> (try (simp[QDm,hc]at hnul;done))
    ·obtain⟨s,w',hr,h⟩:=h
     have hx:(execOp (ev ρ) ⟨dst,.call c,type,pos,after,guard⟩).run P w=.ok (.value s.v) w':=by
      rw[←hargs]at hr;simp only[execOp,resolve,hc,Sem.run_bind,Sem.run_pure,Result.andThen_ok,invoke,builtin,hr]
     rw[hx];exact fin _ _ h
    ·obtain⟨s,w',hr,h⟩:=h
     have hx:(execOp (ev ρ) ⟨dst,.call c,type,pos,after,guard⟩).run P w=.ok (.value s) w':=by
      rw[←hargs]at hr;simp only[execOp,resolve,hc,Sem.run_bind,Sem.run_pure,Result.andThen_ok,invoke,builtin,hr]
     rw[hx];exact fin _ _ h
    ·obtain⟨s,w',hr,h⟩:=h
     have hx:(execOp (ev ρ) ⟨dst,.call c,type,pos,after,guard⟩).run P w=.ok (.value (.int .i64 s)) w':=by
      rw[←hargs]at hr;simp only[execOp,resolve,hc,Sem.run_bind,Sem.run_pure,Result.andThen_ok,invoke,builtin,hr]
     rw[hx];exact fin _ _ h
  | buildSlice t len parts=>
   obtain⟨F,hF,h'⟩:∃F,QBJ P _ ρ K=F∧F w:=⟨_,rfl,h⟩;clear h;have h:=h';clear h';simp only[QBJ,QGM,QC5,QC3,QJS,QJR,QJQ,QIR,QIP,QGW,QBW,QBY,QBw,QDS,QCD]at hF;split at hF
   ·rename_i e hu
    split at hF
    ·rename_i n z hs hz
     subst hF;obtain⟨hb,h⟩:=QAI h;simp only[Bool.and_eq_true]at hb
     cases hfl:QNO (fun i=>some (i*n,n)) (QIQ z len) (QML ρ parts.toList) with
     | none=>rw[hfl]at h;exact h.elim
     | some cs=>
      rw[hfl]at h;simp only[execOp];refine QCd (QMZ hu hs hz (Nat.le_of_ble_eq_true hb.1) (Nat.eq_of_beq_eq_true hb.2) ?_ w) (fin _ _ h);rw[QQG];exact hfl
    ·subst hF;exact h.elim
   ·subst hF;exact h.elim
  | makeSlice t x y=>
   simp only[QBJ,QCD]at h;obtain⟨s,w',hr,h⟩:=h;simp only[execOp];exact QCd hr (fin _ _ h)
  | makeMap t r=>
   simp only[QBJ,QCD]at h;obtain⟨s,w',hr,h⟩:=h;simp only[execOp];exact QCd hr (fin _ _ h)
  | range t x=>
   simp only[QBJ,QGM,QC5,QC3,QJS,QJR,QJQ,QIR,QIP,QGW,QBW,QBY,QBw,QDS,QCD]at h;simp only[execOp]
   cases ht:P.underlying t with
   | none=>rw[ht]at h;exact h.elim
   | some d=>
    rw[ht]at h;cases d<;>try exact h.elim
    obtain⟨s,w',hr,h⟩:=h;exact QCd hr (fin _ _ h)
  | next it s=>
   simp only[QBJ,QGM,QC5,QC3,QJS,QJR,QJQ,QIR,QIP,QGW,QBW,QBY,QBw,QDS,QCD]at h;simp only[execOp];obtain⟨hs,h⟩:=QAI h;subst hs;obtain⟨v',w',hr,⟨rfl,h⟩|⟨i,c,rfl,h⟩⟩:=h
   ·exact QCd hr (fin _ _ h)
   ·exact QCd hr (fin _ _ h)
  | mapUpdate t m k x=>
   simp only[QBJ,QCD]at h;obtain⟨w',hr,h⟩:=h;simp only[execOp];exact QSE hr (fin _ _ h)
  | lookup t x i ok=>
   simp only[QBJ,QGM,QC5,QC3,QJS,QJR,QJQ,QIR,QIP,QGW,QBW,QBY,QBw,QDS,QCD]at h;simp only[execOp]
   cases ht:P.underlying t with
   | none=>rw[ht]at h;exact h.elim
   | some d=>
    rw[ht]at h;cases d<;>try exact h.elim
    rename_i k e
    simp only at h
    cases hs:QBX P 20 e with
    | nil=>rw[hs]at h;exact h.elim
    | cons s ss=>
     cases ss with
     | cons _ _=>rw[hs]at h;exact h.elim
     | nil=>
      rw[hs]at h;simp only at h;obtain⟨_,h⟩:=QAI h
      cases ok with
      | true=>
       obtain⟨v,b,w',hr,h⟩:=h;exact QCd hr (fin _ _ h)
      | false=>
       obtain⟨v,w',hr,h⟩:=h;exact QCd hr (fin _ _ h)
  | convert sT dT x=>
   obtain⟨F,hF,h'⟩:∃F,QBJ P _ ρ K=F∧F w:=⟨_,rfl,h⟩;clear h;have h:=h';clear h';simp only[QBJ,QGM,QC5,QC3,QJS,QJR,QJQ,QIR,QIP,QGW,QBW,QBY,QBw,QDS,QCD]at hF;split at hF
   ·rename_i e hs' hd2
    subst hF;obtain⟨s,w',hr,h⟩:=h;simp only[execOp];exact QCd hr (fin _ _ h)
   ·rename_i e hs' hd2
    subst hF;obtain⟨s,w',hr,h⟩:=h;simp only[execOp];exact QCd hr (fin _ _ h)
   ·subst hF;simp only[QDm]at hnul;exact absurd hnul (by simp)
  | _=>simp[QDm]at hnul
theorem QTZ{rn:Option Nat}{ds:List Deferred}{N:Nat}{ρ:Env}{a:Act}{o:Oper}{K:Env→WP}{next:Act→World→Prop}{Q:Exit→Act→World→Prop}
  (hn:QI5 P) (hp:∀w',Pan.q w'→Q (.panic Pan.ch) a w') (hf:Fits N ds ρ a) (hok:QSO N ρ o=true) (h:QBJ P o ρ K w)
  (hk:∀v w',K (put ρ o.dst v) w'→next (a.put o.dst v) w'):o.wpIn (FF rn) 0 P a w next Q:=by
 simp only[QSO,Bool.and_eq_true,List.all_eq_true]at hok;obtain⟨⟨hall,_⟩,hs⟩:=hok;exact QPC hn hp (fun cs b e=>by rw[e]at hs;simp at hs) (fun x hx=>hf.eval (hall x (by simpa using hx))) h hk
end ops
end Go.Cf
