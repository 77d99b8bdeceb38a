import Derived.Test.YthbhbkjkclhkgaaGreatDoorW
import Derived.Test.YthbhbkjkclhkgaaGreatDoorProg
namespace Go.Cx
open Go Go.Cf
noncomputable abbrev Pr:Program:=Go.Proofs.Tryz.prog
theorem QQN:QI5 Pr:=QbV (by kernel_rfl)
theorem mixed:Pr.follows .mixedOrders=true:=by kernel_rfl
instance:QIH Pr 145 34 1 24 [.slice none 0 0]:=⟨by kernel_rfl,by kernel_rfl⟩
instance:QIH Pr 441 438 1 8 [.pointer none]:=⟨by kernel_rfl,by kernel_rfl⟩
instance:QIH Pr 116 95 2 16 [.I 0,.bool false]:=⟨by kernel_rfl,by kernel_rfl⟩
instance:QIH Pr 117 131 8 112 [.I 0,.I 0,.I 0,.I 0,.I 0,.slice none 0 0,.slice none 0 0,.slice none 0 0]:=⟨by kernel_rfl,by kernel_rfl⟩
instance:QIH Pr 115 414 3 24 [.bool false,.I 0,.I 0]:=⟨by kernel_rfl,by kernel_rfl⟩
instance:QIH Pr 386 376 2 16 [.I 0,.I 0]:=⟨by kernel_rfl,by kernel_rfl⟩
instance:QIH Pr 58 202 2 32 [.I 0,.slice none 0 0]:=⟨by kernel_rfl,by kernel_rfl⟩
instance:QIH Pr 126 222 3 24 [.I 0,.I 0,.I 0]:=⟨by kernel_rfl,by kernel_rfl⟩
instance:QIH Pr 113 163 6 64 [.I 0,.I 0,.I 0,.I 0,.I 0,.slice none 0 0]:=⟨by kernel_rfl,by kernel_rfl⟩
instance:QIH Pr 114 165 3 24 [.I 0,.I 0,.I 0]:=⟨by kernel_rfl,by kernel_rfl⟩
instance:QIH Pr 25 105 19 128 [.string ByteArray.empty,.I 0,.I 0,.I 0,.I 0,.bool false,.bool false,.bool false,.I 0,.I 0,.I 0,.I 0,.I 0,.bool false,.bool false,.bool false,.I 0,.I 0,.I 0]:=⟨by kernel_rfl,by kernel_rfl⟩
instance:QIH Pr 124 4 1 1 [.bool false]:=⟨by kernel_rfl,by kernel_rfl⟩
instance:QIH Pr 134 140 3 48 [.string ByteArray.empty,.slice none 0 0,.I 0]:=⟨by kernel_rfl,by kernel_rfl⟩
instance:QIH Pr 161 3 1 8 [.I 0]:=⟨by kernel_rfl,by kernel_rfl⟩
instance:QIH Pr 142 147 4 48 [.I 0,.I 0,.I 0,.slice none 0 0]:=⟨by kernel_rfl,by kernel_rfl⟩
instance:QIH Pr 61 9 1 16 [.string ByteArray.empty]:=⟨by kernel_rfl,by kernel_rfl⟩
instance:QIH Pr 125 215 1 2 [.int .u16 0]:=⟨by kernel_rfl,by kernel_rfl⟩
instance:QIH Pr 34 5 1 1 [.int .u8 0]:=⟨by kernel_rfl,by kernel_rfl⟩
instance:QfG Pr 310 (.I) 0:=⟨3,3,by kernel_rfl,by kernel_rfl,by kernel_rfl⟩
def Qg6:List Nat:=[129,149,151,152,198,233,234,127,153,154,239]
def QCl:List PanicEntry:=[{ v:=.iface 323 (.agg #[]),recovered:=false }]
def QUX(Q:WP):id Pan:=⟨fun g=>QBy g Qg6,Q,QCl⟩
instance:Qfb QCl QUX:=⟨fun _=>rfl,fun _=>rfl⟩
def QIc:QVx:=⟨126,323,10⟩
abbrev QFK(Q:WP)(f:FuncId)(args:List Value)(rs:Rs)(ss:List Sh)(K:Cur ss):WP:=@QGI (QUX Q) Pr f args rs ss K
theorem amk{α:Type}(l:List α):Array.mk l=l.toArray:=rfl
theorem adz(a:Addr):a.add 0=a:=rfl
theorem ngs(s:Sl):Value.slice s.p s.n s.c=s.v:=rfl
theorem nse(s:Sl):Sl.mk s.p s.n s.c=s:=rfl
theorem QeG (b:Bool):QGW b=(!b):=rfl
theorem QfB (a b:Bool):QZk a b=((a&&b)):=rfl
theorem Qgg (a b:Bool):vOr a b=((a||b)):=rfl
theorem QfN (x a b:Bool):Qah x a b=((bif x then a else b)):=rfl
theorem QgY (x y:Int):vEq x y=((x == y)):=rfl
theorem QgZ (x y:Int):vNe x y=((x != y)):=rfl
theorem Qgi (x y:Int):vLt x y=(decide (x<y)):=rfl
theorem Qgo (x y:Int):vLe x y=(decide (x≤y)):=rfl
theorem Qgk (x y:Int):vGt x y=(decide (x>y)):=rfl
theorem Qgw (x y:Int):vGe x y=(decide (x≥y)):=rfl
theorem Qey (k:IntKind)(x y:Int):Qcr k x y=(k.wrap (x+y)):=rfl
theorem Qee (k:IntKind)(x y:Int):QcV k x y=(k.wrap (x - y)):=rfl
theorem QeD (k:IntKind)(x y:Int):Qdg k x y=(k.wrap (x*y)):=rfl
theorem QcY (k:IntKind)(x y:Int):QC5 k x y=(k.wrap (x.tdiv y)):=rfl
theorem QcM (x y:Int):QC3 x y=(x.tmod y):=rfl
theorem Qdy (k:IntKind)(x y:Int):QJS k x y=(k.wrap (x*2 ^ (min y.toNat k.bits))):=rfl
theorem QeC (k:IntKind)(x y:Int):QJR k x y=(x.fdiv (2 ^ (min y.toNat k.bits))):=rfl
theorem Qb3 (k:IntKind)(x:Int):QTa k x=(k.wrap x):=rfl
theorem Qe9 (n:Nat):QGM n=((n:Int)):=rfl
theorem QeU (a b:Int):QIR a b=(if b<a then b else a):=rfl
theorem QeE (a b:Int):QIP a b=(if b>a then b else a):=rfl
theorem Qew (a b:Bool):QZ6 a b=((a == b)):=rfl
theorem Qej (a b:ByteArray):QcT a b=((a == b)):=rfl
theorem Qd7 (a b:ByteArray):QJQ a b=(a++b):=rfl
theorem Qga (a b:ByteArray):tEq a b=((a.toList == b.toList)):=rfl
theorem Qgc (a b:ByteArray):tLt a b=(Op.bytesLess a.toList b.toList):=rfl
theorem vAt(b:Bool):QZk true b=b:=rfl
theorem vAf(b:Bool):QZk false b=false:=rfl
theorem vOt(b:Bool):vOr true b=true:=rfl
theorem vOf(b:Bool):vOr false b=b:=rfl
theorem vIt(a b:Bool):Qah true a b=a:=rfl
theorem vIe(a b:Bool):Qah false a b=b:=rfl
theorem Qcb(o:BinOp)(k:IntKind)(x y:Int):QRD o k x y=bits o k x y:=rfl
theorem bae:ByteArray.mk #[]=ByteArray.empty:=rfl
theorem adm(b o k:Nat):Addr.add ⟨b,o,none⟩ (k+1)=⟨b,o+(k+1),none⟩:=rfl
theorem ad1(a:Addr)(i:Nat):(a.add (i+1)).add 1=a.add (i+1+1):=rfl
theorem ad2(a:Addr)(i:Nat):(a.add (i+1)).add 2=a.add (i+1+2):=rfl
theorem ad3(a:Addr)(i:Nat):(a.add (i+1)).add 3=a.add (i+1+3):=rfl
theorem ad4(a:Addr)(i:Nat):(a.add (i+1)).add 4=a.add (i+1+4):=rfl
theorem ad5(a:Addr)(i:Nat):(a.add (i+1)).add 5=a.add (i+1+5):=rfl
theorem ad6(a:Addr)(i:Nat):(a.add (i+1)).add 6=a.add (i+1+6):=rfl
theorem ad7(a:Addr)(i:Nat):(a.add (i+1)).add 7=a.add (i+1+7):=rfl
theorem ad8(a:Addr)(i:Nat):(a.add (i+1)).add 8=a.add (i+1+8):=rfl
theorem ad9(a:Addr)(i:Nat):(a.add (i+1)).add 9=a.add (i+1+9):=rfl
theorem Qgl(a:Addr)(i:Nat):(a.add (i+1)).add 10=a.add (i+1+10):=rfl
theorem QgW(a:Addr)(i:Nat):(a.add (i+1)).add 11=a.add (i+1+11):=rfl
theorem Qge(a:Addr)(i:Nat):(a.add (i+1)).add 12=a.add (i+1+12):=rfl
theorem QgS(a:Addr)(i:Nat):(a.add (i+1)).add 13=a.add (i+1+13):=rfl
theorem QgR(a:Addr)(i:Nat):(a.add (i+1)).add 14=a.add (i+1+14):=rfl
theorem Qgr(a:Addr)(i:Nat):(a.add (i+1)).add 15=a.add (i+1+15):=rfl
theorem Qgu(a:Addr)(i:Nat):(a.add (i+1)).add 16=a.add (i+1+16):=rfl
theorem Qgt(a:Addr)(i:Nat):(a.add (i+1)).add 17=a.add (i+1+17):=rfl
theorem QgV(a:Addr)(i:Nat):(a.add (i+1)).add 18=a.add (i+1+18):=rfl
theorem Qgf(a:Addr)(i:Nat):(a.add (i+1)).add 19=a.add (i+1+19):=rfl
theorem Qgs(a:Addr)(i:Nat):(a.add (i+1)).add 20=a.add (i+1+20):=rfl

def P'(s:Sl):Option Addr:=s.p
def N'(s:Sl):Nat:=s.n
def C'(s:Sl):Nat:=s.c
theorem prp(s:Sl):Sl.p s=P' s:=rfl
theorem prn(s:Sl):Sl.n s=N' s:=rfl
theorem prc(s:Sl):Sl.c s=C' s:=rfl
theorem qrp(s:Sl):P' s=Sl.p s:=rfl
theorem qrn(s:Sl):N' s=Sl.n s:=rfl
theorem qrc(s:Sl):C' s=Sl.c s:=rfl
abbrev Fm(fn:Func)(dp:List Nat)(args:List Value)(ss:List Sh)(R:Cur ss):={φ:WP//∀C:WP→Prop,C φ→C (wpF Pr dp (QPX Pr fn) fn args ss R)}
theorem cf{f:FuncId}{fn:Func}{dp:List Nat}{args:List Value}{rs:Rs}{ss:List Sh}{R:Cur ss}{w:World}(F:Fm fn dp args ss R)(hf:Pr.funcs[f]? = some fn)(hrs:QAc Pr fn.resultTypes.toList=(rs,ss))(h:F.1 w):QAb Pr f args rs ss R w:=QIV QQN mixed hf hrs (F.2 (fun φ=>φ w) h)
theorem sp0{f:FuncId}{fn:Func}{dp:List Nat}{args:List Value}{rs:Rs}{pre:List HP}{rd:HP}{post:Tup []→List HP→Prop}(F:∀K:WP,Fm fn dp args [] K)(h:∀B:QBE,rd (frz B.W B.h0)→Ent B pre (F (Ret B post ())).1)(hf:Pr.funcs[f]? = some fn:=by kernel_rfl)(hrs:QAc Pr fn.resultTypes.toList=(rs,[]):=by kernel_rfl):Ct Pr f args rs [] pre rd post:=QAg (ss:=[]) (φ:=fun K=>(F K).1) (fun h=>cf _ hf hrs h) h
theorem sp1{f:FuncId}{fn:Func}{dp:List Nat}{args:List Value}{rs:Rs}{s:Sh}{pre:List HP}{rd:HP}{post:Tup [s]→List HP→Prop}(F:∀K:s.ty→WP,Fm fn dp args [s] K)(h:∀B:QBE,rd (frz B.W B.h0)→Ent B pre (F (fun z0=>Ret B post (z0,()))).1)(hf:Pr.funcs[f]? = some fn:=by kernel_rfl)(hrs:QAc Pr fn.resultTypes.toList=(rs,[s]):=by kernel_rfl):Ct Pr f args rs [s] pre rd post:=QAg (ss:=[s]) (φ:=fun K=>(F K).1) (fun h=>cf _ hf hrs h) h
theorem sp2{f:FuncId}{fn:Func}{dp:List Nat}{args:List Value}{rs:Rs}{s:Sh}{t:Sh}{pre:List HP}{rd:HP}{post:Tup [s,t]→List HP→Prop}(F:∀K:s.ty→t.ty→WP,Fm fn dp args [s,t] K)(h:∀B:QBE,rd (frz B.W B.h0)→Ent B pre (F (fun z0 z1=>Ret B post (z0,z1,()))).1)(hf:Pr.funcs[f]? = some fn:=by kernel_rfl)(hrs:QAc Pr fn.resultTypes.toList=(rs,[s,t]):=by kernel_rfl):Ct Pr f args rs [s,t] pre rd post:=QAg (ss:=[s,t]) (φ:=fun K=>(F K).1) (fun h=>cf _ hf hrs h) h
theorem sp3{f:FuncId}{fn:Func}{dp:List Nat}{args:List Value}{rs:Rs}{s:Sh}{t:Sh}{u:Sh}{pre:List HP}{rd:HP}{post:Tup [s,t,u]→List HP→Prop}(F:∀K:s.ty→t.ty→u.ty→WP,Fm fn dp args [s,t,u] K)(h:∀B:QBE,rd (frz B.W B.h0)→Ent B pre (F (fun z0 z1 z2=>Ret B post (z0,z1,z2,()))).1)(hf:Pr.funcs[f]? = some fn:=by kernel_rfl)(hrs:QAc Pr fn.resultTypes.toList=(rs,[s,t,u]):=by kernel_rfl):Ct Pr f args rs [s,t,u] pre rd post:=QAg (ss:=[s,t,u]) (φ:=fun K=>(F K).1) (fun h=>cf _ hf hrs h) h
theorem sp4{f:FuncId}{fn:Func}{dp:List Nat}{args:List Value}{rs:Rs}{s:Sh}{t:Sh}{u:Sh}{v:Sh}{pre:List HP}{rd:HP}{post:Tup [s,t,u,v]→List HP→Prop}(F:∀K:s.ty→t.ty→u.ty→v.ty→WP,Fm fn dp args [s,t,u,v] K)(h:∀B:QBE,rd (frz B.W B.h0)→Ent B pre (F (fun z0 z1 z2 z3=>Ret B post (z0,z1,z2,z3,()))).1)(hf:Pr.funcs[f]? = some fn:=by kernel_rfl)(hrs:QAc Pr fn.resultTypes.toList=(rs,[s,t,u,v]):=by kernel_rfl):Ct Pr f args rs [s,t,u,v] pre rd post:=QAg (ss:=[s,t,u,v]) (φ:=fun K=>(F K).1) (fun h=>cf _ hf hrs h) h
theorem sp5{f:FuncId}{fn:Func}{dp:List Nat}{args:List Value}{rs:Rs}{s:Sh}{t:Sh}{u:Sh}{v:Sh}{x:Sh}{pre:List HP}{rd:HP}{post:Tup [s,t,u,v,x]→List HP→Prop}(F:∀K:s.ty→t.ty→u.ty→v.ty→x.ty→WP,Fm fn dp args [s,t,u,v,x] K)(h:∀B:QBE,rd (frz B.W B.h0)→Ent B pre (F (fun z0 z1 z2 z3 z4=>Ret B post (z0,z1,z2,z3,z4,()))).1)(hf:Pr.funcs[f]? = some fn:=by kernel_rfl)(hrs:QAc Pr fn.resultTypes.toList=(rs,[s,t,u,v,x]):=by kernel_rfl):Ct Pr f args rs [s,t,u,v,x] pre rd post:=QAg (ss:=[s,t,u,v,x]) (φ:=fun K=>(F K).1) (fun h=>cf _ hf hrs h) h
theorem sp6{f:FuncId}{fn:Func}{dp:List Nat}{args:List Value}{rs:Rs}{s:Sh}{t:Sh}{u:Sh}{v:Sh}{x:Sh}{y:Sh}{pre:List HP}{rd:HP}{post:Tup [s,t,u,v,x,y]→List HP→Prop}(F:∀K:s.ty→t.ty→u.ty→v.ty→x.ty→y.ty→WP,Fm fn dp args [s,t,u,v,x,y] K)(h:∀B:QBE,rd (frz B.W B.h0)→Ent B pre (F (fun z0 z1 z2 z3 z4 z5=>Ret B post (z0,z1,z2,z3,z4,z5,()))).1)(hf:Pr.funcs[f]? = some fn:=by kernel_rfl)(hrs:QAc Pr fn.resultTypes.toList=(rs,[s,t,u,v,x,y]):=by kernel_rfl):Ct Pr f args rs [s,t,u,v,x,y] pre rd post:=QAg (ss:=[s,t,u,v,x,y]) (φ:=fun K=>(F K).1) (fun h=>cf _ hf hrs h) h
theorem sp7{f:FuncId}{fn:Func}{dp:List Nat}{args:List Value}{rs:Rs}{s:Sh}{t:Sh}{u:Sh}{v:Sh}{x:Sh}{y:Sh}{z:Sh}{pre:List HP}{rd:HP}{post:Tup [s,t,u,v,x,y,z]→List HP→Prop}(F:∀K:s.ty→t.ty→u.ty→v.ty→x.ty→y.ty→z.ty→WP,Fm fn dp args [s,t,u,v,x,y,z] K)(h:∀B:QBE,rd (frz B.W B.h0)→Ent B pre (F (fun z0 z1 z2 z3 z4 z5 z6=>Ret B post (z0,z1,z2,z3,z4,z5,z6,()))).1)(hf:Pr.funcs[f]? = some fn:=by kernel_rfl)(hrs:QAc Pr fn.resultTypes.toList=(rs,[s,t,u,v,x,y,z]):=by kernel_rfl):Ct Pr f args rs [s,t,u,v,x,y,z] pre rd post:=QAg (ss:=[s,t,u,v,x,y,z]) (φ:=fun K=>(F K).1) (fun h=>cf _ hf hrs h) h
def mf{fn:Func}{dp:List Nat}{args:List Value}{ss:List Sh}{R:Cur ss}(φ:WP)(h:∀C:WP→Prop,C φ→C (wpF Pr dp (QPX Pr fn) fn args ss R):=by
 intro C h
 conv=>arg 1;reduce
 try dsimp only[prp,prn,prc]
 try dsimp only[qrp,qrn,qrc]
 try dsimp only[vAt,vAf,vOt,vOf,vIt,vIe,Sh.ty,QeG,QfB,Qgg,QfN,QgY,QgZ,Qgi,Qgo,Qgk,Qgw,Qey,Qee,QeD,QcY,QcM,Qdy,QeC,Qb3,Qe9,QeU,QeE,Qew,Qej,Qd7,Qga,Qgc,amk,adz,ngs,nse,Int.reduceOfNat,Int.reduceNegSucc,Int.cast_ofNat_Int,IntKind.bits,Qcb,bae,adm,UInt8.reduceOfNat,Nat.reduceAdd,Bool.true_and,Bool.false_and,Bool.true_or,Bool.false_or,ad1,ad2,ad3,ad4,ad5,ad6,ad7,ad8,ad9,Qgl,QgW,Qge,QgS,QgR,Qgr,Qgu,Qgt,QgV,Qgf,Qgs]
 exact h):Fm fn dp args ss R:=⟨φ,h⟩
abbrev FmP(fn:Func)(dp:List Nat)(args:List Value)(ss:List Sh)(Q:WP)(R:Cur ss):={φ:WP//∀C:WP→Prop,C φ→C (@wpF (QUX Q) Pr dp (@QPX (QUX Q) Pr fn) fn args ss R)}
theorem cfP{f:FuncId}{fn:Func}{dp:List Nat}{args:List Value}{rs:Rs}{ss:List Sh}{Q:WP}{R:Cur ss}{w:World}(F:FmP fn dp args ss Q R)(hf:Pr.funcs[f]? = some fn)(hrs:QAc Pr fn.resultTypes.toList=(rs,ss))(h:F.1 w):@QGI (QUX Q) Pr f args rs ss R w:=@QZT (QUX Q) Pr QQN mixed f fn hf dp args rs ss hrs R w (F.2 (fun φ=>φ w) h)
theorem QdA{f:FuncId}{fn:Func}{dp:List Nat}{args:List Value}{rs:Rs}{pre:List HP}{rd:HP}{post:Tup []→List HP→Prop}{ppost:List HP→Prop}(F:∀(Q:WP)(K:WP),FmP fn dp args [] Q K)(h:∀B:QBE,rd (frz B.W B.h0)→Ent B pre (F (Qcf B ppost) (Ret B post ())).1)(hf:Pr.funcs[f]? = some fn:=by kernel_rfl)(hrs:QAc Pr fn.resultTypes.toList=(rs,[]):=by kernel_rfl):CtP QCl Pr f args rs [] pre rd post ppost:=QIr (pan:=QUX) (ss:=[]) (φ:=fun Q K=>(F Q K).1) (fun h=>cfP _ hf hrs h) h
theorem Qg9{f:FuncId}{fn:Func}{dp:List Nat}{args:List Value}{rs:Rs}{s:Sh}{pre:List HP}{rd:HP}{post:Tup [s]→List HP→Prop}{ppost:List HP→Prop}(F:∀(Q:WP)(K:s.ty→WP),FmP fn dp args [s] Q K)(h:∀B:QBE,rd (frz B.W B.h0)→Ent B pre (F (Qcf B ppost) (fun z0=>Ret B post (z0,()))).1)(hf:Pr.funcs[f]? = some fn:=by kernel_rfl)(hrs:QAc Pr fn.resultTypes.toList=(rs,[s]):=by kernel_rfl):CtP QCl Pr f args rs [s] pre rd post ppost:=QIr (pan:=QUX) (ss:=[s]) (φ:=fun Q K=>(F Q K).1) (fun h=>cfP _ hf hrs h) h
def mfP{fn:Func}{dp:List Nat}{args:List Value}{ss:List Sh}{Q:WP}{R:Cur ss}(φ:WP)(h:∀C:WP→Prop,C φ→C (@wpF (QUX Q) Pr dp (@QPX (QUX Q) Pr fn) fn args ss R):=by
 intro C h
 conv=>arg 1;reduce
 try dsimp only[prp,prn,prc]
 try dsimp only[qrp,qrn,qrc]
 try dsimp only[vAt,vAf,vOt,vOf,vIt,vIe,Sh.ty,QeG,QfB,Qgg,QfN,QgY,QgZ,Qgi,Qgo,Qgk,Qgw,Qey,Qee,QeD,QcY,QcM,Qdy,QeC,Qb3,Qe9,QeU,QeE,Qew,Qej,Qd7,Qga,Qgc,amk,adz,ngs,nse,Int.reduceOfNat,Int.reduceNegSucc,Int.cast_ofNat_Int,IntKind.bits,Qcb,bae,adm,UInt8.reduceOfNat,Nat.reduceAdd,Bool.true_and,Bool.false_and,Bool.true_or,Bool.false_or,ad1,ad2,ad3,ad4,ad5,ad6,ad7,ad8,ad9,Qgl,QgW,Qge,QgS,QgR,Qgr,Qgu,Qgt,QgV,Qgf,Qgs]
 exact h):FmP fn dp args ss Q R:=⟨φ,h⟩
abbrev gI(b o:Nat)(K:Int→WP):WP:=QAq (.I) ⟨b,o,none⟩ K
abbrev gS(b o:Nat)(K:Sl→WP):WP:=QAq .slice ⟨b,o,none⟩ K
abbrev gT(b o:Nat)(K:ByteArray→WP):WP:=QAq .str ⟨b,o,none⟩ K
abbrev gB(b o:Nat)(K:Bool→WP):WP:=QAq .bool ⟨b,o,none⟩ K
abbrev sI(b o:Nat)(x:Int)(K:WP):WP:=QBG ⟨b,o,none⟩ (.I x) K
abbrev sS(b o:Nat)(s:Sl)(K:WP):WP:=QBG ⟨b,o,none⟩ s.v K
abbrev sT(b o:Nat)(t:ByteArray)(K:WP):WP:=QBG ⟨b,o,none⟩ (.string t) K
abbrev sZ(b o:Nat)(K:WP):WP:=QBG ⟨b,o,none⟩ (.slice none 0 0) K
abbrev hI(a:Addr)(o:Nat)(K:Int→WP):WP:=QAq (.I) (a.add o) K
abbrev hS(a:Addr)(o:Nat)(K:Sl→WP):WP:=QAq .slice (a.add o) K
abbrev qI(a:Addr)(K:Int→WP):WP:=QAq (.I) a K
abbrev qS(a:Addr)(K:Sl→WP):WP:=QAq .slice a K
abbrev cB(f:FuncId)(l:List Value)(K:Bool→WP):WP:=QAb Pr f l .one [.bool] K
abbrev cI(f:FuncId)(l:List Value)(K:Int→WP):WP:=QAb Pr f l .one [.I] K
abbrev cS(f:FuncId)(l:List Value)(K:Sl→WP):WP:=QAb Pr f l .one [.slice] K
abbrev cE(f:FuncId)(l:List Value)(K:Sl→Int→WP):WP:=QAb Pr f l (.tup [none,none]) [.slice,.I] K
abbrev jB(c:(Bool→WP)→WP)(K:Bool→WP):WP:=QBc [.bool] c K
theorem xc{f:FuncId}(fn:Func)(dp:List Nat){args:List Value}{rs:Rs}{ss:List Sh}{R:Cur ss}{w:World}{φ:WP}(hf:Pr.funcs[f]? = some fn)(hrs:QAc Pr fn.resultTypes.toList=(rs,ss))(e:wpF Pr dp (QPX Pr fn) fn args ss R=φ)(h:φ w):QAb Pr f args rs ss R w:=
 QIV QQN mixed hf hrs (by rw[e];exact h)
end Go.Cx
