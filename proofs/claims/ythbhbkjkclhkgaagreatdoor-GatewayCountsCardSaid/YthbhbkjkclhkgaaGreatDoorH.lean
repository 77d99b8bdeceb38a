/-
The names of this seat's functions and types, and what is so of its program.
-/
import Derived.Test.YthbhbkjkclhkgaaGreatDoorW
import Derived.Test.YthbhbkjkclhkgaaGreatDoorProg
open Go Go.Cf
namespace Go.Cx
noncomputable abbrev Pr:Program:=Go.Proofs.Tryz.prog
theorem QQR:QHG Pr:=QdH Kr
theorem mixed:Pr.follows .mixedOrders=true:=Kr
instance:QJH Pr 145 34 1 24 [.slice none 0 0]:=⟨Kr,Kr⟩
instance:QJH Pr 441 438 1 8 [.pointer none]:=⟨Kr,Kr⟩
instance:QJH Pr 116 95 2 16 [.I 0,.bool false]:=⟨Kr,Kr⟩
instance:QJH Pr 117 131 8 112 [.I 0,.I 0,.I 0,.I 0,.I 0,.slice none 0 0,.slice none 0 0,.slice none 0 0]:=⟨Kr,Kr⟩
instance:QJH Pr 115 414 3 24 [.bool false,.I 0,.I 0]:=⟨Kr,Kr⟩
instance:QJH Pr 386 376 2 16 [.I 0,.I 0]:=⟨Kr,Kr⟩
instance:QJH Pr 58 202 2 32 [.I 0,.slice none 0 0]:=⟨Kr,Kr⟩
instance:QJH Pr 126 222 3 24 [.I 0,.I 0,.I 0]:=⟨Kr,Kr⟩
instance:QJH Pr 113 163 6 64 [.I 0,.I 0,.I 0,.I 0,.I 0,.slice none 0 0]:=⟨Kr,Kr⟩
instance:QJH Pr 114 165 3 24 [.I 0,.I 0,.I 0]:=⟨Kr,Kr⟩
instance:QJH Pr 25 105 19 128 [.string ByteArray.empty,.I 0,.I 0,.I 0,.I 0,.bool false,.bool false,.bool false,.I 0,.I 0,.I 0,.I 0,.I 0,.bool false,.bool false,.bool false,.I 0,.I 0,.I 0]:=⟨Kr,Kr⟩
instance:QJH Pr 124 4 1 1 [.bool false]:=⟨Kr,Kr⟩
instance:QJH Pr 134 140 3 48 [.string ByteArray.empty,.slice none 0 0,.I 0]:=⟨Kr,Kr⟩
instance:QJH Pr 161 3 1 8 [.I 0]:=⟨Kr,Kr⟩
instance:QJH Pr 142 147 4 48 [.I 0,.I 0,.I 0,.slice none 0 0]:=⟨Kr,Kr⟩
instance:QJH Pr 61 9 1 16 [.string ByteArray.empty]:=⟨Kr,Kr⟩
instance:QJH Pr 125 215 1 2 [.int .u16 0]:=⟨Kr,Kr⟩
instance:QJH Pr 34 5 1 1 [.int .u8 0]:=⟨Kr,Kr⟩
instance:Qg3 Pr 310 (.I) 0:=⟨3,3,Kr,Kr,Kr⟩
/-- The functions that may end in the one panic; the panic; what catches it. -/
def QkG:Af:=[129,149,151,152,198,233,234,127,153,154,239]
def QC1:List PanicEntry:=[{ v:=.iface 323 (.agg #[]),recovered:=false }]
def QV7(Q:WP):id Pan:=⟨fun g=>QB5 g QkG,Q,QC1⟩
instance:QiI QC1 QV7:=⟨fun _=>rfl,fun _=>rfl⟩
def QJJ:QX5:=⟨126,323,10⟩
abbrev QGA(Q:WP)(f:FuncId)(args:Ad)(rs:Rs)(ss:List Sh)(K:Cur ss):WP:=@QGy (QV7 Q) Pr f args rs ss K
theorem amk{α:Type}(l:List α):Array.mk l=l.toArray:=rfl
theorem adz(a:Addr):a.add 0=a:=rfl
theorem ngs(s:Sl):Value.slice s.p s.n s.c=s.v:=rfl
theorem nse(s:Sl):Sl.mk s.p s.n s.c=s:=rfl
theorem Qhq (b:Bool):QGu b=(!b):=rfl
theorem Qh4 (a b:Bool):QVz a b=((a&&b)):=rfl
theorem QjM (a b:Bool):vOr a b=((a||b)):=rfl
theorem Qg9 (x a b:Bool):QZJ x a b=((bif x then a else b)):=rfl
theorem Qjm (x y:Int):vEq x y=((x == y)):=rfl
theorem Qjy (x y:Int):vNe x y=((x != y)):=rfl
theorem QjR (x y:Int):vLt x y=(decide (x<y)):=rfl
theorem Qji (x y:Int):vLe x y=(decide (x<=y)):=rfl
theorem Qjp (x y:Int):vGt x y=(decide (x>y)):=rfl
theorem Qjz (x y:Int):vGe x y=(decide (x>=y)):=rfl
theorem Qgk (k:IntKind)(x y:Int):QcC k x y=(k.wrap (x+y)):=rfl
theorem Qgj (k:IntKind)(x y:Int):QbV k x y=(k.wrap (x - y)):=rfl
theorem Qh0 (k:IntKind)(x y:Int):Qb8 k x y=(k.wrap (x*y)):=rfl
theorem Qeh (k:IntKind)(x y:Int):QCx k x y=(k.wrap (x.tdiv y)):=rfl
theorem QeU (x y:Int):QCu x y=(x.tmod y):=rfl
theorem QhM (k:IntKind)(x y:Int):QIl k x y=(k.wrap (x*2 ^ (min y.toNat k.bits))):=rfl
theorem QiD (k:IntKind)(x y:Int):QIj k x y=(x.fdiv (2 ^ (min y.toNat k.bits))):=rfl
theorem Qec (k:IntKind)(x:Int):QOJ k x=(k.wrap x):=rfl
theorem QhJ (n:Nat):QFq n=((n:Int)):=rfl
theorem Qhe (a b:Int):QIK a b=(if b<a then b else a):=rfl
theorem Qhi (a b:Int):QIL a b=(if b>a then b else a):=rfl
theorem Qho (a b:Bool):QZF a b=((a == b)):=rfl
theorem QhA (a b:ByteArray):QbC a b=((a == b)):=rfl
theorem Qh8 (a b:ByteArray):QI9 a b=(a++b):=rfl
theorem Qjj (a b:ByteArray):tEq a b=((a.toList == b.toList)):=rfl
theorem Qjk (a b:ByteArray):tLt a b=(Op.bytesLess a.toList b.toList):=rfl
theorem vAt(b:Bool):QVz true b=b:=rfl
theorem vAf(b:Bool):QVz false b=false:=rfl
theorem vOt(b:Bool):vOr true b=true:=rfl
theorem vOf(b:Bool):vOr false b=b:=rfl
theorem vIt(a b:Bool):QZJ true a b=a:=rfl
theorem vIe(a b:Bool):QZJ false a b=b:=rfl
theorem QeX(o:BinOp)(k:IntKind)(x y:Int):QN7 o k x y=bits o k x y:=rfl
theorem bae:ByteArray.mk #[]=ByteArray.empty:=rfl
theorem adm(b o k:Nat):Addr.add ⟨b,o,none⟩ (k+1)=⟨b,o+(k+1),none⟩:=rfl
theorem ad1(a:Addr)(i:Nat):(a.add (i+1)).add 1=a.add (i+1+1):=rfl
theorem ad2(a:Addr)(i:Nat):(a.add (i+1)).add 2=a.add (i+1+2):=rfl
theorem ad3(a:Addr)(i:Nat):(a.add (i+1)).add 3=a.add (i+1+3):=rfl
theorem ad4(a:Addr)(i:Nat):(a.add (i+1)).add 4=a.add (i+1+4):=rfl
theorem ad5(a:Addr)(i:Nat):(a.add (i+1)).add 5=a.add (i+1+5):=rfl
theorem ad6(a:Addr)(i:Nat):(a.add (i+1)).add 6=a.add (i+1+6):=rfl
theorem ad7(a:Addr)(i:Nat):(a.add (i+1)).add 7=a.add (i+1+7):=rfl
theorem ad8(a:Addr)(i:Nat):(a.add (i+1)).add 8=a.add (i+1+8):=rfl
theorem ad9(a:Addr)(i:Nat):(a.add (i+1)).add 9=a.add (i+1+9):=rfl
theorem Qjg(a:Addr)(i:Nat):(a.add (i+1)).add 10=a.add (i+1+10):=rfl
theorem Qjc(a:Addr)(i:Nat):(a.add (i+1)).add 11=a.add (i+1+11):=rfl
theorem Qjx(a:Addr)(i:Nat):(a.add (i+1)).add 12=a.add (i+1+12):=rfl
theorem QjT(a:Addr)(i:Nat):(a.add (i+1)).add 13=a.add (i+1+13):=rfl
theorem Qjo(a:Addr)(i:Nat):(a.add (i+1)).add 14=a.add (i+1+14):=rfl
theorem QjQ(a:Addr)(i:Nat):(a.add (i+1)).add 15=a.add (i+1+15):=rfl
theorem Qjh(a:Addr)(i:Nat):(a.add (i+1)).add 16=a.add (i+1+16):=rfl
theorem Qjq(a:Addr)(i:Nat):(a.add (i+1)).add 17=a.add (i+1+17):=rfl
theorem QjL(a:Addr)(i:Nat):(a.add (i+1)).add 18=a.add (i+1+18):=rfl
theorem Qjw(a:Addr)(i:Nat):(a.add (i+1)).add 19=a.add (i+1+19):=rfl
theorem QjN(a:Addr)(i:Nat):(a.add (i+1)).add 20=a.add (i+1+20):=rfl

def P'(s:Sl):Ac:=s.p
def N'(s:Sl):Nat:=s.n
def C'(s:Sl):Nat:=s.c
theorem prp(s:Sl):Sl.p s=P' s:=rfl
theorem prn(s:Sl):Sl.n s=N' s:=rfl
theorem prc(s:Sl):Sl.c s=C' s:=rfl
theorem qrp(s:Sl):P' s=Sl.p s:=rfl
theorem qrn(s:Sl):N' s=Sl.n s:=rfl
theorem qrc(s:Sl):C' s=Sl.c s:=rfl
abbrev Fm(fn:Func)(dp:Af)(args:Ad)(ss:List Sh)(R:Cur ss):={φ:WP//∀C:WP->Prop,C φ->C (wpF Pr dp (QLm Pr fn) fn args ss R)}
theorem cf{f:FuncId}{fn:Func}{dp:Af}{args:Ad}{rs:Rs}{ss:List Sh}{R:Cur ss}{w:World}(F:Fm fn dp args ss R)(a:Pr.funcs[f]? = some fn)(b:QAW Pr fn.resultTypes.toList=(rs,ss))(h:F.1 w):QAX Pr f args rs ss R w:=QLv QQR mixed a b (F.2 (fun φ=>φ w) h)
theorem sp0{f:FuncId}{fn:Func}{dp:Af}{args:Ad}{rs:Rs}{pre:List HP}{rd:HP}{post:Tup []->List HP->Prop}(F:∀K:WP,Fm fn dp args [] K)(h:∀B:QBJ,rd (frz B.W B.h0)->Ent B pre (F (Ret B post ())).1)(a:Pr.funcs[f]? = some fn:=by kernel_rfl)(b:QAW Pr fn.resultTypes.toList=(rs,[]):=by kernel_rfl):Ct Pr f args rs [] pre rd post:=QAm (ss:=[]) (φ:=fun K=>(F K).1) (fun h=>cf _ a b h) h
theorem sp1{f:FuncId}{fn:Func}{dp:Af}{args:Ad}{rs:Rs}{s:Sh}{pre:List HP}{rd:HP}{post:Tup [s]->List HP->Prop}(F:∀K:s.ty->WP,Fm fn dp args [s] K)(h:∀B:QBJ,rd (frz B.W B.h0)->Ent B pre (F (fun z0=>Ret B post (z0,()))).1)(a:Pr.funcs[f]? = some fn:=by kernel_rfl)(b:QAW Pr fn.resultTypes.toList=(rs,[s]):=by kernel_rfl):Ct Pr f args rs [s] pre rd post:=QAm (ss:=[s]) (φ:=fun K=>(F K).1) (fun h=>cf _ a b h) h
theorem sp2{f:FuncId}{fn:Func}{dp:Af}{args:Ad}{rs:Rs}{s:Sh}{t:Sh}{pre:List HP}{rd:HP}{post:Tup [s,t]->List HP->Prop}(F:∀K:s.ty->t.ty->WP,Fm fn dp args [s,t] K)(h:∀B:QBJ,rd (frz B.W B.h0)->Ent B pre (F (fun z0 a=>Ret B post (z0,a,()))).1)(b:Pr.funcs[f]? = some fn:=by kernel_rfl)(c:QAW Pr fn.resultTypes.toList=(rs,[s,t]):=by kernel_rfl):Ct Pr f args rs [s,t] pre rd post:=QAm (ss:=[s,t]) (φ:=fun K=>(F K).1) (fun h=>cf _ b c h) h
theorem sp3{f:FuncId}{fn:Func}{dp:Af}{args:Ad}{rs:Rs}{s:Sh}{t:Sh}{u:Sh}{pre:List HP}{rd:HP}{post:Tup [s,t,u]->List HP->Prop}(F:∀K:s.ty->t.ty->u.ty->WP,Fm fn dp args [s,t,u] K)(h:∀B:QBJ,rd (frz B.W B.h0)->Ent B pre (F (fun z0 a z2=>Ret B post (z0,a,z2,()))).1)(b:Pr.funcs[f]? = some fn:=by kernel_rfl)(c:QAW Pr fn.resultTypes.toList=(rs,[s,t,u]):=by kernel_rfl):Ct Pr f args rs [s,t,u] pre rd post:=QAm (ss:=[s,t,u]) (φ:=fun K=>(F K).1) (fun h=>cf _ b c h) h
theorem sp4{f:FuncId}{fn:Func}{dp:Af}{args:Ad}{rs:Rs}{s:Sh}{t:Sh}{u:Sh}{v:Sh}{pre:List HP}{rd:HP}{post:Tup [s,t,u,v]->List HP->Prop}(F:∀K:s.ty->t.ty->u.ty->v.ty->WP,Fm fn dp args [s,t,u,v] K)(h:∀B:QBJ,rd (frz B.W B.h0)->Ent B pre (F (fun z0 a z2 z3=>Ret B post (z0,a,z2,z3,()))).1)(b:Pr.funcs[f]? = some fn:=by kernel_rfl)(c:QAW Pr fn.resultTypes.toList=(rs,[s,t,u,v]):=by kernel_rfl):Ct Pr f args rs [s,t,u,v] pre rd post:=QAm (ss:=[s,t,u,v]) (φ:=fun K=>(F K).1) (fun h=>cf _ b c h) h
theorem sp5{f:FuncId}{fn:Func}{dp:Af}{args:Ad}{rs:Rs}{s:Sh}{t:Sh}{u:Sh}{v:Sh}{x:Sh}{pre:List HP}{rd:HP}{post:Tup [s,t,u,v,x]->List HP->Prop}(F:∀K:s.ty->t.ty->u.ty->v.ty->x.ty->WP,Fm fn dp args [s,t,u,v,x] K)(h:∀B:QBJ,rd (frz B.W B.h0)->Ent B pre (F (fun z0 a z2 z3 z4=>Ret B post (z0,a,z2,z3,z4,()))).1)(b:Pr.funcs[f]? = some fn:=by kernel_rfl)(c:QAW Pr fn.resultTypes.toList=(rs,[s,t,u,v,x]):=by kernel_rfl):Ct Pr f args rs [s,t,u,v,x] pre rd post:=QAm (ss:=[s,t,u,v,x]) (φ:=fun K=>(F K).1) (fun h=>cf _ b c h) h
theorem sp6{f:FuncId}{fn:Func}{dp:Af}{args:Ad}{rs:Rs}{s:Sh}{t:Sh}{u:Sh}{v:Sh}{x:Sh}{y:Sh}{pre:List HP}{rd:HP}{post:Tup [s,t,u,v,x,y]->List HP->Prop}(F:∀K:s.ty->t.ty->u.ty->v.ty->x.ty->y.ty->WP,Fm fn dp args [s,t,u,v,x,y] K)(h:∀B:QBJ,rd (frz B.W B.h0)->Ent B pre (F (fun z0 a z2 z3 z4 z5=>Ret B post (z0,a,z2,z3,z4,z5,()))).1)(b:Pr.funcs[f]? = some fn:=by kernel_rfl)(c:QAW Pr fn.resultTypes.toList=(rs,[s,t,u,v,x,y]):=by kernel_rfl):Ct Pr f args rs [s,t,u,v,x,y] pre rd post:=QAm (ss:=[s,t,u,v,x,y]) (φ:=fun K=>(F K).1) (fun h=>cf _ b c h) h
theorem sp7{f:FuncId}{fn:Func}{dp:Af}{args:Ad}{rs:Rs}{s:Sh}{t:Sh}{u:Sh}{v:Sh}{x:Sh}{y:Sh}{z:Sh}{pre:List HP}{rd:HP}{post:Tup [s,t,u,v,x,y,z]->List HP->Prop}(F:∀K:s.ty->t.ty->u.ty->v.ty->x.ty->y.ty->z.ty->WP,Fm fn dp args [s,t,u,v,x,y,z] K)(h:∀B:QBJ,rd (frz B.W B.h0)->Ent B pre (F (fun z0 a z2 z3 z4 z5 b=>Ret B post (z0,a,z2,z3,z4,z5,b,()))).1)(c:Pr.funcs[f]? = some fn:=by kernel_rfl)(d:QAW Pr fn.resultTypes.toList=(rs,[s,t,u,v,x,y,z]):=by kernel_rfl):Ct Pr f args rs [s,t,u,v,x,y,z] pre rd post:=QAm (ss:=[s,t,u,v,x,y,z]) (φ:=fun K=>(F K).1) (fun h=>cf _ c d h) h
def mf{fn:Func}{dp:Af}{args:Ad}{ss:List Sh}{R:Cur ss}(φ:WP)(h:∀C:WP->Prop,C φ->C (wpF Pr dp (QLm Pr fn) fn args ss R):=by
 intro C h
 conv=>arg 1;reduce
 try dsimp only[prp,prn,prc]
 try dsimp only[qrp,qrn,qrc]
 try dsimp only[vAt,vAf,vOt,vOf,vIt,vIe,Sh.ty,Qhq,Qh4,QjM,Qg9,Qjm,Qjy,QjR,Qji,Qjp,Qjz,Qgk,Qgj,Qh0,Qeh,QeU,QhM,QiD,Qec,QhJ,Qhe,Qhi,Qho,QhA,Qh8,Qjj,Qjk,amk,adz,ngs,nse,Int.reduceOfNat,Int.reduceNegSucc,Int.cast_ofNat_Int,IntKind.bits,QeX,bae,adm,UInt8.reduceOfNat,Nat.reduceAdd,Bool.true_and,Bool.false_and,Bool.true_or,Bool.false_or,ad1,ad2,ad3,ad4,ad5,ad6,ad7,ad8,ad9,Qjg,Qjc,Qjx,QjT,Qjo,QjQ,Qjh,Qjq,QjL,Qjw,QjN]
 exact h):Fm fn dp args ss R:=⟨φ,h⟩
abbrev FmP(fn:Func)(dp:Af)(args:Ad)(ss:List Sh)(Q:WP)(R:Cur ss):={φ:WP//∀C:WP->Prop,C φ->C (@wpF (QV7 Q) Pr dp (@QLm (QV7 Q) Pr fn) fn args ss R)}
theorem cfP{f:FuncId}{fn:Func}{dp:Af}{args:Ad}{rs:Rs}{ss:List Sh}{Q:WP}{R:Cur ss}{w:World}(F:FmP fn dp args ss Q R)(a:Pr.funcs[f]? = some fn)(b:QAW Pr fn.resultTypes.toList=(rs,ss))(h:F.1 w):@QGy (QV7 Q) Pr f args rs ss R w:=@QZq (QV7 Q) Pr QQR mixed f fn a dp args rs ss b R w (F.2 (fun φ=>φ w) h)
theorem QfU{f:FuncId}{fn:Func}{dp:Af}{args:Ad}{rs:Rs}{pre:List HP}{rd:HP}{post:Tup []->List HP->Prop}{a:List HP->Prop}(F:∀(Q:WP)(K:WP),FmP fn dp args [] Q K)(h:∀B:QBJ,rd (frz B.W B.h0)->Ent B pre (F (Qeg B a) (Ret B post ())).1)(b:Pr.funcs[f]? = some fn:=by kernel_rfl)(c:QAW Pr fn.resultTypes.toList=(rs,[]):=by kernel_rfl):CtP QC1 Pr f args rs [] pre rd post a:=QJX (pan:=QV7) (ss:=[]) (φ:=fun Q K=>(F Q K).1) (fun h=>cfP _ b c h) h
theorem QkQ{f:FuncId}{fn:Func}{dp:Af}{args:Ad}{rs:Rs}{s:Sh}{pre:List HP}{rd:HP}{post:Tup [s]->List HP->Prop}{a:List HP->Prop}(F:∀(Q:WP)(K:s.ty->WP),FmP fn dp args [s] Q K)(h:∀B:QBJ,rd (frz B.W B.h0)->Ent B pre (F (Qeg B a) (fun z0=>Ret B post (z0,()))).1)(b:Pr.funcs[f]? = some fn:=by kernel_rfl)(c:QAW Pr fn.resultTypes.toList=(rs,[s]):=by kernel_rfl):CtP QC1 Pr f args rs [s] pre rd post a:=QJX (pan:=QV7) (ss:=[s]) (φ:=fun Q K=>(F Q K).1) (fun h=>cfP _ b c h) h
def mfP{fn:Func}{dp:Af}{args:Ad}{ss:List Sh}{Q:WP}{R:Cur ss}(φ:WP)(h:∀C:WP->Prop,C φ->C (@wpF (QV7 Q) Pr dp (@QLm (QV7 Q) Pr fn) fn args ss R):=by
 intro C h
 conv=>arg 1;reduce
 try dsimp only[prp,prn,prc]
 try dsimp only[qrp,qrn,qrc]
 try dsimp only[vAt,vAf,vOt,vOf,vIt,vIe,Sh.ty,Qhq,Qh4,QjM,Qg9,Qjm,Qjy,QjR,Qji,Qjp,Qjz,Qgk,Qgj,Qh0,Qeh,QeU,QhM,QiD,Qec,QhJ,Qhe,Qhi,Qho,QhA,Qh8,Qjj,Qjk,amk,adz,ngs,nse,Int.reduceOfNat,Int.reduceNegSucc,Int.cast_ofNat_Int,IntKind.bits,QeX,bae,adm,UInt8.reduceOfNat,Nat.reduceAdd,Bool.true_and,Bool.false_and,Bool.true_or,Bool.false_or,ad1,ad2,ad3,ad4,ad5,ad6,ad7,ad8,ad9,Qjg,Qjc,Qjx,QjT,Qjo,QjQ,Qjh,Qjq,QjL,Qjw,QjN]
 exact h):FmP fn dp args ss Q R:=⟨φ,h⟩
abbrev gI(b o:Nat)(K:Int->WP):WP:=QAn (.I) ⟨b,o,none⟩ K
abbrev gS(b o:Nat)(K:Sl->WP):WP:=QAn .slice ⟨b,o,none⟩ K
abbrev gT(b o:Nat)(K:ByteArray->WP):WP:=QAn .str ⟨b,o,none⟩ K
abbrev gB(b o:Nat)(K:Bool->WP):WP:=QAn .bool ⟨b,o,none⟩ K
abbrev sI(b o:Nat)(x:Int)(K:WP):WP:=QBE ⟨b,o,none⟩ (.I x) K
abbrev sS(b o:Nat)(s:Sl)(K:WP):WP:=QBE ⟨b,o,none⟩ s.v K
abbrev sT(b o:Nat)(t:ByteArray)(K:WP):WP:=QBE ⟨b,o,none⟩ (.string t) K
abbrev sZ(b o:Nat)(K:WP):WP:=QBE ⟨b,o,none⟩ (.slice none 0 0) K
abbrev hI(a:Addr)(o:Nat)(K:Int->WP):WP:=QAn (.I) (a.add o) K
abbrev hS(a:Addr)(o:Nat)(K:Sl->WP):WP:=QAn .slice (a.add o) K
abbrev qI(a:Addr)(K:Int->WP):WP:=QAn (.I) a K
abbrev qS(a:Addr)(K:Sl->WP):WP:=QAn .slice a K
abbrev cB(f:FuncId)(l:Ad)(K:Bool->WP):WP:=QAX Pr f l .one [.bool] K
abbrev cI(f:FuncId)(l:Ad)(K:Int->WP):WP:=QAX Pr f l .one [.I] K
abbrev cS(f:FuncId)(l:Ad)(K:Sl->WP):WP:=QAX Pr f l .one [.slice] K
abbrev cE(f:FuncId)(l:Ad)(K:Sl->Int->WP):WP:=QAX Pr f l (.tup [none,none]) [.slice,.I] K
abbrev jB(c:(Bool->WP)->WP)(K:Bool->WP):WP:=QBW [.bool] c K
theorem xc{f:FuncId}(fn:Func)(dp:Af){args:Ad}{rs:Rs}{ss:List Sh}{R:Cur ss}{w:World}{φ:WP}(a:Pr.funcs[f]? = some fn)(b:QAW Pr fn.resultTypes.toList=(rs,ss))(e:wpF Pr dp (QLm Pr fn) fn args ss R=φ)(h:φ w):QAX Pr f args rs ss R w:=
 QLv QQR mixed a b (by rw[e];exact h)
end Go.Cx
