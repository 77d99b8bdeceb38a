/-
Records as words.
-/
import Derived.Test.YthbhbkjkclhkgaaGreatDoorT1
import Derived.Test.YthbhbkjkclhkgaaGreatDoorA4
import Derived.Test.YthbhbkjkclhkgaaGreatDoorA3
import Derived.Test.YthbhbkjkclhkgaaGreatDoorFK1
namespace Go.Cx
open Go Go.Cf
set_option linter.unusedVariables false
set_option maxRecDepth 100000
variable {B:QBJ}{As F:List HP}
def W16:Enc Int:=⟨fun x=>[.int .u16 x],1,fun _=>rfl,fun x v h=>by simp at h;subst h;rfl,Dc,0⟩
theorem QDx(b:Sl)(xs:Ab)(v:Nat)(hv:v<18446744073709551616)(A:xs.length<=1048576):Ct Pr 191 [b.v,.int .u64 (v:Int),.I 8] (.tup [none,none]) [.slice,.I] [] (RAr U8 b xs)
  (fun t Bs=>t.2.1=0/\Bs=[Ar U8 t.1 (xs++be8 v)]):=by
 refine sp2 (QWM _ _ _) fun B d=>?_;have x:Fro B b U8 xs:=⟨d⟩;have hb:=d.1;unfold QWM mf;dsimp only;refine QAM (QBH rfl (QAM (QBH rfl (QBH rfl ?_))));rw[show IntKind.i64.wrap ((b.n:Int)+8)=((xs.length+8:Nat):Int) by rw[QAC _ Om Om];omega];refine QbA U8 (xs.length+8) (xs.length+8) Om Om (h:=fun e=>?_);rw[Ur];refine QhV (s:=⟨some ⟨e,0,none⟩,xs.length+8,xs.length+8⟩) (y:=b) (ys:=xs) (fun w g=>?_) (hl:=by simp) (hn:=by simp) (hc:=Wt _) (h:=fun n=>?_)
 ·exact RdA.rd w g
 refine xar ?_;refine QBa (fun n i As=>∃(k:Nat) (ys:Ab),i=(k:Int)/\n=8 - k/\k<=8/\ys.length=xs.length+8/\(∀j,j<xs.length->ys[j]? = xs[j]?)/\(∀j,j<k->ys[xs.length+7 - j]? = some (UInt8.ofNat (v / 256 ^ j)))/\As=[Ar U8 ⟨some ⟨e,0,none⟩,xs.length+8,xs.length+8⟩ ys]) 8 ⟨0,_,rfl,rfl,Om,by simp,fun j hj=>by rw[Wj hj],fun j hj=>Om,rfl⟩ ?_;rintro n _ _ K ⟨k,ys,rfl,rfl,u,hl,h1,f,rfl⟩ m;refine QAB (fun h=>?_) (fun h=>?_)
 ·have c:k<8:=Om
  obtain⟨o,p⟩:=Qdx k c;refine QBA p ?_;rw[o,QC7 v _ (256 ^ k) rfl,QAu]
  have q:IntKind.i64.wrap (IntKind.i64.wrap (((xs.length+8:Nat):Int) - 1) - (k:Int))=((xs.length+7 - k:Nat):Int):=by
   rw[QAC (((xs.length+8:Nat):Int) - 1) Om Om,QAC _ Om Om];omega
  rw[q];have r:=Wa (l:=ys) (i:=xs.length+7 - k) Om;refine QAH (h1:=Om) (h:=fun _ _=>?_);refine QIJ (UInt8.ofNat (v / 256 ^ k)) r (hv:=rfl) (h:=?_);rw[QAE k Om];refine m (8 - (k+1)) _ _ Om ⟨k+1,_,rfl,rfl,Om,Si hl,fun j hj=>?_,fun j hj=>?_,rfl⟩
  ·rw[Oy Om];exact h1 j hj
  ·rcases Zb j k with a|a
   ·rw[Oy Om];exact f j a
   ·obtain rfl:j=k:=Om
    rw[Wy Om]
 ·have c:k=8:=Om
  subst c
  have:ys=xs++be8 v:=by
   refine QVe (by rw[Wd,QEq,hl]) (fun j hj=>?_);rcases Zb j xs.length with a|a
   ·rw[h1 j a,Wj a]
   ·have z:j<xs.length+8:=by rw[Wd,QEq]at hj;exact hj
    have:=f (xs.length+7 - j) Om;rw[show xs.length+7 - (xs.length+7 - j)=j by omega]at this;rw[this,Wr a,QVb v Om,show 7 - (j - xs.length)=xs.length+7 - j by omega]
  rw[this];exact QAD ⟨rfl,rfl⟩
def QGS:Ab->Ae
 | a::b::r=>((a.toNat*256+b.toNat:Nat):Int)::QGS r
 | _=>[]
theorem QNo:∀(xs:Ab),(QGS xs).length=xs.length / 2
 | []=>rfl
 | [_]=>by simp[QGS]
 | a::b::r=>by
  show (QGS r).length+1=_;rw[QNo r];simp only[Wl];omega
theorem QSL:∀{xs:Ab}{i:Nat}{a b:UInt8},xs[2*i]? = some a->xs[2*i+1]? = some b->(QGS xs)[i]? = some ((a.toNat*256+b.toNat:Nat):Int)
 | [],i,a,b,h,_=>by simp at h
 | [_],i,a,b,h1,h2=>by simp at h2
 | x::y::r,0,a,b,h1,h2=>by
  obtain rfl:x=a:=Si h1
  obtain rfl:y=b:=Si h2
  rfl
 | x::y::r,i+1,a,b,h1,h2=>by
  show (QGS r)[i]? = _;exact QSL (by simpa [Nat.mul_add]using h1) (by simpa [Nat.mul_add]using h2)
theorem QON(b:Sl)(xs:Ab)(he:xs.length % 2=0)(D:xs.length<=1073741824):Ct Pr 251 [b.v] (.tup [none,none]) [.slice,.I] [] (RAr U8 b xs) (fun t Bs=>t.2.1=0/\Bs=[Ar W16 t.1 (QGS xs)]):=by
 refine sp2 (QIG _) fun B c=>?_;have z:Fro B b U8 xs:=⟨c⟩;have hb:=c.1;unfold QIG mf;dsimp only
 have p:((b.n:Int).tmod 2)=0:=by rw[<-hb,U0 Om];omega
 have q:IntKind.i64.wrap ((b.n:Int).tdiv 2)=((xs.length / 2:Nat):Int):=by
  rw[<-hb,Um Om,QAC _ Om Om];omega
 refine QBA Dc (QBH (by rw[p];rfl) (QBA Dc ?_));rw[q];refine QTF W16 Om Om (h:=fun d=>?_);simp only[Wh];refine QBa (fun n i As=>∃(k:Nat) (ys:Ae),i=(k:Int)/\n=xs.length / 2 - k/\k<=xs.length / 2/\ys.length=xs.length / 2/\(∀j,j<k->ys[j]? = (QGS xs)[j]?)/\As=[Ar W16 ⟨some ⟨d,0,none⟩,xs.length / 2,xs.length / 2⟩ ys]) (xs.length / 2) ⟨0,_,rfl,rfl,Om,by simp,fun j hj=>Om,rfl⟩ ?_;rintro n _ _ K ⟨k,ys,rfl,rfl,y,hl,h1,rfl⟩ o;refine QAB (fun h=>?_) (fun h=>?_)
 ·have A:k<xs.length / 2:=Om
  have g:=Wa (l:=xs) (i:=2*k) Om;have m:=Wa (l:=xs) (i:=2*k+1) Om
  have r:IntKind.i64.wrap (2*(k:Int))=((2*k:Nat):Int):=by rw[QAC _ Om Om];omega
  rw[r,QAE (2*k) Om];refine QAP (QAH (E:=U8) (xs:=xs) (s:=b) (h1:=Om) (h:=fun _ _=>?_));refine QAN (E:=U8) (xs:=xs) g (h:=QBA Dc ?_);refine QAH (E:=U8) (xs:=xs) (s:=b) (h1:=Om) (h:=fun _ _=>?_);refine QAN (E:=U8) (xs:=xs) m (h:=?_);have u:=Wa (l:=ys) (i:=k) Om
  have ev:bits .or .u16 (IntKind.u16.wrap ((IntKind.u16.wrap ((xs[2*k].toNat:Nat):Int))*2 ^ (min (Int.toNat 8) 16))) (IntKind.u16.wrap ((xs[2*k+1].toNat:Nat):Int))=((xs[2*k].toNat*256+xs[2*k+1].toNat:Nat):Int):=by
   have h1:=QHm xs[2*k];have C:=QHm xs[2*k+1]
   have a:∀n:Nat,n<65536->IntKind.u16.wrap (n:Int)=n:=fun n hn=>by
    have w:(2 ^ IntKind.u16.bits:Int)=65536:=Dc
    have x:IntKind.u16.signed=false:=rfl;simp only[IntKind.wrap,w,x,Bool.false_and];simp;omega
   have e:(2:Int) ^ (min (Int.toNat 8) 16)=256:=Dc
   rw[e,a _ Om,show ((xs[2*k].toNat:Nat):Int)*256=((xs[2*k].toNat*256:Nat):Int) by omega,a _ Om,a _ Om,u16_or_nat _ _ Om Om,show xs[2*k].toNat*256=xs[2*k].toNat*2 ^ 8 from rfl,QPh _ _ 8 Om]
  refine QAH (E:=W16) (xs:=ys) (s:=⟨some ⟨d,0,none⟩,xs.length / 2,xs.length / 2⟩) (h1:=Om) (h:=fun _ _=>?_);rw[ev];refine QIJ (E:=W16) (xs:=ys) ((xs[2*k].toNat*256+xs[2*k+1].toNat:Nat):Int) u (hv:=rfl) (h:=?_);rw[QAE k Om];refine o (xs.length / 2 - (k+1)) _ _ Om ⟨k+1,_,rfl,rfl,Om,Si hl,fun j hj=>?_,rfl⟩;rcases Zb j k with f|f
  ·rw[Oy Om];exact h1 j f
  ·obtain rfl:j=k:=Om
   rw[Wy Om,QSL g m]
 ·have e:ys=QGS xs:=QVe (by rw[QNo,hl]) fun j hj=>h1 j (by rw[QNo]at hj;omega);rw[e];exact QAD ⟨rfl,rfl⟩
theorem Ars.dropc{α:Type}{E:Enc α}{s:Sl}{xs zs:List α}{h:QBs}(v:Ars E s xs zs h)(l:Nat)(hl:l<=xs.length):Ars E (s.cut l s.n s.c E.sz) (xs.drop l) zs h:=by
 obtain⟨p,n,c⟩:=s;obtain⟨h1,m,f⟩:=v;simp only at h1 m f;refine⟨by simp[Sl.cut];omega,by simp[Sl.cut];omega,?_⟩;rcases f with⟨q,r⟩|⟨b,o,pre,post,e,fr,g,hb,j,hfr,w⟩
 ·subst q r;refine .inl ⟨?_,by simp[Sl.cut]⟩;simp only[Sl.cut];split<;>rfl
 ·have k:pre++QAi E (xs++zs)++post=(pre++QAi E (xs.take l))++QAi E (xs.drop l++zs)++post:=by
   have t:QAi E (xs++zs)=QAi E (xs.take l)++QAi E (xs.drop l++zs):=by rw[<-QAU,<-Wk,Wu]
   rw[t];simp only[Wk]
  have u:(pre++QAi E (xs.take l)).length=o+l*E.sz:=by rw[Wd,QAI,j,Ww,Ow hl]
  by_cases hc:c=l
  ·refine .inr ⟨b,o,pre,QAi E xs++post,e,fr,?_,?_,j,?_,by simp only[Sl.cut];omega⟩
   ·simp only[Sl.cut];rw[We hc,g]
   ·have a:zs=[]:=Wm Om;have d:xs.drop l=[]:=Wm (by simp;omega);rw[d,a,hb,a];simp[QAi]
   ·intro i hi;refine hfr i ?_;have a:zs=[]:=Wm Om;have d:xs.drop l=[]:=Wm (by simp;omega);rw[d,a]at hi;rw[a];simpa [QAi]using hi
  ·refine .inr ⟨b,o+l*E.sz,pre++QAi E (xs.take l),post,e,fr,?_,by rw[<-k];exact hb,u,by rw[<-k];exact hfr,by simp only[Sl.cut];omega⟩;simp only[Sl.cut];rw[Wb hc,g];simp[QCV]
def Qa5(v:Int):Nat:=(IntKind.u64.wrap v).toNat
theorem QQP(v:Int):Qa5 v<18446744073709551616/\IntKind.u64.wrap v=(Qa5 v:Int):=by
 have a:(2 ^ IntKind.u64.bits:Int)=18446744073709551616:=Dc
 have b:IntKind.u64.signed=false:=rfl
 have h:0<=IntKind.u64.wrap v/\IntKind.u64.wrap v<18446744073709551616:=by
  simp only[IntKind.wrap,a,b,Bool.false_and];simp;omega
 unfold Qa5;omega
def QbH(v:Int)(k:Nat):Ae:=(QGS (be8 (Qa5 v))).drop (4 - k)
def Qi3(s:ByteArray):Ab:=s.data.toList.take (min s.size 16)++(List.replicate 16 (0:UInt8)).drop (min s.size 16)
def Qi1(s:Sl)(rs:List Sl)(a:List Ae):HP:=fun h=>RAr SL s rs h/\rs.length=a.length/\∀(i:Nat) (r:Sl) (x:Ae),rs[i]? = some r->a[i]? = some x->RAr W16 r x h
def Qj6(seq:Int)(r:RE):Ae:=[QbH r.time 3,QbH seq 3,QbH r.kind 1,QbH r.val 4,QbH r.id 3,QGS (Qi3 r.tag)].flatten
def QhG(seq:Int)(r:RE):Ae×Int:=if QCL r≠0 then ([],QCL r) else if seq<0\/seq>1099511627776 then ([],3) else (Qj6 seq r,0)
def byU(x:Int):UInt8:=UInt8.ofNat (IntKind.u8.wrap x).toNat
theorem QJs(x:Int):((byU x).toNat:Int)=IntKind.u8.wrap x:=by
 have a:(2 ^ IntKind.u8.bits:Int)=256:=Dc
 have b:IntKind.u8.signed=false:=rfl
 have h:0<=IntKind.u8.wrap x/\IntKind.u8.wrap x<256:=by
  simp only[IntKind.wrap,a,b,Bool.false_and];simp;omega
 unfold byU;rw[Ub];omega
def QXt(v:Int)(i:Nat):UInt8:=byU (Int.fdiv v (2 ^ (min i 64)))
def QBo(v:Int):Ab:=(List.range 8).map fun j=>QXt v (56 - 8*j)
theorem QF5(v:Int):(QBo v).length=8:=by simp[QBo]
theorem QXn(v:Int){j:Nat}(h:j<8):(QBo v)[j]? = some (QXt v (56 - 8*j)):=by
 unfold QBo;rw[Ol,K9 h];rfl
theorem QYW(b l:Sl)(xs:Ab)(vs:Ae)(D:xs.length+8*vs.length<=140737488351232):Ct Pr 373 [b.v,l.v] .one [.slice] [Ar U8 b xs] (RAr I64 l vs) (fun t Bs=>Bs=[Ar U8 t.1 (xs++vs.flatMap QBo)]):=by
 refine sp1 (QK3 _ _) fun B c=>?_;have w:Fro B l I64 vs:=⟨c⟩;have hn:=c.1;unfold QK3 mf;dsimp only;refine QBt (fun n (s:Sl) (x:Int) As'=>∃k:Nat,x=(k:Int)/\n=vs.length - k/\k<=vs.length/\As'=[Ar U8 s (xs++(vs.take k).flatMap QBo)]) vs.length ⟨0,rfl,rfl,Om,by simp⟩ ?_;rintro n s _ _ K ⟨k,rfl,rfl,d,rfl⟩ i
 have o:∀(l:Ae),(l.flatMap QBo).length=8*l.length:=by
  intro l
  induction l with
  | nil=>rfl
  | cons y l ih=>rw[U3,Wd,ih,QF5,Wl];omega
 refine QAB (fun h=>?_) (fun h=>?_)
 ·have f:k<vs.length:=Om
  have hv:=Wa f;refine QAH (E:=I64) (xs:=vs) (s:=l) (h1:=f) (h:=fun v hv=>?_);refine QAN (E:=I64) (xs:=vs) hv (h:=?_);refine QBt (fun n (s:Sl) (x:Int) As'=>∃j:Nat,x=56 - 8*(j:Int)/\n=8 - j/\j<=8/\As'=[Ar U8 s (xs++(vs.take k).flatMap QBo++(QBo v).take j)]) 8 ⟨0,rfl,rfl,Om,by simp⟩ ?_;rintro n r _ _ u ⟨j,rfl,rfl,hj,rfl⟩ m;have z:=o (vs.take k)
  have A:(vs.take k).length<=vs.length:=by simp;omega
  refine QAB (fun g=>?_) (fun g=>?_)
  ·have a:j<8:=Om
   refine QBA Om (QAL fun p=>?_)
   have e:(56 - 8*(j:Int)).toNat=56 - 8*j:=Om
   refine QE4 (E:=U8) (QXt v (56 - 8*j)) (hx:=?_) (hb:=?_) (h:=fun q=>?_)
   ·show [Value.int .u8 ((QXt v (56 - 8*j)).toNat:Int)]=_;unfold QXt;rw[QJs,e]
   ·have C:((QBo v).take j).length<=8:=by rw[Ww,QF5];omega
    rw[Wd,Wd];omega
   ·rw[QAC _ Om Om];refine m (8 - (j+1)) _ _ _ Om ⟨j+1,Om,rfl,Om,?_⟩;rw[Og,QXn v a];simp
  ·have a:j=8:=Om
   subst a;rw[QAE k Om,Wn (l:=QBo v) (by rw[QF5];omega)];refine i (vs.length - (k+1)) _ _ _ Om ⟨k+1,rfl,rfl,Om,?_⟩;rw[Og,hv];simp
 ·have d:k=vs.length:=Om
  subst d;rw[Wn Om];exact QAD rfl
def QcD(r:RE):Ab:=(byU r.kind::QBo r.time) ++
 (if r.kind=1\/r.kind=2 then (byU r.tag.size::r.tag.data.toList)++QBo r.val
 else if r.kind=5 then QBo r.id
 else if r.kind=6 then QBo r.id++QBo r.val
 else QBo r.val)
def QLb(r:RE):Ab×Int:=if QCL r≠0 then ([],QCL r) else (QcD r,0)
theorem QfX(r:RE)(V:r.tag.size<=1000000):Ct Pr 270 [r.v] (.tup [none,none]) [.slice,.I] [] emp (fun t Bs=>t.2.1=(QLb r).2/\Bs=[Ar U8 t.1 (QLb r).1]):=by
 refine sp2 (QOp _ _ _ _ _) fun B _=>?_;unfold QOp mf;dsimp only;refine QAL fun b=>?_;iterate 5 (refine xgq ?_)
 refine QAS (QMt r) rdb ?_;rintro⟨x,_⟩ _ ⟨hx,rfl⟩;simp only at hx;subst hx;refine QA2 (ca1 (xif (fun h=>?_) (fun h=>?_)))
 ·have y:QCL r≠0:=Si h
  have e:QLb r=([],QCL r):=by unfold QLb;rw[We y]
  refine QAf U8 (QAK [Ar U8 ⟨none,0,0⟩ []] (QAD ⟨by rw[e],by rw[e]⟩))
 have y:QCL r=0:=Si h
 have e:QLb r=(QcD r,0):=by unfold QLb;rw[Wb (by rw[y];simp)]
 have n:∀{s:Sl}{G:List HP}{ys:Ab},ys=QcD r->Ent B (Ar U8 s ys::G) (Ret B (ss:=[.slice,.I]) (fun t Bs=>t.2.1=(QLb r).2/\Bs=[Ar U8 t.1 (QLb r).1]) (s,0,())):=by
  rintro s G _ rfl;exact QAd (l:=[Ar U8 s (QcD r)]) (QAD ⟨by rw[e],by rw[e]⟩)
 refine xgq (QAL fun z=>xgq (QAL fun D=>?_));refine QAg 1 (Q:=Ar U8 ⟨some ⟨z,0,none⟩,1,1⟩ [byU r.kind]) (fun g o=>⟨[],QAp [byU r.kind] 1 rfl (by show [Value.int .u8 ((byU r.kind).toNat:Int)]=_;rw[QJs]) o⟩) ?_
 have f:∀{As:List HP}(s:Sl) (xs:Ab) (d:Nat) (vs:Ae) (cs:Ad) (_:QAi I64 vs=cs) {G w:List HP}{K:Sl->WP}(k:Nat) (_:vs.length=k) (_:k<=2) (_:xs.length<=2000000) [q:Find (Blk d cs) As G] [C:Find (Ar U8 s xs) G w],
   (∀m,Ent B (Ar U8 m (xs++vs.flatMap QBo)::w) (K m))->Ent B As (QAX Pr 373 [s.v,.slice (some ⟨d,0,none⟩) k k] .one [.slice] K):=by
  rintro As s xs d vs cs J G w K k L U hx q C M;refine Ent.perm q.perm ?_;refine QAg 0 (Q:=Ar I64 ⟨some ⟨d,0,none⟩,k,k⟩ vs) (fun g o=>⟨[],QAp vs k L J o Om⟩) ?_;refine Ent.perm ((C.perm.cons _).trans (List.Perm.swap _ _ _)) ?_;refine Qg1 0 (QYW s ⟨some ⟨d,0,none⟩,k,k⟩ xs vs Om) rdb ?_;rintro⟨m,_⟩ _ rfl;exact QAz (ca1 (QCD 1 (M m)))
 refine f ⟨some ⟨z,0,none⟩,1,1⟩ [byU r.kind] D [r.time] [.I r.time] rfl 1 rfl Dc (by simp) fun s=>?_
 have N:[byU r.kind]++[r.time].flatMap QBo=byU r.kind::QBo r.time:=by simp
 rw[N];have c:=QF5 r.time;refine xgq ?_;refine QAV (fun(x:Bool) As'=>x=(r.kind == 1||r.kind == 2)/\As'=[Ar U8 s (byU r.kind::QBo r.time),Blk b r.cells]) (fun R A=>xif (fun h=>QGO (A _ _ ⟨by rw[h];rfl,rfl⟩)) (fun h=>QGO (A _ _ ⟨by rw[h];rfl,rfl⟩))) ?_;rintro _ _ ⟨rfl,rfl⟩;refine xif (fun h1=>?_) (fun h1=>?_)
 ·have i:r.kind=1\/r.kind=2:=Si h1
  refine QAP (xgq (xgq (QAL fun S=>?_)));refine QE4 (E:=U8) (byU r.tag.size) (hx:=by show [Value.int .u8 ((byU r.tag.size).toNat:Int)]=_;rw[QJs]) (hb:=by rw[Wl,c];decide) (h:=fun T=>QDK (h:=?_));refine Qii Kr (hb:=by rw[Wd,Wl,c,W8];omega) (h:=fun H=>xgq (QAL fun a=>?_))
  have O:((byU r.kind::QBo r.time)++[byU r.tag.size]++r.tag.data.toList).length<=2000000:=by
   have P:r.tag.data.toList.length=r.tag.size:=by simp
   rw[Wd,Wd,Wl,c,P,W8];omega
  refine f H ((byU r.kind::QBo r.time)++[byU r.tag.size]++r.tag.data.toList) a [r.val] [.I r.val] rfl 1 rfl Dc O fun p=>?_;refine n ?_;unfold QcD;rw[We i];simp
 ·have i:¬(r.kind=1\/r.kind=2):=Si h1
  refine xif (fun j=>?_) (fun j=>?_)
  ·refine xgq (QAL fun a=>?_);refine f s (byU r.kind::QBo r.time) a [r.id] [.I r.id] rfl 1 rfl Dc (by rw[Wl,c];decide) fun p=>?_;refine n ?_;unfold QcD;rw[Wb i,We (eq_of_beq j)];simp
  ·refine xif (fun u=>?_) (fun u=>?_)
   ·refine xgq (xgq (QAL fun a=>?_));refine f s (byU r.kind::QBo r.time) a [r.id,r.val] [.I r.id,.I r.val] rfl 2 rfl Dc (by rw[Wl,c];decide) fun p=>?_;refine n ?_;unfold QcD;rw[Wb i,Wb (Si j),We (eq_of_beq u)];simp
   ·refine xgq (QAL fun a=>?_);refine f s (byU r.kind::QBo r.time) a [r.val] [.I r.val] rfl 1 rfl Dc (by rw[Wl,c];decide) fun p=>?_;refine n ?_;unfold QcD;rw[Wb i,Wb (Si j),Wb (Si u)];simp
theorem ca6{g i j k l m:Sh}{K:g.ty->i.ty->j.ty->k.ty->l.ty->m.ty->WP}{a:g.ty}{b:i.ty}{c:j.ty}{d:k.ty}{e:l.ty}{f:m.ty}{u:Unit}(h:Ent B As (K a b c d e f)):Ent B As (Cur.app [g,i,j,k,l,m] K (a,b,c,d,e,f,u)):=h
def QV5(a:LM)(n:Int):RE×Bool:=if (QCc a n).2≠0 then (rec0,false) else ((QD1 (QCc a n).1).1,(QD1 (QCc a n).1).2 == 0)
def Qhw(a:LM)(b:Int):Nat->Int->Bool
 | 0,_=>true
 | k+1,n=>if (QV5 a n).2 then decide (b<=(QV5 a n).1.time) else Qhw a b k (n+1)
def Qi2(a:LM)(b:Int):Bool:=if a.lo=0 then false else Qhw a b (a.next - a.lo).toNat a.lo
def QgA(a:LM):Nat->Ae->Ae->Ae
 | _,out,[]=>out
 | rows,out,n::ns=>if (QV5 a n).2=false then QgA a rows out ns else if rows+1>454 then out else QgA a (rows+1) (out++(QhG n (QV5 a n).1).1) ns
def QgE(b:LM)(X:XM)(span a:Int):Ae×Int:=
 if span<1\/span>1048576\/a<1\/a>65535 then ([],3)
 else if Qi2 b ((a - 1)*span)=true then ([],31)
 else (QgA b 0 [] (QkK X ((a - 1)*span) ((a - 1)*span+span) b.lo),0)
theorem QZm{α:Type}{P:α->Bool}:∀{L:List α}{k:Nat}{y:α},k<=(L.takeWhile P).length->L[k]? = some y->P y=true->k+1<=(L.takeWhile P).length
 | [],k,y,_,h,_=>by simp at h
 | x::L,k,y,hk,hy,hp=>by
  cases hx:P x with
  | false=>
   rw[Lc (by rw[hx];simp)]at hk
   obtain rfl:k=0:=Si hk
   obtain rfl:x=y:=Si hy
   rw[hx]at hp;cases hp
  | true=>
   rw[Lb hx]at hk|-
   cases k with
   | zero=>simp
   | succ k=>
    simp only[Wl]at hk|-;have:=QZm (L:=L) (k:=k) Om (Si hy) hp;omega
theorem QVS{α:Type}{P:α->Bool}:∀{L:List α}{k:Nat},k<=(L.takeWhile P).length->(∀y,L[k]? = some y->P y=false)->(L.takeWhile P).length=k
 | [],k,hk,_=>by simp at hk|-;omega
 | x::L,k,hk,hn=>by
  cases hx:P x with
  | false=>
   rw[Lc (by rw[hx];simp)]at hk|-;simp at hk|-;omega
  | true=>
   rw[Lb hx]at hk|-
   cases k with
   | zero=>have:=hn x rfl;rw[hx]at this;cases this
   | succ k=>
    simp only[Wl]at hk|-;have:=QVS (L:=L) (k:=k) Om (fun y a=>hn y (Si a));omega
def QZL(X:XM)(k:KY):XM:=if k.1<0\/k.1>1099511627776\/k.2<0\/k.2>1099511627776 then X else if k.2<=X.last then X else QTB X k.1 k.2
theorem QaU(x d l:Ac)(X:XM)(k:KY)(f:X.L.length<=4000000000000000):Ct Pr 272 [.pointer x,.I k.1,.I k.2] .one [.I] [QAs x d l X] emp (fun t Bs=>Bs=[QAs x d l (QZL X k)]):=by
 refine sp1 (QHM _ _ _) fun B _=>?_;unfold QHM mf;dsimp only;refine xif (fun h=>?_) (fun h=>?_)
 ·have e:QZL X k=X:=by unfold QZL;rw[We (by simp at h;omega)]
  rw[e];exact QAD rfl
 have c:¬(k.1<0\/k.1>1099511627776\/k.2<0\/k.2>1099511627776):=by simp at h;omega
 refine QHi 0 fun b q hx=>?_;subst hx;refine QAO (xgq ?_);refine QBk b q d l X ?_;refine QAB (fun a=>?_) (fun a=>?_)
 ·have e:QZL X k=X:=by unfold QZL;rw[Wb c,We a]
  rw[e];exact QAD rfl
 ·have e:QZL X k=QTB X k.1 k.2:=by unfold QZL;rw[Wb c,Wb a]
  refine xcl (QMv (some ⟨b,0,none⟩) d l X k.1 k.2 f) rdb ?_;rintro _ _ rfl;rw[e];exact QAz (ca0 (QAD rfl))
end Go.Cx
namespace Go.Cx
open Go Go.Cf
set_option linter.unusedVariables false
set_option maxRecDepth 100000
section
variable {B:QBJ}{As:List HP}
theorem QIo(p:Ac)(m:DM)(nm to:ByteArray):Ct Pr 193 [.pointer p,.string nm,.string to] .one [.I] [QAA p m] emp
  (fun t Bs=>t.1=(QBp m nm to).2/\Bs=[QAA p (QBp m nm to).1]):=by
 refine sp1 (QEB _ _ _) fun B _=>?_;unfold QEB mf;dsimp only;refine QbK 0 fun hi b s cs M z a2=>?_;subst M;have e:=QOh hi nm to;unfold QBp at e|-;refine xcl (QGN b s cs m nm hi.sorted z hi.len) rdb ?_;rintro⟨r,c,_⟩ _ ⟨h1,v,rfl⟩;simp only at h1 v;subst h1 v;refine QBK (ca2 ?_);refine xcl (QO1 to) rdb ?_;rintro⟨c,_⟩ _ ⟨h1,rfl⟩;simp only at h1;subst h1;refine QA2 (ca1 (xif (fun hn=>?_) (fun hn=>?_)))
 ·rw[We hn];exact QBM b s cs hi (QAD ⟨rfl,rfl⟩)
 rw[Wb (Si hn)]at e|-;refine QAO (xgq (xif (fun x=>?_) (fun x=>xif (fun u=>?_) (fun u=>?_))))
 ·rw[QGn x];exact QBM b s cs hi (QAD ⟨rfl,rfl⟩)
 ·rw[QGQ x (Si u)];exact QBM b s cs hi (QAD ⟨rfl,rfl⟩)
 have u:QAk m.fs nm.toList=true:=Si u
 rw[QKD x u]at e|-;obtain⟨c,f,hc,H,R,a3,a4,a5,a6,a7,_,_⟩:=QRL (p:=none) hi z u;rw[R]at e|-;have L:=(Wc.1 hc).1;have X:=(Wc.1 H).1;have b0:=hi.len;have b1:=z.len;obtain⟨J,a8⟩:=QCm m;refine QAO ?_;refine xcl (QHV b s m hi.left.1 hi.left.2) rdb ?_;rintro⟨r,_⟩ _ ⟨K,rfl⟩;simp only at K;subst K;refine QAz (ca1 (xif (fun A=>?_) (fun A=>?_)))
 ·rw[QLs (Si A)]at e|-;exact QCK 0 0 0 b s cs (QAr m).1 e (fun _ h=>by rw[J];exact h) (QAD ⟨rfl,rfl⟩)
 rw[QLp (Si A)]at e|-;simp only[J]at e|-;have Y:=QC2 (i:=QAR m.fs nm.toList) hi.sorted
 generalize QAR m.fs nm.toList=i at *
 refine QAO (xgq ?_);refine QAH (h1:=L) (h:=fun _ _=>?_);refine QAN hc (h:=?_);refine QAa hc (h:=?_);refine QAa hc (h:=QAL fun N=>xsq (xsq (xsq (xsq (QAO (xgq ?_))))));rw[QAE _ Om];refine xcl (QNK s cs i L Om) rdb ?_;rintro⟨D,_⟩ _ rfl;refine QAz (ca1 (QAO (xsq ?_)));refine Qc1 3 [QCH c f,Each QCH (cs.eraseIdx i) (m.fs.eraseIdx i)] (fun g n=>QCA n hc H) (QBK ?_);refine QB6 1 (fun g n=>Qdy n) fun G=>?_
 have Z:(m.fs.eraseIdx i).length<=64:=by rw[List.length_eraseIdx,We X];omega
 have a0:=G.len;refine xcl (QGN b D (cs.eraseIdx i) { (QAr m).1 with fs:=m.fs.eraseIdx i } to Y G Z) rdb ?_;rintro⟨r,a9,_⟩ _ ⟨h1,v,rfl⟩;simp only at h1 v;subst h1 v;refine QBK (ca2 ?_);unfold QRs at e|-;simp only at e|-;refine QAM (xif (fun y=>?_) (fun y=>?_))
 ·rw[We y]at e|-;obtain⟨n,_⟩:=QCY (d:=⟨to,[],0⟩) y;generalize (m.fs.eraseIdx i).getD (QAR (m.fs.eraseIdx i) to.toList) ⟨to,[],0⟩=b3 at n
  have w:QAR (m.fs.eraseIdx i) to.toList<(cs.eraseIdx i).length:=by rw[a0];exact (Wc.1 n).1
  have E:=Wa w;generalize (cs.eraseIdx i)[QAR (m.fs.eraseIdx i) to.toList]=k at E
  generalize QAR (m.fs.eraseIdx i) to.toList=j at *
  refine QAP (QAO (xgq (xgq (xgq (xgq ?_)))));refine QAH (h1:=w) (h:=fun _ _=>?_);refine QIJ (to,k.2.1,k.2.2) E (hv:=rfl) (h:=?_);have a1:((cs.eraseIdx i).set j (to,k.2.1,k.2.2))[j]? = some (to,k.2.1,k.2.2):=Wy w;refine QDB (to,c.2.1,k.2.2) a1 (hj:=Dc) (hv:=rfl) (h:=?_);rw[Zc];have g3:((cs.eraseIdx i).set j (to,c.2.1,k.2.2))[j]? = some (to,c.2.1,k.2.2):=Wy w;refine QDB (to,c.2.1,c.2.2) g3 (hj:=Dc) (hv:=rfl) (h:=?_);rw[Zc]
  -- Blk b, Ar FILE, FileR, Each, Blk b1
  refine QRv 2 2 (Q:=Each QCH ((cs.eraseIdx i).set j (to,c.2.1,c.2.2)) ((m.fs.eraseIdx i).set j { f with nm:=to })) (fun g C=>?_) ?_
  ·refine QC9 w (Wc.1 n).1 ?_;refine QA6 (P:=QCH c f) (fun q o=>(⟨rfl,o.2.1,o.2.2⟩:QCH (to,c.2.1,c.2.2) { f with nm:=to } q)) ?_;refine QBC (l:=[Each QCH (cs.eraseIdx i) (m.fs.eraseIdx i)]) (fun q o=>?_) C;obtain⟨a,_,S,_,_,T,_⟩:=o;obtain⟨a',N,_,U,_,_,V⟩:=QCA S E n;exact QCn _ U (V.trans T)
  exact QCK 1 1 0 b D ((cs.eraseIdx i).set j (to,c.2.1,c.2.2)) _ e (fun _ h=>h) (QCD 1 (QAD ⟨rfl,rfl⟩))
 ·rw[Wb (by rw[y];simp)]at e|-;have b2:=QGW (m.fs.eraseIdx i) to.toList
  generalize QAR (m.fs.eraseIdx i) to.toList=j at *
  refine QAP (QAO (xgq (xgq (xgq (xgq (QiF fun O=>?_))))));refine xcl (QMI D (cs.eraseIdx i) j O (to,c.2.1,c.2.2) Om Om) rdb ?_;rintro⟨W,_⟩ _ rfl;refine QAz (ca1 (QAO (xsq ?_)))
  -- Ar FILE, Blk b, FileR, Each, Blk b1
  refine QRv 2 2 (Q:=Each QCH ((cs.eraseIdx i).take j++(to,c.2.1,c.2.2)::(cs.eraseIdx i).drop j) (QK1 (m.fs.eraseIdx i) j { f with nm:=to })) (fun g C=>?_) ?_
  ·exact QXI j (QA6 (P:=QCH c f) (fun q o=>(⟨rfl,o.2.1,o.2.2⟩:QCH (to,c.2.1,c.2.2) { f with nm:=to } q)) C)
  exact QCK 2 1 0 b W ((cs.eraseIdx i).take j++(to,c.2.1,c.2.2)::(cs.eraseIdx i).drop j) _ e (fun _ h=>h) (QCD 1 (QAD ⟨rfl,rfl⟩))
end
variable {B:QBJ}{As F:List HP}
abbrev calm(m:DM):Prop:=m.armed=false/\m.down=false
theorem QEe{m:DM}(h:calm m):QAr m=(m,true):=by unfold QAr;rw[h.1];rfl
theorem QXL{l:LM}(h:LInv l)(m:DM)(to keep:Int):LInv (QC6 m l to keep).2.1:=by
 unfold QC6;split
 ·exact h
 split
 ·exact h
 (try dsimp only)
 split
 ·exact h
 split
 ·exact h
 refine⟨h.n,h.first,fun s b=>h.segs s (Zn b),?_,h.safe,fun k s c h1 a=>?_⟩
 ·have:=h.few;simp;omega
 ·rw[Zk]at h1 a;exact h.chain (QCi l to keep+k) s c h1 (by rw[Ln];exact a)
theorem QWl{n:Int}(h0:0<=n)(h1:n<=4398046511104):IntKind.u64.wrap n=((n.toNat:Nat):Int):=by
 obtain⟨k,rfl⟩:=W1 h0;rw[QLw _ Om];simp
theorem QUj(b:Nat)(p:Ac)(m:DM)(l:LM)(s o:Sl)(a:Sg)(hn:0<=a.n/\a.n<=4398046511104)(f:0<=a.first/\a.first<=4398046511104):Ct Pr 333 [.pointer (some ⟨b,0,none⟩),.agg #[.I a.n,.I a.first,.I a.size,o.v]] .one [.I] [Blk b (QAe p l s),QAA p m] emp
  (fun t Bs=>t.1=(QVE m a).2/\Bs=[Blk b (QAe p l s),QAA p (QVE m a).1]):=by
 refine sp1 (QGv _ _ _ _ _) fun B _=>?_;unfold QGv mf;dsimp only;refine QAL fun q=>xgq ?_;rw[QWl hn.1 hn.2];refine xcl (pre:=[]) (QDx ⟨none,0,0⟩ [] a.n.toNat Om Dc) (QIX fun _ _ _ _ _=>⟨rfl,rfl,fun h=>absurd h (Zu 0)⟩) ?_;rintro⟨g,e,_⟩ _ ⟨_,rfl⟩;refine QAz (ca2 (xgq ?_));rw[QWl f.1 f.2];have d:=QEq a.n.toNat;have k:=QEq a.first.toNat
 refine xcl (pre:=[]) (QDx g ([]++be8 a.n.toNat) a.first.toNat Om (by rw[W6,d];decide)) rdb ?_;rintro⟨i,e,_⟩ _ ⟨_,rfl⟩;refine QAz (ca2 ?_);rw[W6];refine xcl (pre:=[]) (QDD i (be8 a.n.toNat++be8 a.first.toNat) (by rw[Wd,d,k];decide)) rdb ?_;rintro⟨j,e,_⟩ _ ⟨_,rfl⟩;refine QAz (ca2 (QAO (xgq ?_)))
 (try simp only)
 unfold QVE
 (try dsimp only)
 refine xcl (QSl p m newN) rdb ?_;rintro⟨t,_⟩ _ ⟨c,rfl⟩;simp only at c;subst c;refine QAz (ca1 (xif (fun h=>?_) (fun h=>?_)))
 ·rw[We (Si h)];exact QAK [Blk b (QAe p l s),QAA p (QAj m newN).1] (QAD ⟨rfl,rfl⟩)
 rw[Wb (Si h)];refine QAO (xgq ?_);refine xcl (QE3 p (QAj m newN).1 newN j (QAY (be8 a.n.toNat++be8 a.first.toNat))) rdb ?_;rintro⟨t,_⟩ _ ⟨c,rfl⟩;simp only at c;subst c;refine QAz (ca1 (xif (fun h=>?_) (fun h=>?_)))
 ·rw[We (Si h)];exact QAK [Blk b (QAe p l s),QAA p (QAF (QAj m newN).1 newN (QAY (be8 a.n.toNat++be8 a.first.toNat))).1] (QAD ⟨rfl,rfl⟩)
 rw[Wb (Si h)];refine QAO (xgq ?_);refine xcl (QE0 p (QAF (QAj m newN).1 newN (QAY (be8 a.n.toNat++be8 a.first.toNat))).1 newN) rdb ?_;rintro⟨t,_⟩ _ ⟨c,rfl⟩;simp only at c;subst c;refine QAz (ca1 (xif (fun h=>?_) (fun h=>?_)))
 ·rw[We (Si h)];exact QAK [Blk b (QAe p l s),QAA p (QA0 (QAF (QAj m newN).1 newN (QAY (be8 a.n.toNat++be8 a.first.toNat))).1 newN).1] (QAD ⟨rfl,rfl⟩)
 rw[Wb (Si h)];refine QAO (xgq ?_);refine xcl (QIo p (QA0 (QAF (QAj m newN).1 newN (QAY (be8 a.n.toNat++be8 a.first.toNat))).1 newN).1 newN headN) rdb ?_;rintro⟨t,_⟩ _ ⟨c,rfl⟩;simp only at c;subst c;refine QAz (ca1 ?_);exact QAK [Blk b (QAe p l s),QAA p (QBp (QA0 (QAF (QAj m newN).1 newN (QAY (be8 a.n.toNat++be8 a.first.toNat))).1 newN).1 newN headN).1] (QAD ⟨rfl,rfl⟩)
theorem QQf(s:Sl)(cs:List CS)(h0:0<cs.length)(hl:cs.length<=64):Ct Pr 334 [s.v] .one [.slice] [] (RAr SEG s cs) (fun t Bs=>Bs=[Ar SEG t.1 cs]):=by
 refine sp1 (QBL _) fun B c=>?_;haveI:Fro B s SEG cs:=⟨c⟩;unfold QBL mf;dsimp only
 have a:QCy s.p=false:=by
  obtain⟨h1,_,e⟩:=c;obtain⟨b,o,_,_,_,_,a,_⟩:=e Om;rw[a];rfl
 refine QBH a (QAL fun b=>?_);refine QAg 0 (Q:=Ar SEG ⟨some ⟨b,0,none⟩,0,0⟩ []) (fun g d=>⟨[],QAp [] 0 rfl rfl d⟩) ?_;refine QHU (E:=SEG) (s:=⟨some ⟨b,0,none⟩,0,0⟩) (y:=s) (ys:=cs) (hb:=by simp;omega) (h:=fun f=>?_);rw[W6];exact QAD rfl
end Go.Cx
namespace Go.Cx
open Go Go.Cf
set_option linter.unusedVariables false
set_option maxRecDepth 100000
variable {B:QBJ}{As F:List HP}
end Go.Cx
namespace Go.Cx
open Go Go.Cf
set_option linter.unusedVariables false
set_option maxRecDepth 100000
variable {B:QBJ}{As F:List HP}{α:Type}
abbrev P3:=Int×Int×Int
def PaE:Enc P3:=⟨fun k=>[.I k.1,.I k.2.1,.I k.2.2],3,fun _=>rfl,fun x v h=>by simp at h;rcases h with rfl|rfl|rfl<;>rfl,Dc,(0,0,0)⟩
def QaB(p:P3):Bool:=decide (p.1<1)||decide (p.1>65535)||decide (p.2.1<0)||decide (p.2.1>=10000)||decide (p.2.2<1)||decide (p.2.2>10000 - p.2.1)
def QWx(room:Int):List P3->Int
 | []=>if room<0 then 2 else 0
 | p::ps=>if QaB p=true then 3 else QWx (room - (2+2*p.2.2)) ps
theorem Qav:∀(ps:List P3) (room:Int),QWx room ps=0->∀p∈ps,QaB p=false
 | [],_,_,p,a=>by simp at a
 | q::ps,room,h,p,a=>by
  rw[QWx]at h
  cases b:QaB q with
  | true=>rw[We b]at h;cases h
  | false=>
   rw[Wb (by rw[b];simp)]at h;rcases W7.1 a with rfl|a
   ·exact b
   ·exact Qav ps _ h p a
def Qe1(a:LM)(X:XM)(span:Int):List P3->Option (List Ae)
 | []=>some []
 | p::ps=>if (QgE a X span p.1).2≠0\/p.2.1+p.2.2>((QgE a X span p.1).1.length:Int) then none
  else (Qe1 a X span ps).map (((QgE a X span p.1).1.take (p.2.1+p.2.2).toNat).drop p.2.1.toNat :: ·)
end Go.Cx
