/-
Bits and words as bytes.
-/
import Derived.Test.YthbhbkjkclhkgaaGreatDoorSX
import Derived.Test.YthbhbkjkclhkgaaGreatDoorA4
import Derived.Laws.BytesArg
set_option linter.unusedSimpArgs false
set_option linter.unusedVariables false
set_option maxRecDepth 100000
open Go Go.Cf
variable {B:QBJ}{As F:List HP}
namespace Go.Cx
theorem QFn(l:Sl)(vs:Ae)(hv:∀v∈vs,0<=v/\v<=65535)(hl:vs.length<=100000):Ct Pr 166 [l.v] .one [.slice] [] (RAr W16 l vs) (fun t Bs=>Bs=[Ar U8 t.1 (vs.flatMap QCr)]):=by
 refine sp1 (QPK _) fun B f=>?_;haveI:Fro B l W16 vs:=⟨f⟩;have hn:vs.length=l.n:=f.1;unfold QPK mf;dsimp only;rw[QAC (2*(l.n:Int)) Om Om];rw[show (2*(l.n:Int))=((2*vs.length:Nat):Int) by omega];refine QbA U8 0 (2*vs.length) Om Om (h:=fun b=>?_);refine xar ?_;refine QBt (fun n (o:Sl) (x:Int) As'=>∃k:Nat,x=(k:Int)/\n=vs.length - k/\k<=vs.length/\As'=[Ar U8 o ((vs.take k).flatMap QCr)]) vs.length ⟨0,rfl,rfl,Om,by simp⟩ ?_;rintro n r x As' K ⟨k,rfl,rfl,C,rfl⟩ u
 have z:((vs.take k).flatMap QCr).length=2*k:=by
  rw[List.length_flatMap]
  have:(vs.take k).map (fun a=>(QCr a).length)=List.replicate k 2:=by
   apply List.ext_getElem
   ·simp;omega
   ·intro i h1 A;simp[QCr]
  rw[this];simp;omega
 refine QAB (fun c=>?_) (fun c=>?_)
 ·have c:k<vs.length:=Om
  refine QAH (E:=W16) (xs:=vs) (s:=l) (h1:=c) (h:=fun y d=>?_);refine QAN (E:=W16) (xs:=vs) d (h:=QBA Dc ?_);obtain⟨w,D⟩:=hv y (Wp d);obtain⟨m,rfl⟩:=W1 w;rw[QC7 m _ 256 Dc,QAu,QAu];refine QAL fun j=>?_;refine QAg (Q:=Ar U8 ⟨some ⟨j,0,none⟩,2,2⟩ (QCr (m:Int))) 0 (fun g p=>⟨[],QAp (QCr (m:Int)) 2 rfl rfl p⟩) ?_;refine QHU (E:=U8) (s:=r) (y:=⟨some ⟨j,0,none⟩,2,2⟩) (hb:=by simp[QCr,z];omega) (h:=fun q=>?_);rw[QAE k Om]
  have e:(vs.take k).flatMap QCr++QCr (m:Int)=(vs.take (k+1)).flatMap QCr:=by
   rw[<-QGB d,Zf];simp
  rw[e];exact QAK [Ar U8 q ((vs.take (k+1)).flatMap QCr)] (u (vs.length - (k+1)) _ _ _ Om ⟨k+1,rfl,rfl,Om,rfl⟩)
 ·rw[Wn Om];exact QAD rfl
def QHO(n:Nat):Nat:=(n+7) / 8
theorem QJ3(n:Nat)(hn:n<=1000000000):Ct Pr 255 [.I (n:Int)] .one [.I] [] emp (fun t Bs=>t.1=(QHO n:Int)/\Bs=[]):=by
 refine sp1 (QRz _) fun B _=>?_;unfold QRz mf;dsimp only
 have a:((n:Int).tmod 8)=((n % 8:Nat):Int):=by rw[U0 Om];omega
 have b:((n:Int).tdiv 8)=((n / 8:Nat):Int):=by rw[Um Om];omega
 rw[a,b,QAC ((n / 8:Nat):Int) Om Om,QAC _ Om Om];unfold QHO;refine QBA Dc (xif (fun h=>?_) (fun h=>?_))
 ·have h:n % 8=0:=by simp at h;omega
  exact QBA Dc (QAD ⟨by show ((n / 8:Nat):Int)=_;omega,rfl⟩)
 ·have h:n % 8≠0:=by simp at h;omega
  exact QBA Dc (QAD ⟨by show ((n / 8:Nat):Int)+1=_;omega,rfl⟩)
def QZk(y:UInt8)(k:Nat):UInt8:=UInt8.ofNat (bits .or .u8 (y.toNat:Int) (IntKind.u8.wrap (1*2 ^ (min (k % 8) 8)))).toNat
def QIr(a:List Bool)(N:Nat):Nat->Ab
 | 0=>List.replicate N 0
 | k+1=>if a.getD k false=true then (QIr a N k).set (k / 8) (QZk ((QIr a N k).getD (k / 8) 0) k) else QIr a N k
theorem QJV(a:List Bool)(N:Nat):∀k,(QIr a N k).length=N
 | 0=>by simp[QIr]
 | k+1=>by
  rw[QIr];split
  ·rw[Ob];exact QJV a N k
  ·exact QJV a N k
def QEW(a:List Bool):Ab:=QIr a (QHO a.length) a.length
theorem QFJ(a:List Bool):(QEW a).length=QHO a.length:=QJV _ _ _
theorem QKC(l:Sl)(a:List Bool)(hl:a.length<=100000):Ct Pr 165 [l.v] .one [.slice] [] (RAr BL l a) (fun t Bs=>Bs=[Ar U8 t.1 (QEW a)]):=by
 refine sp1 (QSt _) fun B d=>?_;haveI:Fro B l BL a:=⟨d⟩;have hn:a.length=l.n:=d.1;unfold QSt mf;dsimp only;refine QAS (QJ3 l.n Om) rdb ?_;rintro⟨(r:Int),_⟩ _ ⟨g,rfl⟩;obtain rfl:r=(QHO l.n:Int):=g
 have u:QHO l.n=(a.length+7) / 8:=by rw[<-hn];rfl
 unfold QEW;rw[show QHO a.length=QHO l.n by rw[hn]]
 generalize QHO l.n=N at *
 refine QA2 (ca1 (QTF U8 Om (by simp;omega) (h:=fun b=>?_)));simp only[Wh];refine QBa (fun n (x:Int) As'=>∃k:Nat,x=(k:Int)/\n=a.length - k/\k<=a.length/\As'=[Ar U8 ⟨some ⟨b,0,none⟩,N,N⟩ (QIr a N k)]) a.length ⟨0,rfl,rfl,Om,rfl⟩ ?_;rintro n x As' K ⟨k,rfl,rfl,q,rfl⟩ j;refine QAB (fun c=>?_) (fun c=>?_)
 ·have c:k<a.length:=Om
  have hb:a[k]? = some (a.getD k false):=by rw[W0,Wa c];rfl
  refine QAH (E:=BL) (xs:=a) (s:=l) (k:=k) (h1:=c) (h:=fun _ _=>?_);refine QAN (E:=BL) (xs:=a) (i:=k) hb (h:=?_)
  have m:((k:Int).tdiv 8)=((k / 8:Nat):Int):=by rw[Um Om];omega
  have o:((k:Int).tmod 8)=((k % 8:Nat):Int):=by rw[U0 Om];omega
  rw[m,o,QAC ((k / 8:Nat):Int) Om Om,QAE k Om];have w:=QJV a N k
  have f:(QIr a N k)[k / 8]? = some ((QIr a N k).getD (k / 8) 0):=by
   rw[W0,Wa Om];rfl
  have y:=Qf4 .or (((QIr a N k).getD (k / 8) 0).toNat:Int) (IntKind.u8.wrap (1*2 ^ (min (k % 8) 8)));refine QBh (fun As'=>As'=[Ar U8 ⟨some ⟨b,0,none⟩,N,N⟩ (QIr a N (k+1))]) (fun p e=>?_) ?_
  ·refine xif (fun hc=>?_) (fun hc=>?_)
   ·refine QAP (QBA Dc ?_);refine QAH (E:=U8) (s:=⟨some ⟨b,0,none⟩,N,N⟩) (k:=k / 8) (h1:=Om) (h:=fun _ _=>?_);refine QAN (E:=U8) (s:=⟨some ⟨b,0,none⟩,N,N⟩) (i:=k / 8) f (h:=QBA Dc (QBA Om ?_));refine QAH (E:=U8) (s:=⟨some ⟨b,0,none⟩,N,N⟩) (k:=k / 8) (h1:=Om) (h:=fun _ _=>?_);rw[Wh];refine QIJ (E:=U8) (QZk ((QIr a N k).getD (k / 8) 0) k) f (hv:=?_) (h:=?_)
    ·show [_]=[Value.int .u8 _];unfold QZk;rw[Ub];congr 2;omega
    ·refine e _ ?_;rw[QIr,We hc]
   ·exact e _ (by rw[QIr,Wb (by rw[hc];decide)])
  rintro _ rfl;exact j (a.length - (k+1)) _ _ Om ⟨k+1,rfl,rfl,Om,rfl⟩
 ·rw[show a.length=k by omega];exact QAD rfl
def QRx(xs:Ab)(i:Nat):Bool:=bits .and .u8 (Int.fdiv ((xs.getD (i / 8) 0).toNat:Int) (2 ^ (min (i % 8) 8))) 1 == 1
def QCI(xs:Ab)(n:Nat):List Bool×Int:=
 if xs.length≠QHO n then ([],22)
 else if n % 8≠0/\Int.fdiv ((xs.getD (xs.length - 1) 0).toNat:Int) (2 ^ (min (n % 8) 8))≠0 then ([],4)
 else ((List.range n).map (QRx xs),0)
theorem QNx(b:Sl)(xs:Ab)(n:Nat)(hn:n<=100000):Ct Pr 250 [b.v,.I (n:Int)] (.tup [none,none]) [.slice,.I] [] (RAr U8 b xs) (fun t Bs=>t.2.1=(QCI xs n).2/\Bs=[Ar BL t.1 (QCI xs n).1]):=by
 refine sp2 (QMU _ _) fun B f=>?_;haveI:Fro B b U8 xs:=⟨f⟩;have o:xs.length=b.n:=f.1
 have c:((n:Int).tmod 8)=((n % 8:Nat):Int):=by rw[U0 Om];omega
 unfold QMU mf;dsimp only;refine QBH (by simp) ?_;refine QAS (QJ3 n Om) rdb ?_;rintro⟨(r:Int),_⟩ _ ⟨l,rfl⟩;obtain rfl:r=(QHO n:Int):=l;refine QA2 (ca1 (xif (fun h=>?_) (fun h=>?_)))
 ·have:QCI xs n=([],22):=by unfold QCI;rw[We];simp at h;omega
  rw[this];exact QAf BL (QAD ⟨rfl,rfl⟩)
 have h1:xs.length=QHO n:=by simp at h;omega
 have y:QHO n=(n+7) / 8:=rfl;refine QBA Dc ?_;rw[c];refine QAV (fun(x:Bool) As'=>x=decide (n % 8≠0/\Int.fdiv ((xs.getD (xs.length - 1) 0).toNat:Int) (2 ^ (min (n % 8) 8))≠0)/\As'=[]) (fun K a=>?_) ?_
 ·refine xif (fun h=>?_) (fun h=>?_)
  ·have d:n % 8≠0:=by simp at h;omega
   rw[show (b.n:Int) - 1=((b.n - 1:Nat):Int) by omega,QAC ((b.n - 1:Nat):Int) Om Om];refine QAH (E:=U8) (xs:=xs) (s:=b) (k:=b.n - 1) (h1:=Om) (h:=fun _ _=>?_);refine QAN (E:=U8) (xs:=xs) (i:=b.n - 1) (x:=xs.getD (b.n - 1) 0) (by rw[W0,Wa Om];rfl) (h:=QBA Dc (QBA Om ?_));refine a _ _ ⟨?_,rfl⟩;rw[Wh,o];generalize Int.fdiv _ _=z;by_cases p:z=0<;>simp[p,d]
  ·refine a _ _ ⟨?_,rfl⟩
   have d:n % 8=0:=by simp at h;omega
   simp[d]
 rintro _ _ ⟨rfl,rfl⟩;refine QAB (fun h=>?_) (fun h=>?_)
 ·have:QCI xs n=([],4):=by unfold QCI;rw[Wb Om,We h]
  rw[this];exact QAf BL (QAD ⟨rfl,rfl⟩)
 have:QCI xs n=((List.range n).map (QRx xs),0):=by unfold QCI;rw[Wb Om,Wb h]
 rw[this];refine QTF BL Om (by simp;omega) (h:=fun g=>?_);simp only[Wh];refine QBa (fun m (x:Int) As'=>∃k:Nat,x=(k:Int)/\m=n - k/\k<=n/\As'=[Ar BL ⟨some ⟨g,0,none⟩,n,n⟩ ((List.range k).map (QRx xs)++List.replicate (n - k) false)]) n ⟨0,rfl,rfl,Om,by simp;rfl⟩ ?_;rintro m x As' K ⟨k,rfl,rfl,w,rfl⟩ a;refine QAB (fun j=>?_) (fun j=>?_)
 ·have j:k<n:=Om
  have q:((k:Int).tdiv 8)=((k / 8:Nat):Int):=by rw[Um Om];omega
  have c:((k:Int).tmod 8)=((k % 8:Nat):Int):=by rw[U0 Om];omega
  rw[q,c,QAC ((k / 8:Nat):Int) Om Om,QAE k Om];refine QBA Dc ?_;refine QAH (E:=U8) (xs:=xs) (s:=b) (k:=k / 8) (h1:=Om) (h:=fun _ _=>?_);refine QAN (E:=U8) (xs:=xs) (i:=k / 8) (x:=xs.getD (k / 8) 0) (by rw[W0,Wa Om];rfl) (h:=QBA Dc (QBA Om ?_));refine QAH (E:=BL) (s:=⟨some ⟨g,0,none⟩,n,n⟩) (k:=k) (h1:=by rw[Wd,O3,Ky,O1];omega) (h:=fun _ _=>?_);rw[Wh]
  have u:((List.range k).map (QRx xs)++List.replicate (n - k) false)[k]? = some false:=by
   rw[Wr (by simp)];simp only[O3,Ky,Ur];rw[List.getElem?_replicate,We Om]
  refine QIJ (E:=BL) (QRx xs k) u (hv:=rfl) (h:=?_)
  have e:((List.range k).map (QRx xs)++List.replicate (n - k) false).set k (QRx xs k)=(List.range (k+1)).map (QRx xs)++List.replicate (n - (k+1)) false:=by
   rw[U5 _ _ (by simp)];simp only[O3,Ky,Ur];rw[show n - k=(n - (k+1))+1 by omega,K8,Ld,Kc,Uw,Wk];rfl
  rw[e];exact a (n - (k+1)) _ _ Om ⟨k+1,rfl,rfl,Om,rfl⟩
 ·rw[show k=n by omega];simp only[Ur,List.replicate_zero,Oi];exact QAD ⟨rfl,rfl⟩
def QCZ(xs:Ab):Ae×Int:=if xs.length % 2=0 then (QGS xs,0) else ([],22)
theorem QHf(b:Sl)(xs:Ab)(c:xs.length<=1073741824):Ct Pr 251 [b.v] (.tup [none,none]) [.slice,.I] [] (RAr U8 b xs) (fun t Bs=>t.2.1=(QCZ xs).2/\Bs=[Ar W16 t.1 (QCZ xs).1]):=by
 by_cases he:xs.length % 2=0
 ·rw[show QCZ xs=(QGS xs,0) from We he];exact QON b xs he c
 ·rw[show QCZ xs=([],22) from Wb he];refine sp2 (QIG _) fun B a=>?_;have d:xs.length=b.n:=a.1;unfold QIG mf;dsimp only
  have e:((b.n:Int).tmod 2)=1:=by rw[U0 Om];omega
  rw[e];exact QBA Dc (QCC rfl (QAf W16 (QAD ⟨rfl,rfl⟩)))
abbrev nilS:Sl:=⟨none,0,0⟩
instance rdbNil{α:Type}{E:Enc α}:Rdb B F (RAr E nilS []):=⟨fun _ _ _ _ _=>⟨rfl,by simp[QAi,nilS],fun h=>absurd h (by simp[nilS])⟩⟩
theorem xgT{b:Nat}{cs:Ad}{upd:Ad->List HP}{rest:List HP}[o:Own b As cs upd rest]{off n c:Nat}{p:Ac}{K:Sl->WP}(hv:cs[off]? = some (.slice p n c):=by rfl)(h:Ent B As (K ⟨p,n,c⟩)):Ent B As (QAn .slice ⟨b,off,none⟩ K):=
 QAh (s:=.slice) (x:=⟨p,n,c⟩) (hv:=hv) (h:=h)
theorem ca5{f g i j k:Sh}{K:f.ty->g.ty->i.ty->j.ty->k.ty->WP}{a b c d e}{v:Unit}(h:Ent B As (K a b c d e)):Ent B As (Cur.app [f,g,i,j,k] K (a,b,c,d,e,v)):=h
theorem ca7{i j k l m n o:Sh}{K:i.ty->j.ty->k.ty->l.ty->m.ty->n.ty->o.ty->WP}{a b c d e f g}{v:Unit}(h:Ent B As (K a b c d e f g)):Ent B As (Cur.app [i,j,k,l,m,n,o] K (a,b,c,d,e,f,g,v)):=h
theorem QAb(Q:List HP){G R:List HP}[q:Split Q As G][a:App Q G R]{φ:WP}(h:Ent B R φ):Ent B As φ:=Ent.perm q.perm (by rw[a.eq];exact h)
theorem QX3(v:Int)(h0:0<=v)(h1:v<=65535):IntKind.i64.wrap v=v:=QAC v Om Om
structure AskV where
 code:Int
 addr:Int
 count:Int
 on:List Bool
 set:Ae
 parts:List P3
abbrev Qet:AskV:=⟨0,0,0,[],[],[]⟩
def AskV.e(a:AskV):Int:=askE a.code a.addr a.count a.on.length a.set.length a.parts
def QOG(l:Ae):Prop:=∀v∈l,0<=v/\v<=65535
abbrev Qft(a:AskV)(b ss c:Sl):Value:=.agg #[.I a.code,.I a.addr,.I a.count,b.v,ss.v,c.v]
abbrev askR(a:AskV)(b ss c:Sl):HP:=(RAr BL b a.on).and ((RAr W16 ss a.set).and (RAr PaE c a.parts))
theorem QHF{p:Prop}[Decidable p]{a b:Int}(d:a≠0)(h:(if p then a else b)=0):¬p/\b=0:=by
 by_cases c:p
 ·rw[We c]at h;exact absurd h d
 ·rw[Wb c]at h;exact⟨c,h⟩
theorem QB8{c a n:Int}{e f:Nat}{ps:List P3}(h:askE c a n e f ps=0):(0<=a/\a<=65535) /\
  (((c=1\/c=2)/\(1<=n/\n<=2000)/\e=0/\f=0/\ps=[])\/((c=3\/c=4)/\(1<=n/\n<=125)/\e=0/\f=0/\ps=[]) \/
   (c=5/\n=0/\e=1/\f=0/\ps=[])\/(c=6/\n=0/\e=0/\f=1/\ps=[])\/(c=15/\n=0/\(1<=e/\e<=1968)/\f=0/\ps=[]) \/
   (c=16/\n=0/\e=0/\(1<=f/\f<=123)/\ps=[])\/(c=20/\n=0/\e=0/\f=0/\(1<=ps.length/\ps.length<=35)/\QWx 245 ps=0)):=by
 unfold askE at h;obtain⟨r,h⟩:=QHF Dc h;obtain⟨b,h⟩:=QHF Dc h;obtain⟨s,h⟩:=QHF Dc h;obtain⟨d,h⟩:=QHF Dc h;obtain⟨g,h⟩:=QHF Dc h;refine⟨Om,?_⟩;have t:∀{l:List P3},¬0<(l.length:Int)->l=[]:=fun {l} h=>Wm Om;by_cases i:c=1\/c=2
 ·rw[show QAv c=(2000,true,false,false,false,true,()) from We i]at b d g;simp[QLa]at b d;exact .inl ⟨i,Om,Om,Om,b.2.2⟩
 by_cases j:c=3\/c=4
 ·rw[show QAv c=(125,true,false,false,false,true,()) by unfold QAv;rw[Wb i,We j]]at b d g;simp[QLa]at b d;exact .inr (.inl ⟨j,Om,Om,Om,b.2.2⟩)
 by_cases k:c=5
 ·rw[show QAv c=(1,false,true,false,false,true,()) by rw[k];rfl]at b d g;simp[QLa]at b d;exact .inr (.inr (.inl ⟨k,Om,Om,Om,b.2.2⟩))
 by_cases m:c=6
 ·rw[show QAv c=(1,false,false,true,false,true,()) by rw[m];rfl]at b d g;simp[QLa]at b d;exact .inr (.inr (.inr (.inl ⟨m,Om,Om,Om,b.2.2⟩)))
 by_cases o:c=15
 ·rw[show QAv c=(1968,false,true,false,false,true,()) by rw[o];rfl]at b d g;simp[QLa]at b d;exact .inr (.inr (.inr (.inr (.inl ⟨o,Om,Om,Om,b.2.2⟩))))
 by_cases p:c=16
 ·rw[show QAv c=(123,false,false,true,false,true,()) by rw[p];rfl]at b d g;simp[QLa]at b d;exact .inr (.inr (.inr (.inr (.inr (.inl ⟨p,Om,Om,Om,b.2.2⟩)))))
 by_cases q:c=20
 ·rw[show QAv c=(35,false,false,false,true,true,()) by rw[q];rfl]at b d g;simp[QLa]at b d;exact .inr (.inr (.inr (.inr (.inr (.inr ⟨q,Om,Om,Om,Om,h⟩)))))
 exfalso;refine r ?_;unfold QAv;rw[Wb i,Wb j,Wb k,Wb m,Wb o,Wb p,Wb q]
def QJE(p:P3):Ab:=6::(QCr p.1++(QCr p.2.1++QCr p.2.2))
def QTu(a:AskV):Ab:=
 if a.code=5 then QCr a.addr++QCr (if a.on.headD false=true then 65280 else 0)
 else if a.code=6 then QCr a.addr++QCr (a.set.headD 0)
 else if a.code=15 then QCr a.addr++QCr a.on.length++[UInt8.ofNat (QEW a.on).length]++QEW a.on
 else if a.code=16 then QCr a.addr++QCr a.set.length++[UInt8.ofNat (2*a.set.length)]++a.set.flatMap QCr
 else if a.code=20 then UInt8.ofNat (7*a.parts.length)::a.parts.flatMap QJE
 else QCr a.addr++QCr a.count
def QGK(a:AskV):Ab:=UInt8.ofNat a.code.toNat::QTu a
def QD2(a:AskV):Ab:=if a.e=0 then QGK a else []
theorem QE2(l:Ae):(l.flatMap QCr).length=2*l.length:=by
 induction l with
 | nil=>rfl
 | cons v l ih=>rw[U3,Wd,ih,Wl];simp[QCr];omega
theorem QZ4(p:P3):(QJE p).length=7:=rfl
theorem QPo(l:List P3):(l.flatMap QJE).length=7*l.length:=by
 induction l with
 | nil=>rfl
 | cons v l ih=>rw[U3,Wd,ih,Wl,QZ4];omega
theorem QGU(a:AskV)(a':QOG a.set)(d ss f:Sl):Ct Pr 108 [Qft a d ss f] (.tup [none,none]) [.slice,.I] [] (askR a d ss f) (fun t Bs=>t.2.1=a.e/\Bs=[Ar U8 t.1 (QD2 a)]):=by
 refine sp2 (Qbl _ _ _ _ _ _) fun B b0=>?_;obtain⟨a2,a3,a4⟩:=b0;haveI:Fro B d BL a.on:=⟨a2⟩;haveI:Fro B ss W16 a.set:=⟨a3⟩;haveI:Fro B f PaE a.parts:=⟨a4⟩;have a5:a.on.length=d.n:=a2.1;have a6:a.set.length=ss.n:=a3.1;have c2:a.parts.length=f.n:=a4.1;unfold Qbl mf;dsimp only;refine QAL fun b=>?_;iterate 3 (refine xgq ?_)
 refine xgS d (xgS ss (xgS f ?_));refine xd1 (QHq a.code a.addr a.count d ss f a.parts) ?_;rw[<-a5,<-a6,show askE a.code a.addr a.count a.on.length a.set.length a.parts=a.e from rfl];refine xif (fun h=>?_) (fun h=>?_)
 ·have h0:a.e≠0:=Si h
  refine QCD 0 (QAf U8 (QAD ⟨rfl,?_⟩));rw[show QD2 a=[] from Wb h0]
 have h0:a.e=0:=Si h
 obtain⟨⟨H,J⟩,W⟩:=QB8 h0
 have hc:IntKind.u8.wrap a.code=((UInt8.ofNat a.code.toNat).toNat:Int):=by
  rcases W with⟨q|q,_⟩|⟨q|q,_⟩|⟨q,_⟩|⟨q,_⟩|⟨q,_⟩|⟨q,_⟩|⟨q,_⟩<;>rw[q] <;> rfl
 rw[show QD2 a=QGK a from We h0];unfold QGK;refine xgq (QAL fun j=>xgq ?_);rw[hc];generalize c6:UInt8.ofNat a.code.toNat=cu
 have N:∀(x y:Int) {R:List HP}{K:Sl->WP},(0<=x/\x<=65535)->(0<=y/\y<=65535)->(∀s,Ent B (Ar U8 s (cu::(QCr x++QCr y))::R) (K s)) ->
   Ent B (Blk j [.int .u8 (cu.toNat:Int)]::R) (QCz [.I x,.I y] 3 fun P=>QAX Pr 170 [.slice (some ⟨j,0,none⟩) 1 1,.slice (some ⟨P,0,none⟩) 2 2] .one [.slice] K):=by
  intro x y R K hx G D;refine QAL fun P=>QAg (Q:=Ar I64 ⟨some ⟨P,0,none⟩,2,2⟩ [x,y]) 0 (fun g c=>⟨[],QAp [x,y] 2 rfl rfl c⟩) ?_;refine QAg (Q:=Ar U8 ⟨some ⟨j,0,none⟩,1,1⟩ [cu]) 1 (fun g c=>⟨[],QAp [cu] 1 rfl rfl c⟩) ?_;refine xn1 (L:=fun s=>[Ar U8 s (cu::(QCr x++QCr y))]) (QVx ⟨some ⟨j,0,none⟩,1,1⟩ [cu] ⟨some ⟨P,0,none⟩,2,2⟩ [x,y] (by intro v hv;simp at hv;omega) (by simp) (by simp)) (fun t Bs u=>by rw[u];simp) fun s=>?_;exact QCD 1 (D s)
 have O:∀{R:List HP}{s:Sl}{z:Ab},z=QTu a->Ent B (Ar U8 s (cu::z)::R) (Ret B (ss:=[.slice,.I]) (fun t Bs=>t.2.1=a.e/\Bs=[Ar U8 t.1 (cu::QTu a)]) (s,0,())):=by
  rintro R s z rfl;exact QAK [Ar U8 s (cu::QTu a)] (QAD ⟨h0.symm,rfl⟩)
 -- behind two numbers: how many bytes, and these
 have a7:∀{R:List HP}{s p:Sl}{xs ys:Ab}{k:Int},ys.length<=255->xs.length=5->k=ys.length->xs++[UInt8.ofNat ys.length]++ys=cu::QTu a->Ent B (Ar U8 s xs::Ar U8 p ys::R) (QCz [.int .u8 (IntKind.u8.wrap k)] 5 fun S=>QTn Pr 34 34 34 s.v (.slice (some ⟨S,0,none⟩) 1 1) fun b1=>QTn Pr 34 34 34 b1.v p.v fun b2=>Ret B (ss:=[.slice,.I]) (fun t Bs=>t.2.1=a.e/\Bs=[Ar U8 t.1 (cu::QTu a)]) (b2,0,())):=by
  rintro R s p xs ys k hl hx rfl c0;rw[show IntKind.u8.wrap (ys.length:Int)=((UInt8.ofNat ys.length).toNat:Int) from (QAu ys.length)];refine QAL fun S=>QAg (Q:=Ar U8 ⟨some ⟨S,0,none⟩,1,1⟩ [UInt8.ofNat ys.length]) 0 (fun g c=>⟨[],QAp [UInt8.ofNat ys.length] 1 rfl rfl c⟩) ?_;refine QHU (E:=U8) (s:=s) (y:=⟨some ⟨S,0,none⟩,1,1⟩) (hb:=by simp[hx]) (h:=fun l=>?_);refine QHU (E:=U8) (s:=l) (y:=p) (hb:=by simp[hx];omega) (h:=fun Z=>?_);rw[c0];exact QAK [Ar U8 Z (cu::QTu a)] (QAD ⟨h0.symm,rfl⟩)
 rcases W with⟨q,hn,A,C,M⟩|⟨q,hn,A,C,M⟩|⟨q,hn,A,C,M⟩|⟨q,hn,A,C,M⟩|⟨q,hn,A,C,M⟩|⟨q,hn,A,C,M⟩|⟨q,hn,A,C,M,c1⟩
 case inl=>
  iterate 5 (refine QBH (by rcases q with q|q<;>rw[q] <;> rfl) ?_)
  refine QAh (h:=QAh (h:=N a.addr a.count ⟨H,J⟩ Om fun s=>O ?_));rcases q with q|q <;> (unfold QTu;rw[q];rfl)
 case inr.inl=>
  iterate 5 (refine QBH (by rcases q with q|q<;>rw[q] <;> rfl) ?_)
  refine QAh (h:=QAh (h:=N a.addr a.count ⟨H,J⟩ Om fun s=>O ?_));rcases q with q|q <;> (unfold QTu;rw[q];rfl)
 case inr.inr.inl=>
  obtain⟨v,hv⟩:∃v,a.on=[v]:=List.length_eq_one_iff.1 A;refine QCC (by rw[q];rfl) (xgS d ?_);refine QAH (E:=BL) (xs:=a.on) (s:=d) (k:=0) (h1:=by rw[hv];exact Nat.zero_lt_one) (h:=fun _ _=>?_);refine QAN (E:=BL) (xs:=a.on) (i:=0) (x:=v) (by rw[hv];rfl) (h:=?_);refine QAV (fun(x:Int) As'=>x=(if v=true then 65280 else 0)/\As'=[Blk j [.int .u8 (cu.toNat:Int)],Blk b [.I a.code,.I a.addr,.I a.count,d.v,ss.v,f.v]]) (fun K D=>xif (fun h=>D _ _ ⟨by rw[We h],rfl⟩) (fun h=>D _ _ ⟨by rw[Wb (by rw[h];decide)],rfl⟩)) ?_;rintro _ _ ⟨rfl,rfl⟩;refine QAh (h:=N a.addr _ ⟨H,J⟩ (by split<;>omega) fun s=>O ?_);unfold QTu;rw[We q,hv];rfl
 case inr.inr.inr.inl=>
  obtain⟨v,hv⟩:∃v,a.set=[v]:=List.length_eq_one_iff.1 C;have X:=a' v (by rw[hv];simp);refine QBH (by rw[q];rfl) (QCC (by rw[q];rfl) (QAP (xgq (xgS ss ?_))));refine QAH (E:=W16) (xs:=a.set) (s:=ss) (k:=0) (h1:=by rw[hv];exact Nat.zero_lt_one) (h:=fun _ _=>?_);refine QAN (E:=W16) (xs:=a.set) (i:=0) (x:=v) (by rw[hv];rfl) (h:=?_);rw[QX3 v X.1 X.2];refine N a.addr v ⟨H,J⟩ X fun s=>O ?_;unfold QTu;rw[Wb Om,We q,hv];rfl
 case inr.inr.inr.inr.inl=>
  iterate 2 (refine QBH (by rw[q];rfl) ?_)
  refine QCC (by rw[q];rfl) (xgS d ?_);refine xn1 (L:=fun s=>[Ar U8 s (QEW a.on)]) (QKC d a.on Om) (fun t Bs u=>u) fun p=>?_;refine QCl (E:=U8) (xs:=QEW a.on) p fun b3 _=>?_;have c3:=QFJ a.on;have c5:QHO a.on.length=(a.on.length+7) / 8:=rfl;refine xgq (xgS d ?_);rw[<-a5];refine QAb [Blk j [.int .u8 (cu.toNat:Int)]] (N a.addr a.on.length ⟨H,J⟩ Om fun s=>a7 (k:=p.n) Om (by simp[QCr]) Om ?_);unfold QTu;rw[Wb Om,Wb Om,We q];simp[Wk]
 case inr.inr.inr.inr.inr.inl=>
  iterate 3 (refine QBH (by rw[q];rfl) ?_)
  refine QCC (by rw[q];rfl) (xgS ss ?_);refine xn1 (L:=fun s=>[Ar U8 s (a.set.flatMap QCr)]) (QFn ss a.set a' Om) (fun t Bs u=>u) fun p=>?_;refine QCl (E:=U8) (xs:=a.set.flatMap QCr) p fun b3 _=>?_;have c3:=QE2 a.set;refine xgq (xgS ss ?_);rw[<-a6];refine QAb [Blk j [.int .u8 (cu.toNat:Int)]] (N a.addr a.set.length ⟨H,J⟩ Om fun s=>a7 (k:=p.n) Om (by simp[QCr]) Om ?_);unfold QTu;rw[Wb Om,Wb Om,Wb Om,We q,QE2];simp[Wk]
 case inr.inr.inr.inr.inr.inr=>
  iterate 4 (refine QBH (by rw[q];rfl) ?_)
  refine QCC (by rw[q];rfl) (xgS f ?_);rw[<-c2,QAC (7*(a.parts.length:Int)) Om Om];rw[show IntKind.u8.wrap (7*(a.parts.length:Int))=((UInt8.ofNat (7*a.parts.length)).toNat:Int) from QAu (7*a.parts.length)];refine QAL fun a0=>QAg (Q:=Ar U8 ⟨some ⟨a0,0,none⟩,1,1⟩ [UInt8.ofNat (7*a.parts.length)]) 0 (fun g c=>⟨[],QAp [UInt8.ofNat (7*a.parts.length)] 1 rfl rfl c⟩) ?_;refine QAg (Q:=Ar U8 ⟨some ⟨j,0,none⟩,1,1⟩ [cu]) 1 (fun g c=>⟨[],QAp [cu] 1 rfl rfl c⟩) ?_;refine QHU (E:=U8) (s:=⟨some ⟨j,0,none⟩,1,1⟩) (y:=⟨some ⟨a0,0,none⟩,1,1⟩) (hb:=by simp) (h:=fun l=>?_);refine xgS f ?_;refine QAK [Ar U8 l ([cu]++[UInt8.ofNat (7*a.parts.length)])] ?_;refine QBt (fun n (s:Sl) (x:Int) As'=>∃k:Nat,x=(k:Int)/\n=a.parts.length - k/\k<=a.parts.length/\As'=[Ar U8 s ([cu,UInt8.ofNat (7*a.parts.length)]++(a.parts.take k).flatMap QJE)]) a.parts.length ⟨0,rfl,rfl,Om,by simp⟩ ?_;rintro n s x As' K ⟨k,rfl,rfl,W,rfl⟩ D;refine QAB (fun h=>?_) (fun h=>?_)
  ·have a8:k<a.parts.length:=Om
   obtain⟨⟨m,o,r⟩,G⟩:∃y,a.parts[k]? = some y:=⟨_,Wa a8⟩;have a9:=Qav a.parts 245 c1 _ (Wp G);refine QAH (E:=PaE) (xs:=a.parts) (s:=f) (k:=k) (h1:=a8) (h:=fun _ _=>?_);refine QAN (E:=PaE) (xs:=a.parts) G (h:=?_);refine QAa (E:=PaE) (xs:=a.parts) G (h:=?_);refine QAa (E:=PaE) (xs:=a.parts) G (h:=?_)
   (try dsimp only)
   unfold QaB at a9;simp at a9;refine QAL fun c4=>xsq (xsq (xsq (QAP ?_)))
   have V:((a.parts.take k).flatMap QJE).length=7*k:=by rw[QPo,Ww];omega
   have e:([cu,UInt8.ofNat (7*a.parts.length)]++(a.parts.take k).flatMap QJE++[6])++[m,o,r].flatMap QCr=[cu,UInt8.ofNat (7*a.parts.length)]++(a.parts.take (k+1)).flatMap QJE:=by
    rw[<-QGB G,Zf];simp[QJE,Wk]
   refine QAV (fun(b4:Sl) As'=>As'=[Ar U8 b4 ([cu,UInt8.ofNat (7*a.parts.length)]++(a.parts.take (k+1)).flatMap QJE)]) (fun b5 b6=>?_) ?_
   ·iterate 3 (refine xgq ?_)
    have Y:∀{U:Sl}{w:Nat}{R:List HP},Ent B (Ar U8 U ([cu,UInt8.ofNat (7*a.parts.length)]++(a.parts.take k).flatMap QJE++[6])::Blk w [.I m,.I o,.I r]::R) (QAX Pr 170 [U.v,.slice (some ⟨w,0,none⟩) 3 3] .one [.slice] fun b7=>b5 b7):=by
     intro U w R;refine QAg (Q:=Ar I64 ⟨some ⟨w,0,none⟩,3,3⟩ [m,o,r]) 1 (fun g c=>⟨[],QAp [m,o,r] 3 rfl rfl c⟩) ?_;refine xn1 (L:=fun s=>[Ar U8 s (([cu,UInt8.ofNat (7*a.parts.length)]++(a.parts.take k).flatMap QJE++[6])++[m,o,r].flatMap QCr)]) (QVx U _ ⟨some ⟨w,0,none⟩,3,3⟩ [m,o,r] (by intro v hv;simp at hv;omega) (by simp[V];omega) (by simp)) (fun t Bs u=>u) fun b8=>?_;rw[e];exact QAK [Ar U8 b8 ([cu,UInt8.ofNat (7*a.parts.length)]++(a.parts.take (k+1)).flatMap QJE)] (b6 _ _ rfl)
    refine QZK (QAL fun T=>QZK ?_ (QAL fun b9=>?_)) (QAL fun b'=>QAL fun a1=>?_)
    ·refine QAg (Q:=Ar U8 ⟨some ⟨T,0,none⟩,1,1⟩ [6]) 0 (fun g c=>⟨[],QAp [6] 1 rfl rfl c⟩) ?_;refine QHU (E:=U8) (s:=s) (y:=⟨some ⟨T,0,none⟩,1,1⟩) (hb:=by simp[V];omega) (h:=fun l=>?_);refine QDK (h:=QDK (h:=QDK (h:=QAL fun w=>?_)));exact QAb [Ar U8 l ([cu,UInt8.ofNat (7*a.parts.length)]++(a.parts.take k).flatMap QJE++[6]),Blk w [.I m,.I o,.I r]] Y
    ·refine QAg (Q:=Ar U8 ⟨some ⟨T,0,none⟩,1,1⟩ [6]) 1 (fun g c=>⟨[],QAp [6] 1 rfl rfl c⟩) ?_;refine QHU (E:=U8) (s:=s) (y:=⟨some ⟨T,0,none⟩,1,1⟩) (hb:=by simp[V];omega) (h:=fun l=>?_);refine QDK (h:=QDK (h:=QDK (h:=?_)));exact QAb [Ar U8 l ([cu,UInt8.ofNat (7*a.parts.length)]++(a.parts.take k).flatMap QJE++[6]),Blk b9 [.I m,.I o,.I r]] Y
    ·refine QAg (Q:=Ar U8 ⟨some ⟨a1,0,none⟩,1,1⟩ [6]) 0 (fun g c=>⟨[],QAp [6] 1 rfl rfl c⟩) ?_;refine QHU (E:=U8) (s:=s) (y:=⟨some ⟨a1,0,none⟩,1,1⟩) (hb:=by simp[V];omega) (h:=fun l=>?_);refine QDK (h:=QDK (h:=QDK (h:=?_)));exact QAb [Ar U8 l ([cu,UInt8.ofNat (7*a.parts.length)]++(a.parts.take k).flatMap QJE++[6]),Blk b' [.I m,.I o,.I r]] Y
   rintro Z _ rfl;rw[QAE k Om];exact D (a.parts.length - (k+1)) _ _ _ Om ⟨k+1,rfl,rfl,Om,rfl⟩
  ·rw[Wn Om];refine O ?_;unfold QTu;rw[Wb Om,Wb Om,Wb Om,Wb Om,We q];rfl
theorem gdE{α:Type}{xs:List α}{d:α}{i:Nat}(h:i<xs.length):xs[i]? = some (xs.getD i d):=by rw[W0,Wa h];rfl
theorem Qe6{a b:Int}(h:a≠b):(a == b)=false:=Si h
theorem Qeo(xs:Ab)(i:Nat):be2 xs i<65536:=by
 unfold be2;have:=(xs.getD i 0).toNat_lt;have:=(xs.getD (i+1) 0).toNat_lt;omega
def QBe(xs:Ab):AskV×Bool:=
 let c:=(xs.getD 0 0).toNat
 if c=20 then (⟨20,0,0,[],[],(QLL (xs.drop 2)).1⟩,(QLL (xs.drop 2)).2)
 else if c=5 then (⟨5,be2 xs 1,0,[((be2 xs 3:Nat):Int) == 65280],[],[]⟩,((be2 xs 3:Nat):Int) == 65280||((be2 xs 3:Nat):Int) == 0)
 else if c=6 then (⟨6,be2 xs 1,0,[],[be2 xs 3],[]⟩,true)
 else if c=15 then (⟨15,be2 xs 1,0,(QCI (xs.drop 6) (be2 xs 3)).1,[],[]⟩,(QCI (xs.drop 6) (be2 xs 3)).2 == 0)
 else if c=16 then (⟨16,be2 xs 1,0,[],(QCZ (xs.drop 6)).1,[]⟩,(QCZ (xs.drop 6)).2 == 0&&(((QCZ (xs.drop 6)).1.length:Int) == (be2 xs 3:Nat)))
 else (⟨c,be2 xs 1,be2 xs 3,[],[],[]⟩,true)
abbrev Qeu(s:Sh):List Sh:=[.I,.I,.I,.slice,.slice,.slice,s]
def QNf{s:Sh}(a:AskV)(e:s.ty)(t:Tup (Qeu s))(Bs:List HP):Prop:=
 t.1=a.code/\t.2.1=a.addr/\t.2.2.1=a.count/\t.2.2.2.2.2.2.1=e/\Bs=[Ar BL t.2.2.2.1 a.on,Ar W16 t.2.2.2.2.1 a.set,Ar PaE t.2.2.2.2.2.1 a.parts]
def QNL(c:Nat):Bool:=(QAv c).2.2.2.2.2.1
theorem QSG{c:Nat}(h:QNL c=true):c=1\/c=2\/c=3\/c=4\/c=5\/c=6\/c=15\/c=16\/c=20:=by
 unfold QNL QAv at h
 (repeat' split at h)<;>first|omega|cases h
theorem QT3{xs:Ab}(h:QIZ xs=0):((xs.getD 0 0).toNat=20->2<=xs.length/\xs.length=2+(xs.getD 1 0).toNat)/\(15<=(xs.getD 0 0).toNat->(xs.getD 0 0).toNat<20->6<=xs.length/\xs.length=6+(xs.getD 5 0).toNat)/\((xs.getD 0 0).toNat<15->xs.length=5):=by
 unfold QIZ at h;obtain⟨d,h⟩:=QHF Dc h;obtain⟨a,h⟩:=QHF Dc h;obtain⟨b,_⟩:=QHF Dc h;refine⟨fun hc=>?_,fun h1 c=>?_,fun hc=>?_⟩
 ·rw[We hc]at a b;omega
 ·rw[Wb Om,We h1]at a b;omega
 ·rw[Wb Om,Wb Om]at a b;omega
theorem QkL(v:Nat)(h:v<65536):IntKind.u16.wrap (v:Int)=(v:Int):=by
 have a:(2 ^ IntKind.u16.bits:Int)=65536:=Dc
 have b:IntKind.u16.signed=false:=rfl;simp only[IntKind.wrap,a,b,Bool.false_and];simp;omega
theorem QSC(xs:Ab)(h1:1<=xs.length)(b2:QNL (xs.getD 0 0).toNat=true)(b3:QIZ xs=0)(b:Sl)(N:b.n<=b.c):Ct Pr 162 [b.v] (.tup [some 6,none]) (Qeu .bool) [] (RAr U8 b xs) (QNf (QBe xs).1 (QBe xs).2):=by
 refine QAm (ss:=Qeu .bool) (φ:=fun K=>(QP1 _ K).1) (fun h=>cf _ rfl Kr h) fun B u=>?_;show Ent B [] (QP1 b fun O P R S T U V=>Ret B (ss:=Qeu .bool) (QNf (QBe xs).1 (QBe xs).2) (O,P,R,S,T,U,V,()));haveI:Fro B b U8 xs:=⟨u⟩;have hn:=u.1;obtain⟨z20,D,z5⟩:=QT3 b3;unfold QP1 mf;dsimp only;refine QAL fun X=>QAH (E:=U8) (xs:=xs) (s:=b) (k:=0) (h1:=h1) (h:=fun _ _=>?_);refine QAN (E:=U8) (xs:=xs) (i:=0) (gdE (d:=0) h1) (h:=QAL fun Y=>?_);have b5:=(xs.getD 0 0).toNat_lt;have a3:=QSG b2;rw[QX3 ((xs.getD 0 0).toNat:Int) Om Om];iterate 6 (refine xsq ?_)
 refine xgq ?_;by_cases a:(xs.getD 0 0).toNat=20
 ·rw[show QBe xs=(⟨20,0,0,[],[],(QLL (xs.drop 2)).1⟩,(QLL (xs.drop 2)).2) from We a];obtain⟨b4,hl⟩:=z20 a;have:=(xs.getD 1 0).toNat_lt;refine QCC (by rw[a];rfl) ?_;refine QEi Om Om Om Om ?_;simp only[Wh];have J:=u.cut 2 b.n b.c Om N Om
  have e:(xs.take b.n).drop 2=xs.drop 2:=by rw[Wn Om]
  haveI:Fro B (b.cut (Int.toNat 2) b.n b.c 1) U8 (xs.drop 2):=⟨e ▸ J⟩;refine xcl (QYr (b.cut (Int.toNat 2) b.n b.c 1) (xs.drop 2) (by simp;omega) (by simp[Sl.cut];omega)) rdb ?_;rintro⟨G,c,_⟩ _ ⟨hc,rfl⟩;simp only at hc;subst hc;refine QAz (ca2 (xsq ?_));iterate 5 (first|refine xgq ?_|refine xgT (h:=?_))
  refine xgS G ?_;iterate 6 (refine xsq ?_)
  iterate 5 (first|refine xgq ?_|refine xgT (h:=?_))
  refine xgS G ?_;refine QAf W16 (QAf BL (QAK [Ar BL nilS [],Ar W16 nilS [],Ar PaE G (QLL (xs.drop 2)).1] (QAD ⟨?_,rfl,rfl,rfl,rfl⟩)));show ((xs.getD 0 0).toNat:Int)=20;omega
 have b6:5<=xs.length:=by rcases a3 with q|q|q|q|q|q|q|q|q<;>first|omega|(have:=z5 Om;omega)|(have:=(D Om Om).1;omega)
 have L:∀(i:Nat),i+1<xs.length->(((xs.getD i 0).toNat*256+(xs.getD (i+1) 0).toNat:Nat):Int)=((be2 xs i:Nat):Int):=fun _ _=>rfl;refine QBH (Qe6 Om) (QAP ?_);refine QAH (E:=U8) (xs:=xs) (s:=b) (k:=1) (h1:=Om) (h:=fun _ _=>?_);refine QAN (E:=U8) (xs:=xs) (i:=1) (gdE (d:=0) Om) (h:=QBA Dc ?_);refine QAH (E:=U8) (xs:=xs) (s:=b) (k:=2) (h1:=Om) (h:=fun _ _=>?_);refine QAN (E:=U8) (xs:=xs) (i:=2) (gdE (d:=0) Om) (h:=?_);rw[QPC,L 1 Om];refine xsq (QAP ?_);refine QAH (E:=U8) (xs:=xs) (s:=b) (k:=3) (h1:=Om) (h:=fun _ _=>?_);refine QAN (E:=U8) (xs:=xs) (i:=3) (gdE (d:=0) Om) (h:=QBA Dc ?_);refine QAH (E:=U8) (xs:=xs) (s:=b) (k:=4) (h1:=Om) (h:=fun _ _=>?_);refine QAN (E:=U8) (xs:=xs) (i:=4) (gdE (d:=0) Om) (h:=xgq ?_);rw[QPC,L 3 Om];have a4:=Qeo xs 3;obtain⟨r,l⟩:∃r,QBe xs=r:=⟨_,rfl⟩;rw[l]
 have f:r.1.code=((xs.getD 0 0).toNat:Int)/\r.1.addr=((be2 xs 1:Nat):Int):=by
  rw[<-l];unfold QBe;simp only[Wb a];repeat' split
  all_goals first|exact⟨rfl,rfl⟩|exact⟨by simp only;omega,rfl⟩
 obtain⟨f,a0⟩:=f;rw[<-f,<-a0]
 have M:6<=xs.length->RAr U8 (b.cut (Int.toNat 6) b.n b.c 1) (xs.drop 6) (frz B.W B.h0):=fun w=>by
  have J:=u.cut 6 b.n b.c Om N Om
  have e:(xs.take b.n).drop 6=xs.drop 6:=by rw[Wn Om]
  exact e ▸ J
 refine QAV (fun(x:Bool) As'=>x=r.2/\∃m ss o:Sl,As'=[Ar BL m r.1.on,Ar W16 ss r.1.set,Ar PaE o r.1.parts,Blk Y [.I r.1.code,.I r.1.addr,.I r.1.count,m.v,ss.v,o.v],Blk X [.I 0,.I 0,.I 0,.slice none 0 0,.slice none 0 0,.slice none 0 0]]) (fun K p=>?_) ?_
 ·refine xif (fun h=>?_) (fun h=>?_)
  ·have a5:(xs.getD 0 0).toNat=5:=by rw[f]at h;have:=eq_of_beq h;omega
   obtain rfl:(⟨5,be2 xs 1,0,[((be2 xs 3:Nat):Int) == 65280],[],[]⟩,((be2 xs 3:Nat):Int) == 65280||((be2 xs 3:Nat):Int) == 0)=r:=by
    rw[<-l];unfold QBe;simp only[Wb a,We a5]
   refine QAL fun j=>xsq ?_;refine QAb [Blk j [.bool (((be2 xs 3:Nat):Int) == 65280)]] (QAg (Q:=Ar BL ⟨some ⟨j,0,none⟩,1,1⟩ [((be2 xs 3:Nat):Int) == 65280]) 0 (fun g C=>⟨[],QAp [((be2 xs 3:Nat):Int) == 65280] 1 rfl rfl C⟩) ?_);exact QAf W16 (QAf PaE (QAb [Ar BL ⟨some ⟨j,0,none⟩,1,1⟩ [((be2 xs 3:Nat):Int) == 65280],Ar W16 nilS [],Ar PaE nilS []] (p _ _ ⟨rfl,_,_,_,rfl⟩)))
  refine QAM (xif (fun y=>?_) (fun y=>?_))
  ·have a6:(xs.getD 0 0).toNat=6:=by rw[f]at y;have:=eq_of_beq y;omega
   obtain rfl:(⟨6,be2 xs 1,0,[],[((be2 xs 3:Nat):Int)],[]⟩,true)=r:=by
    rw[<-l];unfold QBe;simp only[Wb a,We a6];rw[Wb Om]
   rw[QkL (be2 xs 3) a4];refine QAL fun j=>xsq ?_;refine QAb [Blk j [.int .u16 ((be2 xs 3:Nat):Int)]] (QAg (Q:=Ar W16 ⟨some ⟨j,0,none⟩,1,1⟩ [((be2 xs 3:Nat):Int)]) 0 (fun g C=>⟨[],QAp [((be2 xs 3:Nat):Int)] 1 rfl rfl C⟩) ?_);exact QAf BL (QAf PaE (QAb [Ar BL nilS [],Ar W16 ⟨some ⟨j,0,none⟩,1,1⟩ [((be2 xs 3:Nat):Int)],Ar PaE nilS []] (p _ _ ⟨rfl,_,_,_,rfl⟩)))
  refine QAM (xif (fun z=>?_) (fun z=>?_))
  ·have a7:(xs.getD 0 0).toNat=15:=by rw[f]at z;have:=eq_of_beq z;omega
   obtain rfl:(⟨15,be2 xs 1,0,(QCI (xs.drop 6) (be2 xs 3)).1,[],[]⟩,(QCI (xs.drop 6) (be2 xs 3)).2 == 0)=r:=by
    rw[<-l];unfold QBe;simp only[Wb a,We a7];rw[Wb Om,Wb Om]
   obtain⟨w,hl⟩:=D Om Om;refine QEi Om Om Om Om ?_;simp only[Wh];haveI:Fro B (b.cut (Int.toNat 6) b.n b.c 1) U8 (xs.drop 6):=⟨M w⟩;refine xcl (QNx (b.cut (Int.toNat 6) b.n b.c 1) (xs.drop 6) (be2 xs 3) Om) rdb ?_;rintro⟨a1,(a2:Int),_⟩ _ ⟨t,rfl⟩;simp only at t;subst t;refine QAz (ca2 (xsq ?_));exact QAf W16 (QAf PaE (QAb [Ar BL a1 (QCI (xs.drop 6) (be2 xs 3)).1,Ar W16 nilS [],Ar PaE nilS []] (p _ _ ⟨rfl,_,_,_,rfl⟩)))
  refine QAM (xif (fun A=>?_) (fun A=>?_))
  ·have a8:(xs.getD 0 0).toNat=16:=by rw[f]at A;have:=eq_of_beq A;omega
   obtain rfl:(⟨16,be2 xs 1,0,[],(QCZ (xs.drop 6)).1,[]⟩,(QCZ (xs.drop 6)).2 == 0&&(((QCZ (xs.drop 6)).1.length:Int) == (be2 xs 3:Nat)))=r:=by
    rw[<-l];unfold QBe;simp only[Wb a,We a8];rw[Wb Om,Wb Om,Wb Om]
   obtain⟨w,hl⟩:=D Om Om;have:=(xs.getD 5 0).toNat_lt;refine QEi Om Om Om Om ?_;simp only[Wh];haveI:Fro B (b.cut (Int.toNat 6) b.n b.c 1) U8 (xs.drop 6):=⟨M w⟩;refine xcl (QHf (b.cut (Int.toNat 6) b.n b.c 1) (xs.drop 6) (by simp;omega)) rdb ?_;rintro⟨H,(a2:Int),_⟩ _ ⟨t,rfl⟩;simp only at t;subst t;refine QAz (ca2 (xsq ?_));refine QAb [Ar W16 H (QCZ (xs.drop 6)).1] (QCl (E:=W16) (xs:=(QCZ (xs.drop 6)).1) H fun Z _=>?_);exact QAf BL (QAf PaE (QAb [Ar BL nilS [],Ar W16 H (QCZ (xs.drop 6)).1,Ar PaE nilS []] (p _ _ ⟨by rw[<-Z],_,_,_,rfl⟩)))
  ·have hc:∀{k:Nat},(r.1.code == (k:Int))=false->(xs.getD 0 0).toNat≠k:=fun {k} h=>by rw[f]at h;have:=Wv h;omega
   have a9:=hc (k:=5) h;have a':=hc (k:=6) y;have b0:=hc (k:=15) z;have b1:=hc (k:=16) A
   obtain rfl:(⟨(xs.getD 0 0).toNat,be2 xs 1,be2 xs 3,[],[],[]⟩,true)=r:=by
    rw[<-l];unfold QBe;simp only[Wb a,Wb a9,Wb a',Wb b0,Wb b1]
   refine xsq ?_;exact QAf W16 (QAf BL (QAf PaE (QAb [Ar BL nilS [],Ar W16 nilS [],Ar PaE nilS []] (p _ _ ⟨rfl,_,_,_,rfl⟩))))
 rintro _ _ ⟨rfl,m,ss,o,rfl⟩;iterate 3 (refine xgq ?_)
 refine xgS m (xgS ss (xgS o ?_));iterate 6 (refine xsq ?_)
 iterate 3 (refine xgq ?_)
 refine xgS m (xgS ss (xgS o ?_));exact QAK [Ar BL m r.1.on,Ar W16 ss r.1.set,Ar PaE o r.1.parts] (QAD ⟨rfl,rfl,rfl,rfl,rfl⟩)
def QAT(xs:Ab):AskV×Int:=
 if xs.length=0 then (Qet,1) else
 if QNL (xs.getD 0 0).toNat=false then (Qet,20) else
 if QIZ xs≠0 then (Qet,QIZ xs) else
 if (QBe xs).2=false then (Qet,4) else
 if (QBe xs).1.e≠0 then (Qet,(QBe xs).1.e) else ((QBe xs).1,0)
theorem QGp(xs:Ab)(O:xs.length<=1000000)(b:Sl)(P:b.n<=b.c):Ct Pr 105 [b.v] (.tup [some 6,none]) (Qeu (.I)) [] (RAr U8 b xs) (QNf (QAT xs).1 (QAT xs).2):=by
 refine QAm (ss:=Qeu (.I)) (φ:=fun K=>(QVR _ K).1) (fun h=>cf _ rfl Kr h) fun B u=>?_;show Ent B [] (QVR b fun z A C D G H J=>Ret B (ss:=Qeu (.I)) (QNf (QAT xs).1 (QAT xs).2) (z,A,C,D,G,H,J,()));haveI:Fro B b U8 xs:=⟨u⟩;have hn:=u.1;unfold QVR mf;dsimp only
 have bad:∀{f:Nat}{cs:Ad}{R:List HP}{e:Int},cs.length=6->QAT xs=(Qet,e)->Ent B (Blk f [.I 0,.I 0,.I 0,.slice none 0 0,.slice none 0 0,.slice none 0 0]::R)
   (QBE ⟨f,0,none⟩ (.I 0)<|QBE ⟨f,1,none⟩ (.I 0)<|QBE ⟨f,2,none⟩ (.I 0)<|QBE ⟨f,3,none⟩ (.slice none 0 0)<|QBE ⟨f,4,none⟩ (.slice none 0 0)<|QBE ⟨f,5,none⟩ (.slice none 0 0)<|QAn (.I) ⟨f,0,none⟩ fun(v:Int)=>QAn (.I) ⟨f,1,none⟩ fun(w:Int)=>QAn (.I) ⟨f,2,none⟩ fun(v2:Int)=>QAn .slice ⟨f,3,none⟩ fun v3=>QAn .slice ⟨f,4,none⟩ fun v4=>QAn .slice ⟨f,5,none⟩ fun v5=>Ret B (ss:=Qeu (.I)) (QNf (QAT xs).1 (QAT xs).2) (v,w,v2,v3,v4,v5,e,())):=by
  intro f cs R e _ he;rw[he];iterate 6 (refine xsq ?_)
  iterate 6 (first|refine xgq ?_|refine xgT (h:=?_))
  exact QAf W16 (QAf BL (QAf PaE (QAK [Ar BL nilS [],Ar W16 nilS [],Ar PaE nilS []] (QAD ⟨rfl,rfl,rfl,rfl,rfl⟩))))
 refine QAL fun f=>xif (fun h=>?_) (fun h=>?_)
 ·exact bad (cs:=[0,0,0,0,0,0].map fun k=>Value.int .i64 k) rfl (by unfold QAT;rw[We];simp at h;omega)
 have h0:xs.length≠0:=by simp at h;omega
 refine QAH (E:=U8) (xs:=xs) (s:=b) (k:=0) (h1:=Om) (h:=fun _ _=>?_);refine QAN (E:=U8) (xs:=xs) (i:=0) (gdE (d:=0) Om) (h:=?_);have W:=(xs.getD 0 0).toNat_lt;rw[QX3 ((xs.getD 0 0).toNat:Int) Om Om];refine xcl (QNs ((xs.getD 0 0).toNat:Int)) rdb ?_;rintro⟨r,c,T,U,V,M,_⟩ _ ⟨t,rfl⟩
 have y:QNL (xs.getD 0 0).toNat=M:=by unfold QNL;rw[<-t]
 refine QA2 (ca6 (QAL fun Q=>?_));iterate 5 (refine xsq ?_)
 refine xif (fun h=>?_) (fun h=>?_)
 ·refine QCD 0 (bad (cs:=[0,0,0,0,0,0].map fun k=>Value.int .i64 k) rfl ?_);unfold QAT;rw[Wb h0,We];rw[y];simpa using h
 have l:QNL (xs.getD 0 0).toNat=true:=by rw[y];simpa using h
 refine xd1 (QTx b xs Om (by rcases QSG l with q|q|q|q|q|q|q|q|q<;>omega) O) (xif (fun h=>?_) (fun h=>?_))
 ·have m:QIZ xs≠0:=Si h
  exact QCD 0 (bad (cs:=[0,0,0,0,0,0].map fun k=>Value.int .i64 k) rfl (by unfold QAT;rw[Wb h0,Wb (by rw[l];decide),We m]))
 have m:QIZ xs=0:=Si h
 refine xcl (QSC xs Om l m b P) rdb ?_;rintro⟨v0,w,v2,g,ss,j,ok,_⟩ _ ⟨rfl,rfl,rfl,x,rfl⟩;simp only at x;subst x;refine QLn (ca7 (QAL fun S=>?_));iterate 6 (refine xsq ?_)
 obtain⟨⟨a,k⟩,o⟩:∃r,QBe xs=r:=⟨_,rfl⟩;rw[o]
 (try simp only)
 refine xif (fun h=>?_) (fun h=>?_)
 ·have p:k=false:=Si h
  refine QAb [Blk f [.I 0,.I 0,.I 0,.slice none 0 0,.slice none 0 0,.slice none 0 0]] (bad (cs:=[0,0,0,0,0,0].map fun k=>Value.int .i64 k) rfl ?_);unfold QAT;rw[Wb h0,Wb (by rw[l];decide),Wb (by rw[m];decide),o,We p]
 have p:k=true:=Si h
 iterate 3 (refine xgq ?_)
 refine xgS g (xgS ss (xgS j ?_));refine QAb [Ar BL g a.on,Ar W16 ss a.set,Ar PaE j a.parts] (QCl (E:=BL) (xs:=a.on) g fun L _=>?_);refine QAb [Ar W16 ss a.set] (QCl (E:=W16) (xs:=a.set) ss fun t _=>?_);refine xd1 (QHq a.code a.addr a.count g ss j a.parts) ?_;rw[<-L,<-t,show askE a.code a.addr a.count a.on.length a.set.length a.parts=a.e from rfl];refine xif (fun h=>?_) (fun h=>?_)
 ·have he:a.e≠0:=Si h
  refine QAb [Blk f [.I 0,.I 0,.I 0,.slice none 0 0,.slice none 0 0,.slice none 0 0]] (bad (cs:=[0,0,0,0,0,0].map fun k=>Value.int .i64 k) rfl ?_);unfold QAT;rw[Wb h0,Wb (by rw[l];decide),Wb (by rw[m];decide),o];simp only;rw[Wb (by rw[p];decide),We he]
 have he:a.e=0:=Si h
 have N:QAT xs=(a,0):=by
  unfold QAT;rw[Wb h0,Wb (by rw[l];decide),Wb (by rw[m];decide),o];simp only;rw[Wb (by rw[p];decide),Wb (by rw[he];decide)]
 rw[N];iterate 3 (refine xgq ?_)
 refine xgS g (xgS ss (xgS j ?_));iterate 6 (refine xsq ?_)
 iterate 3 (refine xgq ?_)
 refine xgS g (xgS ss (xgS j ?_));exact QAK [Ar BL g a.on,Ar W16 ss a.set,Ar PaE j a.parts] (QAD ⟨rfl,rfl,rfl,rfl,rfl⟩)
theorem Qgl:Pr.underlying 34=some (.slice 5)/\Pr.underlying 5=some (.int .u8)/\Pr.underlying 9=some .string:=⟨Kr,Kr,Kr⟩
theorem Qjb{s:Sl}{xs:Ab}[r:RdA B As s U8 xs](hx:0<xs.length){K:ByteArray->WP}(h:Ent B As (K (strOfNums (xs.map fun x=>(x.toNat:Int))))):Ent B As (QLu Pr (convert 34 9 s.v) .str K):=by
 intro w e;obtain⟨g,j,k⟩:=Qgl;have d:=r.rd w e;obtain⟨p,n,c⟩:=s;have hn:xs.length=n:=d.1;refine⟨_,w,?_,h w e⟩;obtain⟨b,o,a,_⟩:=d.cell (Wa hx) U8.pos;simp only at a;subst a;refine run_convert_bytes_arg (P:=Pr) w 34 5 g j b o n c _ (Si hn) (fun i hi=>?_) 9 k
 have f:i<xs.length:=Om
 obtain⟨l,o',a,_,hc⟩:=d.cell (Wa f) U8.pos;simp only[Wg,Addr.mk.injEq]at a;obtain⟨rfl,rfl,_⟩:=a;simp only[show U8.sz=1 from rfl,Nat.mul_one,Kq]at hc;rw[hc];simp[U8,W0,f]
def eqM(xs ys:Ab):Bool:=(strOfNums (xs.map fun x=>(x.toNat:Int))).toList == (strOfNums (ys.map fun x=>(x.toNat:Int))).toList
theorem QX6(a b:Sl)(xs ys:Ab)(hx:0<xs.length)(d:0<ys.length):Ct Pr 428 [a.v,b.v] .one [.bool] [] ((RAr U8 a xs).and (RAr U8 b ys)) (fun t Bs=>t.1=eqM xs ys/\Bs=[]):=by
 refine QG9 QRR fun B c=>?_;haveI e:Fro B a U8 xs:=⟨c.1⟩;haveI f:Fro B b U8 ys:=⟨c.2⟩;unfold QNi;exact Qjb (s:=a) (xs:=xs) hx (Qjb (s:=b) (xs:=ys) d (QAD ⟨rfl,rfl⟩))
theorem QWN(l:Sl)(xs:Ab)(j:xs.length<=140737488351232)[c:Fro B l U8 xs]{K:Sl->WP}(h:∀s,Ent B (Ar U8 s xs::As) (K s)) :
  Ent B As (XIf (QCy l.p) (K ⟨none,0,0⟩) (QCz [] 5 fun b=>QTn Pr 34 34 34 (.slice (some ⟨b,0,none⟩) 0 0) l.v fun s=>K s)):=by
 have i:=c.rd.1;refine xif (fun a=>?_) (fun a=>?_)
 ·have:xs=[]:=by
   refine Wm ?_;rw[i];rcases Z6 l.n with h0|h0
   ·exact h0
   ·obtain⟨b,o,_,_,_,_,f,_⟩:=c.rd.2.2 h0;rw[f]at a;simp[QCy]at a
  subst this;exact QAf U8 (h _)
 ·refine QAL fun b=>QAg (Q:=Ar U8 ⟨some ⟨b,0,none⟩,0,0⟩ []) 0 (fun g d=>⟨[],QAp [] 0 rfl rfl d⟩) ?_;refine QHU (E:=U8) (s:=⟨some ⟨b,0,none⟩,0,0⟩) (xs:=[]) (y:=l) (ys:=xs) (hb:=by simp;omega) (h:=fun e=>?_);exact h e
theorem QUW(l:Sl)(xs:Ab)(b:xs.length<=140737488351232):Ct Pr 167 [l.v] .one [.slice] [] (RAr U8 l xs) (fun t Bs=>Bs=[Ar U8 t.1 xs]):=by
 refine sp1 (QM0 _) fun B a=>?_;haveI:Fro B l U8 xs:=⟨a⟩;unfold QM0 mf;dsimp only;show Ent B [] (XIf (QCy l.p) _ _);refine QWN (B:=B) (As:=[]) (K:=fun s=>Ret B (ss:=[.slice]) (fun t Bs=>Bs=[Ar U8 t.1 xs]) (s,())) l xs b fun s=>?_;exact QAD rfl
theorem QMN(l:Sl)(xs:Ab)(b:xs.length<=140737488351232):Ct Pr 52 [l.v] .one [.slice] [] (RAr U8 l xs) (fun t Bs=>Bs=[Ar U8 t.1 xs]):=by
 refine sp1 (QBT _) fun B a=>?_;haveI:Fro B l U8 xs:=⟨a⟩;unfold QBT mf;dsimp only;show Ent B [] (XIf (QCy l.p) _ _);refine QWN (B:=B) (As:=[]) (K:=fun s=>Ret B (ss:=[.slice]) (fun t Bs=>Bs=[Ar U8 t.1 xs]) (s,())) l xs b fun s=>?_;exact QAD rfl
structure RepV where
 exc:Int
 on:List Bool
 set:Ae
 files:List Ae
abbrev QPJ:RepV:=⟨0,[],[],[]⟩
abbrev QgR(exc:Int)(a rs b:Sl):Value:=.agg #[.I exc,a.v,rs.v,b.v]
def QLx(c:Int)(a b d:Nat):Bool:=
 if c=1\/c=2 then decide ((b:Int)>0)||decide ((d:Int)>0)
 else if c=3\/c=4 then decide ((a:Int)>0)||decide ((d:Int)>0)
 else if c=20 then decide ((a:Int)>0)||decide ((b:Int)>0)
 else (decide ((a:Int)>0)||decide ((b:Int)>0))||decide ((d:Int)>0)
theorem QZN{c a b:Int}{K:Bool->WP}(h1:c=a\/c=b->Ent B As (K true))(e:¬(c=a\/c=b)->Ent B As (K false)):Ent B As (QBW [.bool] (fun(d:Bool->WP)=>XIf (c == a) (d (c == a)) (d (c == b))) K):=by
 refine QAM (xif (fun h=>?_) (fun h=>?_))
 ·rw[h];exact h1 (.inl (eq_of_beq h))
 ·have f:=Wv h;by_cases hb:c=b
  ·rw[show (c == b)=true from by rw[hb];exact beq_self_eq_true b];exact h1 (.inr hb)
  ·rw[Qe6 hb];exact e Om
theorem QHg(c exc:Int)(d rs e:Sl):Ct Pr 253 [.I c,QgR exc d rs e] .one [.bool] [] emp (fun t Bs=>t.1=QLx c d.n rs.n e.n/\Bs=[]):=by
 refine sp1 (QEc _ _ _ _ _) fun B _=>?_;unfold QEc mf;dsimp only;refine QAL fun b=>QAP (xgS d (xgS rs (xgS e ?_)));unfold QLx;refine QZN (fun h1=>QCC rfl (QAd (l:=[]) (QAD ⟨by rw[We h1],rfl⟩))) fun h1=>QBH rfl ?_;refine QZN (fun a=>QCC rfl (QAd (l:=[]) (QAD ⟨by rw[Wb h1,We a],rfl⟩))) fun a=>QBH rfl ?_;refine xif (fun h=>QAd (l:=[]) (QAD ⟨by rw[Wb h1,Wb a,We (eq_of_beq h)],rfl⟩)) (fun h=>QAd (l:=[]) (QAD ⟨by rw[Wb h1,Wb a,Wb (Wv h)],rfl⟩))
def QLI:List P3->Af->Bool
 | [],_=>true
 | _::_,[]=>false
 | p::ps,f::fs=>if (f:Int)≠p.2.2 then false else QLI ps fs
def QIH(c count:Int)(ps:List P3)(b d:Nat)(a:Af):Bool:=
 if c=1\/c=2 then (b:Int) == count
 else if c=3\/c=4 then (d:Int) == count
 else if a.length≠ps.length then false else QLI ps a
theorem QHr(code addr count exc:Int)(u ss e o rs g:Sl)(ps:List P3)(O:ps.length<=1000000)(d:List Sl):Ct Pr 254 [.agg #[.I code,.I addr,.I count,u.v,ss.v,e.v],QgR exc o rs g] .one [.bool] [] ((RAr PaE e ps).and (RAr SL g d)) (fun t Bs=>t.1=QIH code count ps o.n rs.n (d.map Sl.n)/\Bs=[]):=by
 refine sp1 (QEd _ _ _ _ _ _ _ _ _ _) fun B j=>?_;haveI:Fro B e PaE ps:=⟨j.1⟩;haveI:Fro B g SL d:=⟨j.2⟩;have L:=j.1.1;have M:=j.2.1;unfold QEd mf QIH;dsimp only;refine QAL fun b=>QAL fun w=>xgq ?_;refine QZN (fun h1=>QCC rfl (QAh (s:=.slice) (x:=o) (hv:=rfl) (h:=QAh (h:=QAd (l:=[]) (QAD ⟨by rw[We h1],rfl⟩))))) fun h1=>QBH rfl ?_;rw[Wb h1];refine QZN (fun p=>QCC rfl (QAh (s:=.slice) (x:=rs) (hv:=rfl) (h:=QAh (h:=QAd (l:=[]) (QAD ⟨by rw[We p],rfl⟩))))) fun p=>QBH rfl ?_;rw[Wb p];refine xgS g (xgS e (xif (fun h=>?_) (fun h=>?_)))
 ·refine QAd (l:=[]) (QAD ⟨?_,rfl⟩)
  have:¬((g.n:Int)=e.n):=Si h
  rw[We (by simp;omega)]
 have N:d.length=ps.length:=by have:=eq_of_beq (show ((g.n:Int) == (e.n:Int))=true by simpa using h);omega
 rw[Wb (by simp;omega)];refine xgS e ?_;refine QBa (fun n (x:Int) As'=>∃k:Nat,x=(k:Int)/\n=ps.length - k/\k<=ps.length/\QLI ps (d.map Sl.n)=QLI (ps.drop k) ((d.map Sl.n).drop k)/\As'=[Blk w [.I exc,o.v,rs.v,g.v],Blk b [.I code,.I addr,.I count,u.v,ss.v,e.v]]) ps.length ⟨0,rfl,rfl,Om,rfl,rfl⟩ ?_;rintro n x As' K ⟨k,rfl,rfl,J,i,rfl⟩ A;refine QAB (fun z=>?_) (fun z=>?_)
 ·have q:k<ps.length:=Om
  obtain⟨⟨a,f,c⟩,m⟩:∃y,ps[k]? = some y:=⟨_,Wa q⟩;obtain⟨C,r⟩:∃y,d[k]? = some y:=⟨_,Wa Om⟩
  have D:ps.drop k=(a,f,c)::ps.drop (k+1):=by rw[Ws q];congr 1;exact (Wc.1 m).2
  have G:(d.map Sl.n).drop k=C.n::(d.map Sl.n).drop (k+1):=by
   rw[Ws (by simp;omega)];congr 1;rw[List.getElem_map];congr 1;exact (Wc.1 r).2
  rw[D,G,QLI]at i;refine QAH (E:=PaE) (xs:=ps) (s:=e) (h1:=q) (h:=fun _ _=>?_);refine QAN (E:=PaE) (xs:=ps) m (h:=?_);refine QAa (E:=PaE) (xs:=ps) m (h:=?_);refine QAa (E:=PaE) (xs:=ps) m (h:=?_)
  (try dsimp only)
  refine QAL fun H=>xsq (xsq (xsq (QAP (xgS g ?_))));refine QAH (E:=SL) (xs:=d) (s:=g) (h1:=Om) (h:=fun _ _=>?_);refine QAN (E:=SL) (xs:=d) r (h:=xgq (xif (fun h=>?_) (fun h=>?_)))
  ·refine QAd (l:=[]) (QAD ⟨?_,rfl⟩);rw[i,We];simpa using h
  ·rw[Wb (Si h)]at i;rw[QAE k Om];exact QCD 0 (A (ps.length - (k+1)) _ _ Om ⟨k+1,rfl,rfl,Om,i,rfl⟩)
 ·refine QAd (l:=[]) (QAD ⟨?_,rfl⟩);rw[i,Zg Om];rfl
def Qea(a:AskV)(exc:Int)(b c:Nat)(d:Af):Int:=
 if a.e≠0 then a.e else
 if exc≠0 then (if exc<1\/exc>=128 then 3 else if (b:Int)>0\/(c:Int)>0\/(d.length:Int)>0 then 23 else 0) else
 if QLx a.code b c d.length=true then 23 else if QIH a.code a.count a.parts b c d=true then 0 else 22
def RepV.e(a:AskV)(r:RepV):Int:=Qea a r.exc r.on.length r.set.length (r.files.map List.length)
theorem QQu(a:AskV)(i ss g:Sl)(p:i.n=a.on.length)(r:ss.n=a.set.length)(exc:Int)(d rs c:Sl)(j:List Sl):Ct Pr 164 [Qft a i ss g,QgR exc d rs c] .one [.I] [] ((RAr PaE g a.parts).and (RAr SL c j)) (fun t Bs=>t.1=Qea a exc d.n rs.n (j.map Sl.n)/\Bs=[]):=by
 refine sp1 (QGa _ _ _ _ _ _ _ _ _ _) fun B k=>?_;haveI:Fro B g PaE a.parts:=⟨k.1⟩;haveI:Fro B c SL j:=⟨k.2⟩;have u:=k.2.1;unfold QGa mf;dsimp only;refine QAL fun b=>QAL fun m=>?_;iterate 3 (refine xgq ?_)
 refine xgS i (xgS ss (xgS g ?_));refine xd1 (QHq a.code a.addr a.count i ss g a.parts) ?_;rw[p,r,show askE a.code a.addr a.count a.on.length a.set.length a.parts=a.e from rfl];unfold Qea;refine xif (fun h=>QAd (l:=[]) (QAD ⟨?_,rfl⟩)) (fun h=>?_)
 ·rw[We (Si h)]
 have h0:a.e=0:=Si h
 rw[Wb (by rw[h0];decide)];refine xgq (xif (fun h=>?_) (fun h=>?_))
 ·rw[We (Si h)];refine xgq ?_;refine QAV (fun(x:Bool) As'=>x=decide (exc<1\/exc>=128)/\As'=[Blk m [.I exc,d.v,rs.v,c.v]]) (fun K f=>QAB (fun h=>QCD 1 (f _ _ ⟨by simp[h],rfl⟩)) (fun h=>QAh (h:=QCD 1 (f _ _ ⟨by simp[h],rfl⟩)))) ?_;rintro _ _ ⟨rfl,rfl⟩;refine QAB (fun h=>QAd (l:=[]) (QAD ⟨by rw[We h],rfl⟩)) (fun h=>?_);rw[Wb h];refine xgS d ?_
  have hl:(j.map Sl.n).length=c.n:=by simp;omega
  rw[hl];refine QAV (fun(x:Bool) As'=>(x=true↔((d.n:Int)>0\/(rs.n:Int)>0))/\As'=[Blk m [.I exc,d.v,rs.v,c.v]]) (fun K f=>QAB (fun h=>f _ _ ⟨⟨fun _=>.inl h,fun _=>rfl⟩,rfl⟩) (fun h=>QAh (s:=.slice) (x:=rs) (hv:=rfl) (h:=f _ _ ⟨by rw[Ks];exact⟨.inr,fun q=>q.resolve_left h⟩,rfl⟩))) ?_;rintro x _ ⟨hx,rfl⟩
  refine QAV (fun(y:Bool) As'=>(y=true↔((d.n:Int)>0\/(rs.n:Int)>0\/(c.n:Int)>0))/\As'=[Blk m [.I exc,d.v,rs.v,c.v]]) (fun K f=>xif (fun h=>f _ _ ⟨⟨fun _=>by have:=hx.1 h;omega,fun _=>rfl⟩,rfl⟩) (fun h=>QAh (s:=.slice) (x:=c) (hv:=rfl) (h:=f _ _ ⟨by rw[Ks];exact⟨fun q=>Om,fun q=>by
   have:¬((d.n:Int)>0\/(rs.n:Int)>0):=fun q=>by rw[hx.2 q]at h;cases h
   omega⟩,rfl⟩))) ?_
  rintro y _ ⟨o,rfl⟩;exact xif (fun h=>QAd (l:=[]) (QAD ⟨by rw[We (o.1 h)],rfl⟩)) (fun h=>QAd (l:=[]) (QAD ⟨by rw[Wb fun q=>by rw[o.2 q]at h;cases h],rfl⟩))
 have hx:exc=0:=Si h
 rw[Wb (by rw[hx];decide)];refine xgq (xgq (xgS d (xgS rs (xgS c ?_))));refine xd1 (QHg a.code exc d rs c) ?_;rw[show (j.map Sl.n).length=c.n by simp;omega];refine xif (fun h=>QAd (l:=[]) (QAD ⟨by rw[We h],rfl⟩)) (fun h=>?_);rw[Wb (by rw[h];decide)];iterate 3 (refine xgq ?_)
 refine xgS i (xgS ss (xgS g ?_));refine xgq (xgS d (xgS rs (xgS c ?_)));refine xd1 (QHr a.code a.addr a.count exc i ss g d rs c a.parts (by rcases (QB8 h0).2 with⟨_,_,_,_,q⟩|⟨_,_,_,_,q⟩|⟨_,_,_,_,q⟩|⟨_,_,_,_,q⟩|⟨_,_,_,_,q⟩|⟨_,_,_,_,q⟩|⟨_,_,_,_,q,_⟩<;>first|(rw[q];decide)|omega) j) ?_;refine xif (fun h=>QAd (l:=[]) (QAD ⟨?_,rfl⟩)) (fun h=>QAd (l:=[]) (QAD ⟨?_,rfl⟩))
 ·rw[Wb];simpa using h
 ·rw[We];simpa using h
theorem QZs{α:Type}{E:Enc α}{s:Sl}{xs:List α}{l r m:Nat}(h:Rds B F (RAr E s xs))(h1:l<=r)(i:r<=m)(j:r<=xs.length):Rds B F (RAr E (s.cut l r m E.sz) ((xs.take r).drop l)):=
 fun w a b c d e f g=>(h w a b c d e f g).cut l r m h1 i j
def Qb9(a:Ae):Ab:=UInt8.ofNat (1+2*a.length)::6::a.flatMap QCr
def QT0(a:AskV)(r:RepV):Option Ab:=
 if a.code=1\/a.code=2 then some (QEW r.on)
 else if a.code=3\/a.code=4 then some (r.set.flatMap QCr)
 else if a.code=20 then some (r.files.flatMap Qb9)
 else none
def QiJ(a:AskV)(r:RepV):Ab:=
 if r.exc≠0 then [UInt8.ofNat (a.code+128).toNat,UInt8.ofNat r.exc.toNat]
 else match QT0 a r with
 | some l=>UInt8.ofNat a.code.toNat::UInt8.ofNat l.length::l
 | none=>(QGK a).take 5
def QGe(a:AskV)(r:RepV):Ab:=if r.e a=0 then QiJ a r else []
theorem QXM(a:Ae):(Qb9 a).length=2+2*a.length:=by
 show (a.flatMap QCr).length+2=_;rw[QE2];omega
theorem QaT{a:AskV}{exc:Int}{b c:Nat}{d:Af}(h:Qea a exc b c d=0):a.e=0/\(exc≠0->1<=exc/\exc<=127)/\(exc=0->QLx a.code b c d.length=false/\QIH a.code a.count a.parts b c d=true):=by
 unfold Qea at h;by_cases h0:a.e=0
 ·rw[Wb (by rw[h0];decide)]at h;refine⟨h0,fun he=>?_,fun he=>?_⟩
  ·rw[We he]at h;obtain⟨f,_⟩:=QHF Dc h;omega
  ·rw[Wb (by rw[he];decide)]at h;obtain⟨f,h⟩:=QHF Dc h;refine⟨Si f,?_⟩;by_cases hc:QIH a.code a.count a.parts b c d=true
   ·exact hc
   ·rw[Wb hc]at h;cases h
 ·rw[We h0]at h;exact absurd h h0
theorem Qeq{a:AskV}(h:a.e=0)(hc:5<=a.code)(d:a.code≠20):5<=(QGK a).length/\(QGK a).length<=300:=by
 have c:=(QB8 h).2;have b:∀x y:Int,(QCr x++QCr y).length=4:=fun _ _=>rfl;unfold QGK QTu;rcases c with⟨q,_⟩|⟨q,_⟩|⟨q,_⟩|⟨q,_⟩|⟨q,_,hl,_⟩|⟨q,_,_,hl,_⟩|⟨q,_⟩
 ·omega
 ·omega
 ·rw[We q,Wl,b];omega
 ·rw[Wb Om,We q,Wl,b];omega
 ·have hb:=QFJ a.on;have:QHO a.on.length=(a.on.length+7) / 8:=rfl;rw[Wb Om,Wb Om,We q];rw[Wl,Wd,Wd,b,W8];omega
 ·rw[Wb Om,Wb Om,Wb Om,We q];rw[Wl,Wd,Wd,b,W8,QE2];omega
 ·omega
theorem QOi:∀(ps:List P3) (fs:Af) (room:Int),QWx room ps=0->QLI ps fs=true->fs.length=ps.length->(((fs.map fun n=>2+2*n).sum:Nat):Int)<=room
 | [],[],room,h,_,_=>by
  rw[QWx]at h;obtain⟨b,_⟩:=QHF Dc h;simp;omega
 | [],f::fs,room,_,_,hl=>by simp at hl
 | p::ps,[],room,_,hc,_=>by rw[QLI]at hc;cases hc
 | p::ps,f::fs,room,h,hc,hl=>by
  rw[QWx]at h;obtain⟨b,h⟩:=QHF Dc h;rw[QLI]at hc;by_cases a:(f:Int)=p.2.2
  ·rw[Wb (Si a)]at hc;have:=QOi ps fs _ h hc (Si hl);rw[U9,List.sum_cons]
   push_cast
   omega
  ·rw[We a]at hc;cases hc
theorem Qdz(a:List Ae):(a.flatMap Qb9).length=((a.map List.length).map fun n=>2+2*n).sum:=by
 induction a with
 | nil=>rfl
 | cons w a ih=>rw[U3,Wd,ih,QXM];rfl
abbrev QkX(r:RepV)(a rs b:Sl)(c:List Sl):HP:=(RAr BL a r.on).and ((RAr W16 rs r.set).and (Qi1 b c r.files))
def QkB(r:RepV):Prop:=QOG r.set/\∀a∈r.files,QOG a
theorem QUq(a:AskV)(c7:QOG a.set)(m ss u:Sl)(r:RepV)(a7:QkB r)(f rs o:Sl)(d:List Sl):Ct Pr 106 [Qft a m ss u,QgR r.exc f rs o] (.tup [none,none]) [.slice,.I] [] ((askR a m ss u).and (QkX r f rs o d)) (fun t Bs=>t.2.1=r.e a/\Bs=[Ar U8 t.1 (QGe a r)]):=by
 refine sp2 (QRl _ _ _ _ _ _ _ _ _ _) fun B A=>?_;obtain⟨⟨a0,a1,b0⟩,a2,a3,a4,a5,S⟩:=A;haveI:Fro B m BL a.on:=⟨a0⟩;haveI:Fro B ss W16 a.set:=⟨a1⟩;haveI:Fro B u PaE a.parts:=⟨b0⟩;haveI:Fro B f BL r.on:=⟨a2⟩;haveI:Fro B rs W16 r.set:=⟨a3⟩;haveI:Fro B o SL d:=⟨a4⟩;have b5:a.on.length=m.n:=a0.1;have b6:a.set.length=ss.n:=a1.1;have b7:r.on.length=f.n:=a2.1;have b8:r.set.length=rs.n:=a3.1;have d2:d.length=o.n:=a4.1
 have b9:d.map Sl.n=r.files.map List.length:=by
  apply List.ext_getElem
  ·simpa using a5
  ·intro i h1 w;simp only[O3]at h1 w;rw[List.getElem_map,List.getElem_map];exact (S i d[i] r.files[i] (Wa h1) (Wa w)).1.symm
 unfold QRl mf;dsimp only;refine QAL fun b=>QAL fun M=>?_;iterate 3 (refine xgq ?_)
 refine xgS m (xgS ss (xgS u ?_));refine xgq (xgS f (xgS rs (xgS o ?_)));refine xd1 (QQu a m ss u b5.symm b6.symm r.exc f rs o d) ?_
 have b':Qea a r.exc f.n rs.n (d.map Sl.n)=r.e a:=by rw[b9,<-b7,<-b8];rfl
 rw[b'];refine xif (fun h=>?_) (fun h=>?_)
 ·have h0:r.e a≠0:=Si h
  refine QCD 0 (QCD 0 (QAf U8 (QAD ⟨rfl,?_⟩)));rw[show QGe a r=[] from Wb h0]
 have h0:r.e a=0:=Si h
 obtain⟨he,b1,b2⟩:=QaT (show Qea a r.exc r.on.length r.set.length (r.files.map List.length)=0 from h0);obtain⟨⟨c8,c9⟩,D⟩:=QB8 he;rw[show QGe a r=QiJ a r from We h0]
 have d3:1<=a.code/\a.code<=20:=by
  rcases D with⟨q|q,_⟩|⟨q|q,_⟩|⟨q,_⟩|⟨q,_⟩|⟨q,_⟩|⟨q,_⟩|⟨q,_⟩<;>omega
 have T:∀x:Int,0<=x->IntKind.u8.wrap x=((UInt8.ofNat x.toNat).toNat:Int):=fun x hx=>by rw[<-QAu x.toNat];congr 1;omega
 unfold QiJ;refine xgq (xif (fun hx=>?_) (fun hx=>?_))
 ·have hx:r.exc≠0:=Si hx
  have:=b1 hx;rw[We hx];refine xgq (xgq (QAL fun W=>?_));rw[QAC (a.code+128) Om Om,T _ Om,T _ Om];refine QAg (Q:=Ar U8 ⟨some ⟨W,0,none⟩,2,2⟩ [UInt8.ofNat (a.code+128).toNat,UInt8.ofNat r.exc.toNat]) 0 (fun g A=>⟨[],QAp [UInt8.ofNat (a.code+128).toNat,UInt8.ofNat r.exc.toNat] 2 rfl rfl A⟩) ?_;exact QAK [Ar U8 ⟨some ⟨W,0,none⟩,2,2⟩ [UInt8.ofNat (a.code+128).toNat,UInt8.ofNat r.exc.toNat]] (QAD ⟨h0.symm,rfl⟩)
 have hx:r.exc=0:=Si hx
 obtain⟨c',b3⟩:=b2 hx;rw[Wb (by rw[hx];decide)];refine xgq ?_
 have U:∀{R:List HP}{s:Sl}{l:Ab},QT0 a r=some l->l.length<=255->Ent B (Ar U8 s l::Blk M [.I r.exc,f.v,rs.v,o.v]::Blk b [.I a.code,.I a.addr,.I a.count,m.v,ss.v,u.v]::R)
   (QAn (.I) ⟨b,0,none⟩ fun(a8:Int)=>QCz [.int .u8 (IntKind.u8.wrap a8),.int .u8 (IntKind.u8.wrap (s.n:Int))] 5 fun G=>QTn Pr 34 34 34 (.slice (some ⟨G,0,none⟩) 2 2) s.v fun a9=>
    Ret B (ss:=[.slice,.I]) (fun t Bs=>t.2.1=r.e a/\Bs=[Ar U8 t.1 (match QT0 a r with|some l=>UInt8.ofNat a.code.toNat::UInt8.ofNat l.length::l|none=>(QGK a).take 5)]) (a9,0,())):=by
  intro R s l hl Z;rw[hl];refine QCl (E:=U8) (xs:=l) s fun X _=>?_;refine xgq (QAL fun G=>?_);rw[T a.code Om,<-X,QAu];refine QAg (Q:=Ar U8 ⟨some ⟨G,0,none⟩,2,2⟩ [UInt8.ofNat a.code.toNat,UInt8.ofNat l.length]) 0 (fun g A=>⟨[],QAp [UInt8.ofNat a.code.toNat,UInt8.ofNat l.length] 2 rfl rfl A⟩) ?_;refine QHU (E:=U8) (s:=⟨some ⟨G,0,none⟩,2,2⟩) (y:=s) (ys:=l) (hb:=by simp;omega) (h:=fun N=>?_);exact QAK [Ar U8 N ([UInt8.ofNat a.code.toNat,UInt8.ofNat l.length]++l)] (QAD ⟨h0.symm,rfl⟩)
 have j:=b3;unfold QIH at j;refine QZN (fun h1=>?_) fun h1=>?_
 ·rw[We h1]at j;have c0:(r.on.length:Int)=a.count:=eq_of_beq j
  have c1:a.count<=2000:=by rcases D with⟨q,J,_⟩|⟨q,_⟩|⟨q,_⟩|⟨q,_⟩|⟨q,_⟩|⟨q,_⟩|⟨q,_⟩<;>omega
  have hb:=QFJ r.on;have d4:QHO r.on.length=(r.on.length+7) / 8:=rfl;refine QAM (QCC rfl (xgS f ?_));refine xn1 (L:=fun s=>[Ar U8 s (QEW r.on)]) (QKC f r.on Om) (fun t Bs C=>C) fun p=>?_;exact U (We h1) Om
 rw[Wb h1]at j;refine QAM (QBH rfl (QZN (fun w=>?_) fun w=>?_))
 ·rw[We w]at j;have c0:(r.set.length:Int)=a.count:=eq_of_beq j
  have c1:a.count<=125:=by rcases D with⟨q,_⟩|⟨q,J,_⟩|⟨q,_⟩|⟨q,_⟩|⟨q,_⟩|⟨q,_⟩|⟨q,_⟩<;>omega
  refine QAM (QCC rfl (xgS rs ?_));refine xn1 (L:=fun s=>[Ar U8 s (r.set.flatMap QCr)]) (QFn rs r.set a7.1 Om) (fun t Bs C=>C) fun p=>?_;exact U (by unfold QT0;rw[Wb h1,We w]) (by rw[QE2];omega)
 rw[Wb w]at j;refine QAM (QBH rfl (xif (fun z=>?_) (fun z=>?_)))
 ·have z:a.code=20:=eq_of_beq z
  have c2:QWx 245 a.parts=0:=by rcases D with⟨q,_⟩|⟨q,_⟩|⟨q,_⟩|⟨q,_⟩|⟨q,_⟩|⟨q,_⟩|⟨q,_,_,_,_,J⟩<;>first|omega|exact J
  have V:(r.files.map List.length).length=a.parts.length:=by
   by_cases q:(r.files.map List.length).length=a.parts.length
   ·exact q
   ·rw[We q]at j;cases j
  rw[Wb (Si V)]at j;have c3:=QOi a.parts (r.files.map List.length) 245 c2 j V;rw[<-Qdz]at c3
  have d5:a.parts.length<=35:=by rcases D with⟨q,_⟩|⟨q,_⟩|⟨q,_⟩|⟨q,_⟩|⟨q,_⟩|⟨q,_⟩|⟨q,_,_,_,J,_⟩<;>omega
  have d6:r.files.length=a.parts.length:=Si V
  refine xgS o (QAf U8 ?_);refine QBt (fun n (s:Sl) (x:Int) As'=>∃k:Nat,x=(k:Int)/\n=d.length - k/\k<=d.length/\As'=[Ar U8 s ((r.files.take k).flatMap Qb9),Blk M [.I r.exc,f.v,rs.v,o.v],Blk b [.I a.code,.I a.addr,.I a.count,m.v,ss.v,u.v]]) d.length ⟨0,rfl,rfl,Om,rfl⟩ ?_;rintro n s x As' K ⟨k,rfl,rfl,D,rfl⟩ b4;refine QAB (fun a'=>?_) (fun a'=>?_)
  ·have c4:k<d.length:=Om
   have d7:=a5;obtain⟨y,H⟩:∃y,r.files[k]? = some y:=⟨_,Wa Om⟩;have c5:y∈r.files:=Wp H
   have a6:(r.files.take (k+1)).flatMap Qb9=(r.files.take k).flatMap Qb9++Qb9 y:=by rw[Og,H,Zf];simp
   have Z:((r.files.take (k+1)).flatMap Qb9).length<=(r.files.flatMap Qb9).length:=by
    conv=>rhs;rw[<-Wu (k+1) r.files,Zf,Wd]
    omega
   rw[a6,Wd,QXM]at Z;refine QAH (E:=SL) (xs:=d) (s:=o) (h1:=c4) (h:=fun q O=>?_);haveI:Fro B q W16 y:=⟨S k q y O H⟩;have d8:y.length=q.n:=(S k q y O H).1;refine QAN (E:=SL) (xs:=d) O (h:=QAL fun Y=>?_);rw[QAC (2*(q.n:Int)) Om Om,QAC (1+2*(q.n:Int)) Om Om];rw[show 1+2*(q.n:Int)=((1+2*y.length:Nat):Int) by omega,QAu];refine QAg (Q:=Ar U8 ⟨some ⟨Y,0,none⟩,2,2⟩ [UInt8.ofNat (1+2*y.length),6]) 0 (fun g A=>⟨[],QAp [UInt8.ofNat (1+2*y.length),6] 2 rfl rfl A⟩) ?_;refine QHU (E:=U8) (s:=s) (y:=⟨some ⟨Y,0,none⟩,2,2⟩) (hb:=by simp only[Wl,O8];omega) (h:=fun N=>?_);refine xn1 (L:=fun s=>[Ar U8 s (y.flatMap QCr)]) (QFn q y (a7.2 y c5) Om) (fun t Bs C=>C) fun p=>?_;refine QHU (E:=U8) (s:=N) (y:=p) (ys:=y.flatMap QCr) (hb:=by rw[Wd,QE2];simp only[Wl,O8];omega) (h:=fun P=>?_);rw[QAE k Om];refine QAK [Ar U8 P ((r.files.take k).flatMap Qb9++[UInt8.ofNat (1+2*y.length),6]++y.flatMap QCr),Blk M [.I r.exc,f.v,rs.v,o.v],Blk b [.I a.code,.I a.addr,.I a.count,m.v,ss.v,u.v]] (b4 (d.length - (k+1)) _ _ _ Om ⟨k+1,rfl,rfl,Om,?_⟩);rw[a6,Wk];rfl
  ·rw[Wn Om];exact U (by unfold QT0;rw[Wb h1,Wb w,We z]) Om
 have z:a.code≠20:=Wv z
 have c6:QT0 a r=none:=by unfold QT0;rw[Wb h1,Wb w,Wb z]
 rw[c6];obtain⟨d0,d1⟩:=Qeq he Om z;iterate 3 (refine xgq ?_)
 refine xgS m (xgS ss (xgS u ?_));refine xn2 (L:=fun s=>[Ar U8 s (QD2 a)]) (QGU a c7 m ss u) (fun x y Bs C=>C) fun s=>?_;rw[show QD2 a=QGK a from We he];refine QCl (E:=U8) (xs:=QGK a) s fun X hc=>?_;refine QEi Om Om Om Om ?_;have d9:((QGK a).take 5).drop 0=(QGK a).take 5:=rfl;refine xcl (QUW (s.cut 0 5 s.c 1) ((QGK a).take 5) (by simp;omega)) (QZs (E:=U8) (xs:=QGK a) (l:=0) (r:=5) rdb Om Om Om) ?_;rintro⟨P,_⟩ _ rfl;refine QAz (ca1 ?_);exact QAK [Ar U8 P ((QGK a).take 5)] (QAD ⟨h0.symm,rfl⟩)
def QWq(a:AskV):Int:=if a.code=1\/a.code=2 then 2+(a.count+7) / 8 else if a.code=3\/a.code=4 then 2+2*a.count else 5
theorem QNT(a:AskV)(h:a.e=0)(g:a.code≠20)(i ss j:Sl):Ct Pr 336 [Qft a i ss j] .one [.I] [] emp (fun t Bs=>t.1=QWq a/\Bs=[]):=by
 refine sp1 (QLQ _ _ _ _ _ _) fun B _=>?_;obtain⟨_,d⟩:=QB8 h;unfold QLQ mf QWq;dsimp only;refine QAL fun b=>xgq ?_;refine QZN (fun h1=>QCC rfl (QAh (h:=QBA Dc (QAd (l:=[]) (QAD ⟨?_,rfl⟩))))) fun h1=>QBH rfl ?_
 ·have hb:1<=a.count/\a.count<=2000:=by rcases d with⟨q,f,_⟩|⟨q,_⟩|⟨q,_⟩|⟨q,_⟩|⟨q,_⟩|⟨q,_⟩|⟨q,_⟩<;>omega
  rw[We h1,QAC (a.count+7) Om Om,Um Om,QAC ((a.count+7) / 8) Om Om,QAC _ Om Om]
 rw[Wb h1];refine QZN (fun c=>QCC rfl (xgq (QAd (l:=[]) (QAD ⟨?_,rfl⟩)))) fun c=>QBH rfl (QBH (Qe6 g) (QAd (l:=[]) (QAD ⟨by rw[Wb c],rfl⟩)))
 have hb:1<=a.count/\a.count<=125:=by rcases d with⟨q,_⟩|⟨q,f,_⟩|⟨q,_⟩|⟨q,_⟩|⟨q,_⟩|⟨q,_⟩|⟨q,_⟩<;>omega
 rw[We c,QAC (2*a.count) Om Om,QAC _ Om Om]
theorem Qbr(a:AskV)(h:a.e=0):2<=QWq a/\QWq a<=500:=by
 obtain⟨_,b⟩:=QB8 h;unfold QWq;rcases b with⟨q,c,_⟩|⟨q,c,_⟩|⟨q,_⟩|⟨q,_⟩|⟨q,_⟩|⟨q,_⟩|⟨q,_⟩
 ·rw[We q];omega
 ·rw[Wb Om,We q];omega
 all_goals rw[Wb Om,Wb Om];omega
abbrev QU0(s:Sh):List Sh:=[.I,.slice,.slice,.slice,s]
def QGP{s:Sh}(r:RepV)(e:s.ty)(t:Tup (QU0 s))(Bs:List HP):Prop:=
 t.1=r.exc/\t.2.2.2.1=nilS/\r.files=[]/\t.2.2.2.2.1=e/\Bs=[Ar BL t.2.1 r.on,Ar W16 t.2.2.1 r.set]
def QTK(xs:Ab):RepV×Int:=
 if xs.length<2 then (QPJ,1) else if xs.length>2 then (QPJ,2)
 else if (xs.getD 1 0).toNat=0\/(xs.getD 1 0).toNat>=128 then (QPJ,3) else (⟨(xs.getD 1 0).toNat,[],[],[]⟩,0)
theorem QT7{b:Nat}{R:List HP}{e:Int}{v:Int}{post:Tup (QU0 (.I))->List HP->Prop}{cs:Ad}(d:post (v,nilS,nilS,nilS,e,()) [Ar BL nilS [],Ar W16 nilS []])(hc:cs=[.I 0,.slice none 0 0,.slice none 0 0,.slice none 0 0]) :
  Ent B (Blk b cs::R) (QBE ⟨b,0,none⟩ (.I v)<|QBE ⟨b,1,none⟩ (.slice none 0 0)<|QBE ⟨b,2,none⟩ (.slice none 0 0)<|QBE ⟨b,3,none⟩ (.slice none 0 0)<|QAn (.I) ⟨b,0,none⟩ fun(v4:Int)=>QAn .slice ⟨b,1,none⟩ fun v5=>QAn .slice ⟨b,2,none⟩ fun a=>QAn .slice ⟨b,3,none⟩ fun c=>Ret B (ss:=QU0 (.I)) post (v4,v5,a,c,e,())):=by
 subst hc;iterate 4 (refine xsq ?_)
 refine xgq (xgT (h:=xgT (h:=xgT (h:=?_))));exact QAf W16 (QAf BL (QAK [Ar BL nilS [],Ar W16 nilS []] (QAD d)))
theorem QOL(b:Sl)(xs:Ab):Ct Pr 335 [b.v] (.tup [some 4,none]) (QU0 (.I)) [] (RAr U8 b xs) (QGP (QTK xs).1 (QTK xs).2):=by
 refine QAm (ss:=QU0 (.I)) (φ:=fun K=>(QEp _ K).1) (fun h=>cf _ rfl Kr h) fun B c=>?_;show Ent B [] (QEp b fun g j l m n=>Ret B (ss:=QU0 (.I)) (QGP (QTK xs).1 (QTK xs).2) (g,j,l,m,n,()));haveI:Fro B b U8 xs:=⟨c⟩;have hn:=c.1;unfold QEp mf;dsimp only
 have bad:∀{a:Nat}{R:List HP}{e:Int},QTK xs=(QPJ,e)->Ent B (Blk a [.I 0,.slice none 0 0,.slice none 0 0,.slice none 0 0]::R) (QBE ⟨a,0,none⟩ (.I 0)<|QBE ⟨a,1,none⟩ (.slice none 0 0)<|QBE ⟨a,2,none⟩ (.slice none 0 0)<|QBE ⟨a,3,none⟩ (.slice none 0 0)<|QAn (.I) ⟨a,0,none⟩ fun(v4:Int)=>QAn .slice ⟨a,1,none⟩ fun v5=>QAn .slice ⟨a,2,none⟩ fun o=>QAn .slice ⟨a,3,none⟩ fun p=>Ret B (ss:=QU0 (.I)) (QGP (QTK xs).1 (QTK xs).2) (v4,v5,o,p,e,())):=by
  intro a R e he;rw[he];exact QT7 ⟨rfl,rfl,rfl,rfl,rfl⟩ rfl
 refine QAL fun a=>QAB (fun h=>bad (by unfold QTK;rw[We Om])) (fun h=>QAB (fun r=>bad (by unfold QTK;rw[Wb Om,We Om])) (fun r=>?_))
 have hl:xs.length=2:=Om
 refine QAH (E:=U8) (xs:=xs) (s:=b) (k:=1) (h1:=Om) (h:=fun _ _=>?_);refine QAN (E:=U8) (xs:=xs) (i:=1) (gdE (d:=0) Om) (h:=?_);have t:=(xs.getD 1 0).toNat_lt;refine QAV (fun(x:Bool) As'=>(x=true↔((xs.getD 1 0).toNat=0\/(xs.getD 1 0).toNat>=128))/\As'=[Blk a [.I 0,.slice none 0 0,.slice none 0 0,.slice none 0 0]]) (fun K f=>xif (fun h=>f _ _ ⟨⟨fun _=>.inl (by have:=eq_of_beq h;omega),fun _=>rfl⟩,rfl⟩) (fun h=>?_)) ?_
 ·refine QAH (E:=U8) (xs:=xs) (s:=b) (k:=1) (h1:=Om) (h:=fun _ _=>?_);refine QAN (E:=U8) (xs:=xs) (i:=1) (gdE (d:=0) Om) (h:=f _ _ ⟨?_,rfl⟩);have:=Wv h;rw[Ks];omega
 rintro x _ ⟨hx,rfl⟩;refine xif (fun h=>bad (by unfold QTK;rw[Wb Om,Wb Om,We (hx.1 h)])) (fun h=>?_);refine QAH (E:=U8) (xs:=xs) (s:=b) (k:=1) (h1:=Om) (h:=fun _ _=>?_);refine QAN (E:=U8) (xs:=xs) (i:=1) (gdE (d:=0) Om) (h:=?_);rw[QX3 ((xs.getD 1 0).toNat:Int) Om Om]
 have he:QTK xs=(⟨(xs.getD 1 0).toNat,[],[],[]⟩,0):=by unfold QTK;rw[Wb Om,Wb Om,Wb fun q=>by rw[hx.2 q]at h;cases h]
 rw[he];exact QT7 ⟨rfl,rfl,rfl,rfl,rfl⟩ rfl
theorem QHv(n k:Nat)(a b:Nat)(s:Sl)(h:k+n<=s.n)(hc:s.n<=s.c)(d:s.n<=1000):Ct Pr 427 [.I (n:Int),.pointer (some ⟨a,0,none⟩),.pointer (some ⟨b,0,none⟩)] .one [.slice] [Blk a [.I (k:Int)],Blk b [s.v]] emp
  (fun t Bs=>t.1=s.cut k (k+n) s.c 1/\Bs=[Blk a [.I ((k+n:Nat):Int)],Blk b [s.v]]):=by
 refine sp1 (QK6 _ _ _) fun B _=>?_;unfold QK6 mf;dsimp only;refine xgq ?_;rw[QAC ((k:Int)+n) Om Om,show (k:Int)+n=((k+n:Nat):Int) by omega];refine xsq (xgS s (xgq (xgq ?_)));rw[show IntKind.i64.wrap (((k+n:Nat):Int) - n)=(k:Int) by rw[QAC _ Om Om];omega];refine QEi Om Om Om Om ?_;exact QAD ⟨by simp only[Wh],rfl⟩
def QBl(a:AskV)(xs:Ab):RepV×Bool:=
 if a.code>=5 then (QPJ,eqM ((QGK a).take 5) xs)
 else if ((xs.getD 1 0).toNat:Int)≠(xs.length:Int) - 2 then (QPJ,false)
 else if a.code=1\/a.code=2 then (⟨0,(QCI (xs.drop 2) a.count.toNat).1,[],[]⟩,(QCI (xs.drop 2) a.count.toNat).2 == 0)
 else (⟨0,[],(QCZ (xs.drop 2)).1,[]⟩,(QCZ (xs.drop 2)).2 == 0)
theorem QR5(a:AskV)(b6:QOG a.set)(h0:a.e=0)(T:a.code≠20)(g ss j:Sl)(b:Sl)(xs:Ab)(hl:(xs.length:Int)=QWq a)(G:b.n<=b.c):Ct Pr 337 [Qft a g ss j,b.v] (.tup [some 4,none]) (QU0 .bool) [] ((RAr U8 b xs).and (askR a g ss j)) (QGP (QBl a xs).1 (QBl a xs).2):=by
 refine QAm (ss:=QU0 .bool) (φ:=fun K=>(QKx _ _ _ _ _ _ _ K).1) (fun h=>cf _ rfl Kr h) fun B U=>?_;show Ent B [] (QKx a.code a.addr a.count g ss j b fun V W X Y Z=>Ret B (ss:=QU0 .bool) (QGP (QBl a xs).1 (QBl a xs).2) (V,W,X,Y,Z,()));obtain⟨hb,a9,a',b0⟩:=U;haveI:Fro B b U8 xs:=⟨hb⟩;haveI:Fro B g BL a.on:=⟨a9⟩;haveI:Fro B ss W16 a.set:=⟨a'⟩;haveI:Fro B j PaE a.parts:=⟨b0⟩;have hn:=hb.1;have b9:=Qbr a h0;obtain⟨_,M⟩:=QB8 h0;unfold QKx mf;dsimp only;refine QAL fun a0=>QAL fun w=>QAL fun d=>QAL fun z=>xsq (QAL fun f=>xgq ?_)
 refine QAV (fun(x:Bool) As'=>(x=true↔a.code>=5)/\As'=[Blk f [.I 0,.slice none 0 0,.slice none 0 0,.slice none 0 0],Blk z [.I 1],Blk d [.I 0,.slice none 0 0,.slice none 0 0,.slice none 0 0],Blk w [b.v],Blk a0 [.I a.code,.I a.addr,.I a.count,g.v,ss.v,j.v]])
  (fun K H=>QAB (fun h=>QAh (h:=H _ _ ⟨by rw[On];exact⟨fun _=>h,fun _=>T⟩,rfl⟩)) (fun h=>H _ _ ⟨by simp;omega,rfl⟩)) ?_
 rintro x _ ⟨hx,rfl⟩;refine xif (fun h=>?_) (fun h=>?_)
 ·have p:a.code>=5:=hx.1 h;have D:QBl a xs=(QPJ,eqM ((QGK a).take 5) xs):=We p;rw[D];have b':=Qeq h0 p T
  have c0:QWq a=5:=by unfold QWq;rw[Wb Om,Wb Om]
  iterate 3 (refine xgq ?_)
  refine xgS g (xgS ss (xgS j ?_));refine xn2 (L:=fun s=>[Ar U8 s (QD2 a)]) (QGU a b6 g ss j) (fun x y Bs a1=>a1) fun A=>?_;rw[show QD2 a=QGK a from We h0];refine QCl (E:=U8) (xs:=QGK a) A fun b7 hc=>?_;refine QAP (xgq (xgT (h:=xgT (h:=xgT (h:=?_)))));refine QEi Om Om Om Om ?_;refine xgS b ?_;refine xcl (QX6 (A.cut 0 5 A.c 1) b ((QGK a).take 5) xs (by simp;omega) Om) (QDY (QZs (E:=U8) (xs:=QGK a) (l:=0) (r:=5) rdb Om Om Om) rdb) ?_;rintro⟨b8,_⟩ _ ⟨h1,rfl⟩;simp only at h1;subst h1;refine QA2 (ca1 ?_);iterate 4 (refine QDK (h:=?_))
  iterate 4 (refine xsq ?_)
  refine xgq (xgT (h:=xgT (h:=xgT (h:=?_))));exact QAf W16 (QAf BL (QAK [Ar BL nilS [],Ar W16 nilS []] (QAD ⟨rfl,rfl,rfl,rfl,rfl⟩)))
 have p:¬a.code>=5:=fun q=>by rw[hx.2 q]at h;cases h
 have c1:2<=xs.length:=Om
 refine QAP (xgS b ?_);refine xd1 (QHv 1 1 z w b Om G Om) ?_;have b4:=hb.cut 1 (1+1) b.c Om Om Om;haveI:Fro B (b.cut 1 (1+1) b.c 1) U8 ((xs.take (1+1)).drop 1):=⟨b4⟩;refine QDK (h:=?_);have c2:=(xs.getD 1 0).toNat_lt;refine QAH (E:=U8) (xs:=(xs.take (1+1)).drop 1) (s:=b.cut 1 (1+1) b.c 1) (k:=0) (h1:=by simp;omega) (h:=fun _ _=>?_);refine QAN (E:=U8) (xs:=(xs.take (1+1)).drop 1) (i:=0) (x:=xs.getD 1 0) (by rw[Zk,List.getElem?_take,We Om];exact gdE Om) (h:=?_);rw[QX3 ((xs.getD 1 0).toNat:Int) Om Om,QAC ((b.n:Int) - 2) Om Om];refine xif (fun h=>?_) (fun h=>?_)
 ·have b5:((xs.getD 1 0).toNat:Int)≠(xs.length:Int) - 2:=by have:¬((xs.getD 1 0).toNat:Int)=(b.n:Int) - 2:=On.1 h;omega
  have D:QBl a xs=(QPJ,false):=by unfold QBl;rw[Wb p,We b5]
  rw[D];refine xgq (xgT (h:=xgT (h:=xgT (h:=?_))));iterate 4 (refine xsq ?_)
  refine xgq (xgT (h:=xgT (h:=xgT (h:=?_))));exact QAf W16 (QAf BL (QAK [Ar BL nilS [],Ar W16 nilS []] (QAD ⟨rfl,rfl,rfl,rfl,rfl⟩)))
 have O:((xs.getD 1 0).toNat:Int)=(xs.length:Int) - 2:=by
  have:((xs.getD 1 0).toNat:Int)=(b.n:Int) - 2:=by
   by_cases q:((xs.getD 1 0).toNat:Int)=(b.n:Int) - 2
   ·exact q
   ·rw[On.2 q]at h;cases h
  omega
 have P:=hb.cut (1+1) (1+1+(b.n - 2)) b.c Om Om Om;rw[show (xs.take (1+1+(b.n - 2))).drop (1+1)=xs.drop 2 by rw[Wn Om]]at P
 have Q:IntKind.i64.wrap ((b.n:Int) - 2)=((b.n - 2:Nat):Int):=by rw[QAC _ Om Om];omega
 obtain⟨r,C⟩:∃r,QBl a xs=r:=⟨_,rfl⟩;rw[C];refine xgq ?_
 have S:∀{m o:Sl}{c:Bool}{R:List HP},r.1.exc=0/\r.1.files=[]->c=r.2->Ent B (Ar BL m r.1.on::Ar W16 o r.1.set::Blk f [.I 0,m.v,o.v,.slice none 0 0]::Blk d [.I 0,.slice none 0 0,.slice none 0 0,.slice none 0 0]::R)
   (QAn (.I) ⟨f,0,none⟩ fun(a2:Int)=>QAn .slice ⟨f,1,none⟩ fun a3=>QAn .slice ⟨f,2,none⟩ fun a4=>QAn .slice ⟨f,3,none⟩ fun a5=>QBE ⟨d,0,none⟩ (.I a2)<|QBE ⟨d,1,none⟩ a3.v<|QBE ⟨d,2,none⟩ a4.v<|QBE ⟨d,3,none⟩ a5.v<|QAn (.I) ⟨d,0,none⟩ fun(a6:Int)=>QAn .slice ⟨d,1,none⟩ fun v9=>QAn .slice ⟨d,2,none⟩ fun a7=>QAn .slice ⟨d,3,none⟩ fun a8=>Ret B (ss:=QU0 .bool) (QGP r.1 r.2) (a6,v9,a7,a8,c,())):=by
  rintro m o c R ⟨b1,b2⟩ rfl;refine xgq (xgS m (xgS o (xgT (h:=?_))));iterate 4 (refine xsq ?_)
  refine xgq (xgS m (xgS o (xgT (h:=?_))));exact QAK [Ar BL m r.1.on,Ar W16 o r.1.set] (QAD ⟨b1.symm,rfl,b2,rfl,rfl⟩)
 haveI:Fro B (b.cut (1+1) (1+1+(b.n - 2)) b.c 1) U8 (xs.drop 2):=⟨P⟩;refine QZN (fun h1=>?_) fun h1=>?_
 ·have c3:1<=a.count/\a.count<=2000:=by rcases M with⟨q,N,_⟩|⟨q,_⟩|⟨q,_⟩|⟨q,_⟩|⟨q,_⟩|⟨q,_⟩|⟨q,_⟩<;>omega
  refine QAM (QCC rfl (QAP (xgS b (xgq ?_))));rw[Q];refine xd1 (QHv (b.n - 2) (1+1) z w b Om G Om) (QDK (h:=?_));obtain⟨c,hc⟩:∃c:Nat,a.count=(c:Int):=⟨a.count.toNat,Om⟩
  obtain rfl:(⟨0,(QCI (xs.drop 2) c).1,[],[]⟩,(QCI (xs.drop 2) c).2 == 0)=r:=by
   rw[<-C];unfold QBl;rw[Wb p,Wb (by rw[O];simp),We h1,hc];rfl
  rw[show (Value.int .i64 a.count)=.I (c:Int) by rw[hc]];refine xcl (QNx (b.cut (1+1) (1+1+(b.n - 2)) b.c 1) (xs.drop 2) c Om) rdb ?_;rintro⟨t,(b3:Int),_⟩ _ ⟨u,rfl⟩;simp only at u;subst u;refine QAz (ca2 (xsq ?_));refine QAf W16 (QAb [Ar BL t (QCI (xs.drop 2) c).1,Ar W16 nilS [],Blk f [.I 0,t.v,nilS.v,.slice none 0 0],Blk d [.I 0,.slice none 0 0,.slice none 0 0,.slice none 0 0]] ?_);exact S ⟨rfl,rfl⟩ (Bool.true_and _)
 refine QAM (QBH rfl (QZN (fun J=>?_) fun J=>absurd J ?_))
 ·refine QAM (QCC rfl (xgS b ?_));rw[Q];refine xd1 (QHv (b.n - 2) (1+1) z w b Om G Om) ?_
  obtain rfl:(⟨0,[],(QCZ (xs.drop 2)).1,[]⟩,(QCZ (xs.drop 2)).2 == 0)=r:=by
   rw[<-C];unfold QBl;rw[Wb p,Wb (by rw[O];simp),Wb h1]
  refine xcl (QHf (b.cut (1+1) (1+1+(b.n - 2)) b.c 1) (xs.drop 2) (by simp;omega)) rdb ?_;rintro⟨t,(b3:Int),_⟩ _ ⟨u,rfl⟩;simp only at u;subst u;refine QAz (ca2 (xsq ?_));refine QAf BL (QAb [Ar BL nilS [],Ar W16 t (QCZ (xs.drop 2)).1,Blk f [.I 0,nilS.v,t.v,.slice none 0 0],Blk d [.I 0,.slice none 0 0,.slice none 0 0,.slice none 0 0]] ?_);exact S ⟨rfl,rfl⟩ (Bool.true_and _)
 ·rcases M with⟨q,N,_⟩|⟨q,N,_⟩|⟨q,_⟩|⟨q,_⟩|⟨q,_⟩|⟨q,_⟩|⟨q,_⟩<;>omega
def QBq(a:AskV)(xs:Ab):RepV×Int:=
 if a.e≠0 then (QPJ,a.e) else if xs.length=0 then (QPJ,1)
 else if ((xs.getD 0 0).toNat:Int)=a.code+128 then QTK xs
 else if ((xs.getD 0 0).toNat:Int)≠a.code then (QPJ,20)
 else if (xs.length:Int)<QWq a then (QPJ,1) else if (xs.length:Int)>QWq a then (QPJ,2)
 else if (QBl a xs).2=true then ((QBl a xs).1,0) else (QPJ,4)
theorem QVH(a:AskV)(T:QOG a.set)(y:a.code≠20)(f ss g:Sl)(b:Sl)(xs:Ab)(U:b.n<=b.c):Ct Pr 237 [Qft a f ss g,b.v] (.tup [some 4,none]) (QU0 (.I)) [] ((RAr U8 b xs).and (askR a f ss g)) (QGP (QBq a xs).1 (QBq a xs).2):=by
 refine QAm (ss:=QU0 (.I)) (φ:=fun K=>(QNw _ _ _ _ _ _ _ K).1) (fun h=>cf _ rfl Kr h) fun B C=>?_;show Ent B [] (QNw a.code a.addr a.count f ss g b fun D G H J L=>Ret B (ss:=QU0 (.I)) (QGP (QBq a xs).1 (QBq a xs).2) (D,G,H,J,L,()));obtain⟨hb,z,A,P⟩:=C;haveI:Fro B b U8 xs:=⟨hb⟩;haveI:Fro B f BL a.on:=⟨z⟩;haveI:Fro B ss W16 a.set:=⟨A⟩;haveI:Fro B g PaE a.parts:=⟨P⟩;have hn:=hb.1;have Q:a.on.length=f.n:=z.1;have S:a.set.length=ss.n:=A.1
 have bad:∀{j:Nat}{R:List HP}{e:Int},QBq a xs=(QPJ,e)->Ent B (Blk j [.I 0,.slice none 0 0,.slice none 0 0,.slice none 0 0]::R) (QBE ⟨j,0,none⟩ (.I 0)<|QBE ⟨j,1,none⟩ (.slice none 0 0)<|QBE ⟨j,2,none⟩ (.slice none 0 0)<|QBE ⟨j,3,none⟩ (.slice none 0 0)<|QAn (.I) ⟨j,0,none⟩ fun(v4:Int)=>QAn .slice ⟨j,1,none⟩ fun v5=>QAn .slice ⟨j,2,none⟩ fun M=>QAn .slice ⟨j,3,none⟩ fun N=>Ret B (ss:=QU0 (.I)) (QGP (QBq a xs).1 (QBq a xs).2) (v4,v5,M,N,e,())):=by
  intro j R e he;rw[he];exact QT7 ⟨rfl,rfl,rfl,rfl,rfl⟩ rfl
 unfold QNw mf;dsimp only;refine QAL fun j=>QAL fun O=>?_;iterate 3 (refine xgq ?_)
 refine xgS f (xgS ss (xgS g ?_));refine xd1 (QHq a.code a.addr a.count f ss g a.parts) ?_;rw[<-Q,<-S,show askE a.code a.addr a.count a.on.length a.set.length a.parts=a.e from rfl];refine xif (fun h=>bad (We (Si h))) (fun h=>?_)
 have h0:a.e=0:=Si h
 have W:=Qbr a h0
 have X:1<=a.code/\a.code<=20:=by
  rcases (QB8 h0).2 with⟨q|q,_⟩|⟨q|q,_⟩|⟨q,_⟩|⟨q,_⟩|⟨q,_⟩|⟨q,_⟩|⟨q,_⟩<;>omega
 refine xif (fun h=>bad ?_) (fun h=>?_)
 ·have:=eq_of_beq h;unfold QBq;rw[Wb (by rw[h0];decide),We Om]
 have p:xs.length≠0:=by have:=Wv h;omega
 have Y:=(xs.getD 0 0).toNat_lt;refine QAP ?_;refine QAH (E:=U8) (xs:=xs) (s:=b) (k:=0) (h1:=Om) (h:=fun _ _=>?_);refine QAN (E:=U8) (xs:=xs) (i:=0) (gdE (d:=0) Om) (h:=xgq ?_);rw[QX3 ((xs.getD 0 0).toNat:Int) Om Om,QAC (a.code+128) Om Om];refine xif (fun h=>?_) (fun h=>?_)
 ·have x:QBq a xs=QTK xs:=by unfold QBq;rw[Wb (by rw[h0];decide),Wb p,We (eq_of_beq h)]
  rw[x];refine xcl (QOL b xs) rdb ?_;rintro⟨v0,m,o,v3,v4,_⟩ _ ⟨h1,l,w,r,rfl⟩;simp only at h1 l r;subst h1 l r;refine QBK (ca5 ?_);iterate 4 (refine xsq ?_)
  refine xgq (xgS m (xgS o (xgT (h:=?_))));exact QAK [Ar BL m (QTK xs).1.on,Ar W16 o (QTK xs).1.set] (QAD ⟨rfl,rfl,w,rfl,rfl⟩)
 have t:=Wv h;refine QAP ?_;refine QAH (E:=U8) (xs:=xs) (s:=b) (k:=0) (h1:=Om) (h:=fun _ _=>?_);refine QAN (E:=U8) (xs:=xs) (i:=0) (gdE (d:=0) Om) (h:=xgq ?_);rw[QX3 ((xs.getD 0 0).toNat:Int) Om Om];refine xif (fun h=>bad ?_) (fun h=>?_)
 ·unfold QBq;rw[Wb (by rw[h0];decide),Wb p,Wb t,We (On.1 h)]
 have u:((xs.getD 0 0).toNat:Int)=a.code:=by
  by_cases q:((xs.getD 0 0).toNat:Int)=a.code
  ·exact q
  ·rw[On.2 q]at h;cases h
 iterate 3 (refine xgq ?_)
 refine xgS f (xgS ss (xgS g ?_));refine xd1 (QNT a h0 y f ss g) (QAB (fun h=>bad ?_) (fun h=>?_))
 ·unfold QBq;rw[Wb (by rw[h0];decide),Wb p,Wb t,Wb (by rw[u];simp),We Om]
 iterate 3 (refine xgq ?_)
 refine xgS f (xgS ss (xgS g ?_));refine xd1 (QNT a h0 y f ss g) (QAB (fun h=>bad ?_) (fun l=>?_))
 ·unfold QBq;rw[Wb (by rw[h0];decide),Wb p,Wb t,Wb (by rw[u];simp),Wb Om,We Om]
 iterate 3 (refine xgq ?_)
 refine xgS f (xgS ss (xgS g ?_));refine xcl (QR5 a T h0 y f ss g b xs Om U) rdb ?_;rintro⟨v0,m,o,v3,v4,_⟩ _ ⟨h1,l,w,r,rfl⟩;simp only at h1 l r;subst h1 l r;refine QBK (ca5 (QAL fun V=>?_));iterate 4 (refine xsq ?_)
 refine xif (fun h=>?_) (fun h=>?_)
 ·have x:QBq a xs=((QBl a xs).1,0):=by unfold QBq;rw[Wb (by rw[h0];decide),Wb p,Wb t,Wb (by rw[u];simp),Wb Om,Wb Om,We h]
  rw[x];refine xgq (xgS m (xgS o (xgT (h:=?_))));iterate 4 (refine xsq ?_)
  refine xgq (xgS m (xgS o (xgT (h:=?_))));exact QAK [Ar BL m (QBl a xs).1.on,Ar W16 o (QBl a xs).1.set] (QAD ⟨rfl,rfl,w,rfl,rfl⟩)
 ·refine QAb [Blk O [.I 0,.slice none 0 0,.slice none 0 0,.slice none 0 0]] (bad ?_);unfold QBq;rw[Wb (by rw[h0];decide),Wb p,Wb t,Wb (by rw[u];simp),Wb Om,Wb Om,Wb (by rw[h];decide)]
end Go.Cx
