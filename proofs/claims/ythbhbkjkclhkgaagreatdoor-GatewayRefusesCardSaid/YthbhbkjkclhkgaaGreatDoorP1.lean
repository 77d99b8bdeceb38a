/-
Bits and words as bytes.
-/
import Derived.Test.YthbhbkjkclhkgaaGreatDoorSX
import Derived.Test.YthbhbkjkclhkgaaGreatDoorA4
import Derived.Laws.BytesArg
namespace Go.Cx
open Go Go.Cf
set_option linter.unusedVariables false
set_option maxRecDepth 100000
variable {B:QBG}{As F:List HP}
theorem QE7(l:Sl)(vs:List Int)(hv:∀v∈vs,0≤v∧v≤65535)(hl:vs.length≤100000):Ct Pr 166 [l.v] .one [.slice] [] (RAr W16 l vs) (fun t Bs=>Bs=[Ar U8 t.1 (vs.flatMap QCo)]):=by
 refine sp1 (QNk _) fun B hr=>?_;haveI:Fro B l W16 vs:=⟨hr⟩;have hn:vs.length=l.n:=hr.1;unfold QNk mf;dsimp only;rw[QAD (2*(l.n:Int)) (by omega) (by omega)];rw[show (2*(l.n:Int))=((2*vs.length:Nat):Int) by omega];refine QYi U8 0 (2*vs.length) (by omega) (by omega) (h:=fun b=>?_);refine xar ?_;refine QBb (fun n (o:Sl) (x:Int) As'=>∃k:Nat,x=(k:Int)∧n=vs.length - k∧k≤vs.length∧As'=[Ar U8 o ((vs.take k).flatMap QCo)]) vs.length ⟨0,rfl,rfl,by omega,by simp⟩ ?_;rintro n b1 x As' K ⟨k,rfl,rfl,hk,rfl⟩ hK
 have hlen:((vs.take k).flatMap QCo).length=2*k:=by
  rw[List.length_flatMap]
  have:(vs.take k).map (fun a=>(QCo a).length)=List.replicate k 2:=by
   apply List.ext_getElem
   ·simp;omega
   ·intro i h1 h2;simp[QCo]
  rw[this];simp;omega
 refine QAB (fun hp=>?_) (fun hp=>?_)
 ·have hp:k<vs.length:=by omega
  refine QAI (E:=W16) (xs:=vs) (s:=l) (h1:=hp) (h:=fun y hy=>?_);refine QAO (E:=W16) (xs:=vs) hy (h:=QA6 (by decide) ?_);obtain⟨hy0,hy1⟩:=hv y (List.mem_of_getElem? hy);obtain⟨m,rfl⟩:=Int.eq_ofNat_of_zero_le hy0;rw[QCy m _ 256 (by decide),QAr,QAr];refine QAL fun b2=>?_;refine QAf (Q:=Ar U8 ⟨some ⟨b2,0,none⟩,2,2⟩ (QCo (m:Int))) 0 (fun g hg=>⟨[],QAm (QCo (m:Int)) 2 rfl rfl hg⟩) ?_;refine QHX (E:=U8) (s:=b1) (y:=⟨some ⟨b2,0,none⟩,2,2⟩) (hb:=by simp[QCo,hlen];omega) (h:=fun s1=>?_);rw[QAF k (by omega)]
  have e:(vs.take k).flatMap QCo++QCo (m:Int)=(vs.take (k+1)).flatMap QCo:=by
   rw[←QFN hy,List.flatMap_append];simp
  rw[e];exact QAM [Ar U8 s1 ((vs.take (k+1)).flatMap QCo)] (hK (vs.length - (k+1)) _ _ _ (by omega) ⟨k+1,rfl,rfl,by omega,rfl⟩)
 ·rw[List.take_of_length_le (by omega)];exact QAE rfl
def QGd(n:Nat):Nat:=(n+7) / 8
theorem QIt(n:Nat)(hn:n≤1000000000):Ct Pr 255 [.I (n:Int)] .one [.I] [] emp (fun t Bs=>t.1=(QGd n:Int)∧Bs=[]):=by
 refine sp1 (QRj _) fun B _=>?_;unfold QRj mf;dsimp only
 have e1:((n:Int).tmod 8)=((n % 8:Nat):Int):=by rw[Int.tmod_eq_emod_of_nonneg (by omega)];omega
 have e2:((n:Int).tdiv 8)=((n / 8:Nat):Int):=by rw[Int.tdiv_eq_ediv_of_nonneg (by omega)];omega
 rw[e1,e2,QAD ((n / 8:Nat):Int) (by omega) (by omega),QAD _ (by omega) (by omega)];unfold QGd;refine QA6 (by decide) (xif (fun h=>?_) (fun h=>?_))
 ·have h:n % 8=0:=by simp at h;omega
  exact QA6 (by decide) (QAE ⟨by show ((n / 8:Nat):Int)=_;omega,rfl⟩)
 ·have h:n % 8≠0:=by simp at h;omega
  exact QA6 (by decide) (QAE ⟨by show ((n / 8:Nat):Int)+1=_;omega,rfl⟩)
def QYw(y:UInt8)(k:Nat):UInt8:=UInt8.ofNat (bits .or .u8 (y.toNat:Int) (IntKind.u8.wrap (1*2 ^ (min (k % 8) 8)))).toNat
def QH4(bs:List Bool)(N:Nat):Nat→List UInt8
 | 0=>List.replicate N 0
 | k+1=>if bs.getD k false=true then (QH4 bs N k).set (k / 8) (QYw ((QH4 bs N k).getD (k / 8) 0) k) else QH4 bs N k
theorem QIX(bs:List Bool)(N:Nat):∀k,(QH4 bs N k).length=N
 | 0=>by simp[QH4]
 | k+1=>by
  rw[QH4];split
  ·rw[List.length_set];exact QIX bs N k
  ·exact QIX bs N k
def QD4(bs:List Bool):List UInt8:=QH4 bs (QGd bs.length) bs.length
theorem QEl(bs:List Bool):(QD4 bs).length=QGd bs.length:=QIX _ _ _
theorem QJG(l:Sl)(bs:List Bool)(hl:bs.length≤100000):Ct Pr 165 [l.v] .one [.slice] [] (RAr BL l bs) (fun t Bs=>Bs=[Ar U8 t.1 (QD4 bs)]):=by
 refine sp1 (QQ1 _) fun B hr=>?_;haveI:Fro B l BL bs:=⟨hr⟩;have hn:bs.length=l.n:=hr.1;unfold QQ1 mf;dsimp only;refine QAR (QIt l.n (by omega)) rdb ?_;rintro⟨(r:Int),_⟩ _ ⟨hr2,rfl⟩;obtain rfl:r=(QGd l.n:Int):=hr2
 have hN:QGd l.n=(bs.length+7) / 8:=by rw[←hn];rfl
 unfold QD4;rw[show QGd bs.length=QGd l.n by rw[hn]]
 generalize QGd l.n=N at *
 refine QAz (ca1 (QRM U8 (by omega) (by simp;omega) (h:=fun b=>?_)));simp only[Int.toNat_natCast];refine QBV (fun n (x:Int) As'=>∃k:Nat,x=(k:Int)∧n=bs.length - k∧k≤bs.length∧As'=[Ar U8 ⟨some ⟨b,0,none⟩,N,N⟩ (QH4 bs N k)]) bs.length ⟨0,rfl,rfl,by omega,rfl⟩ ?_;rintro n x As' K ⟨k,rfl,rfl,hk,rfl⟩ hK;refine QAB (fun hp=>?_) (fun hp=>?_)
 ·have hp:k<bs.length:=by omega
  have hb:bs[k]? = some (bs.getD k false):=by rw[List.getD_eq_getElem?_getD,List.getElem?_eq_getElem hp];rfl
  refine QAI (E:=BL) (xs:=bs) (s:=l) (k:=k) (h1:=hp) (h:=fun _ _=>?_);refine QAO (E:=BL) (xs:=bs) (i:=k) hb (h:=?_)
  have e8:((k:Int).tdiv 8)=((k / 8:Nat):Int):=by rw[Int.tdiv_eq_ediv_of_nonneg (by omega)];omega
  have e9:((k:Int).tmod 8)=((k % 8:Nat):Int):=by rw[Int.tmod_eq_emod_of_nonneg (by omega)];omega
  rw[e8,e9,QAD ((k / 8:Nat):Int) (by omega) (by omega),QAF k (by omega)];have hlen:=QIX bs N k
  have hy:(QH4 bs N k)[k / 8]? = some ((QH4 bs N k).getD (k / 8) 0):=by
   rw[List.getD_eq_getElem?_getD,List.getElem?_eq_getElem (by omega)];rfl
  have hb8:=QdO .or (((QH4 bs N k).getD (k / 8) 0).toNat:Int) (IntKind.u8.wrap (1*2 ^ (min (k % 8) 8)));refine QBx (fun As'=>As'=[Ar U8 ⟨some ⟨b,0,none⟩,N,N⟩ (QH4 bs N (k+1))]) (fun K1 hK1=>?_) ?_
  ·refine xif (fun hc=>?_) (fun hc=>?_)
   ·refine QAP (QA6 (by decide) ?_);refine QAI (E:=U8) (s:=⟨some ⟨b,0,none⟩,N,N⟩) (k:=k / 8) (h1:=by omega) (h:=fun _ _=>?_);refine QAO (E:=U8) (s:=⟨some ⟨b,0,none⟩,N,N⟩) (i:=k / 8) hy (h:=QA6 (by decide) (QA6 (by omega) ?_));refine QAI (E:=U8) (s:=⟨some ⟨b,0,none⟩,N,N⟩) (k:=k / 8) (h1:=by omega) (h:=fun _ _=>?_);rw[Int.toNat_natCast];refine QHZ (E:=U8) (QYw ((QH4 bs N k).getD (k / 8) 0) k) hy (hv:=?_) (h:=?_)
    ·show [_]=[Value.int .u8 _];unfold QYw;rw[UInt8.toNat_ofNat'];congr 2;omega
    ·refine hK1 _ ?_;rw[QH4,if_pos hc]
   ·exact hK1 _ (by rw[QH4,if_neg (by rw[hc];decide)])
  rintro _ rfl;exact hK (bs.length - (k+1)) _ _ (by omega) ⟨k+1,rfl,rfl,by omega,rfl⟩
 ·rw[show bs.length=k by omega];exact QAE rfl
def QQw(xs:List UInt8)(i:Nat):Bool:=bits .and .u8 (Int.fdiv ((xs.getD (i / 8) 0).toNat:Int) (2 ^ (min (i % 8) 8))) 1 == 1
def QB4(xs:List UInt8)(n:Nat):List Bool×Int:=
 if xs.length≠QGd n then ([],22)
 else if n % 8≠0∧Int.fdiv ((xs.getD (xs.length - 1) 0).toNat:Int) (2 ^ (min (n % 8) 8))≠0 then ([],4)
 else ((List.range n).map (QQw xs),0)
theorem QMg(b:Sl)(xs:List UInt8)(n:Nat)(hn:n≤100000):Ct Pr 250 [b.v,.I (n:Int)] (.tup [none,none]) [.slice,.I] [] (RAr U8 b xs) (fun t Bs=>t.2.1=(QB4 xs n).2∧Bs=[Ar BL t.1 (QB4 xs n).1]):=by
 refine sp2 (QLx _ _) fun B hr=>?_;haveI:Fro B b U8 xs:=⟨hr⟩;have hbn:xs.length=b.n:=hr.1
 have e9:((n:Int).tmod 8)=((n % 8:Nat):Int):=by rw[Int.tmod_eq_emod_of_nonneg (by omega)];omega
 unfold QLx mf;dsimp only;refine QBF (by simp) ?_;refine QAR (QIt n (by omega)) rdb ?_;rintro⟨(r:Int),_⟩ _ ⟨hr2,rfl⟩;obtain rfl:r=(QGd n:Int):=hr2;refine QAz (ca1 (xif (fun h=>?_) (fun h=>?_)))
 ·have:QB4 xs n=([],22):=by unfold QB4;rw[if_pos];simp at h;omega
  rw[this];exact QAd BL (QAE ⟨rfl,rfl⟩)
 have h1:xs.length=QGd n:=by simp at h;omega
 have hN:QGd n=(n+7) / 8:=rfl;refine QA6 (by decide) ?_;rw[e9];refine QAU (fun(x:Bool) As'=>x=decide (n % 8≠0∧Int.fdiv ((xs.getD (xs.length - 1) 0).toNat:Int) (2 ^ (min (n % 8) 8))≠0)∧As'=[]) (fun K hK=>?_) ?_
 ·refine xif (fun h=>?_) (fun h=>?_)
  ·have h8:n % 8≠0:=by simp at h;omega
   rw[show (b.n:Int) - 1=((b.n - 1:Nat):Int) by omega,QAD ((b.n - 1:Nat):Int) (by omega) (by omega)];refine QAI (E:=U8) (xs:=xs) (s:=b) (k:=b.n - 1) (h1:=by omega) (h:=fun _ _=>?_);refine QAO (E:=U8) (xs:=xs) (i:=b.n - 1) (x:=xs.getD (b.n - 1) 0) (by rw[List.getD_eq_getElem?_getD,List.getElem?_eq_getElem (by omega)];rfl) (h:=QA6 (by decide) (QA6 (by omega) ?_));refine hK _ _ ⟨?_,rfl⟩;rw[Int.toNat_natCast,hbn];generalize Int.fdiv _ _=z;by_cases hz:z=0<;>simp[hz,h8]
  ·refine hK _ _ ⟨?_,rfl⟩
   have h8:n % 8=0:=by simp at h;omega
   simp[h8]
 rintro _ _ ⟨rfl,rfl⟩;refine QAB (fun h=>?_) (fun h=>?_)
 ·have:QB4 xs n=([],4):=by unfold QB4;rw[if_neg (by omega),if_pos h]
  rw[this];exact QAd BL (QAE ⟨rfl,rfl⟩)
 have:QB4 xs n=((List.range n).map (QQw xs),0):=by unfold QB4;rw[if_neg (by omega),if_neg h]
 rw[this];refine QRM BL (by omega) (by simp;omega) (h:=fun b1=>?_);simp only[Int.toNat_natCast];refine QBV (fun m (x:Int) As'=>∃k:Nat,x=(k:Int)∧m=n - k∧k≤n∧As'=[Ar BL ⟨some ⟨b1,0,none⟩,n,n⟩ ((List.range k).map (QQw xs)++List.replicate (n - k) false)]) n ⟨0,rfl,rfl,by omega,by simp;rfl⟩ ?_;rintro m x As' K ⟨k,rfl,rfl,hk,rfl⟩ hK;refine QAB (fun hp=>?_) (fun hp=>?_)
 ·have hp:k<n:=by omega
  have e8:((k:Int).tdiv 8)=((k / 8:Nat):Int):=by rw[Int.tdiv_eq_ediv_of_nonneg (by omega)];omega
  have e9:((k:Int).tmod 8)=((k % 8:Nat):Int):=by rw[Int.tmod_eq_emod_of_nonneg (by omega)];omega
  rw[e8,e9,QAD ((k / 8:Nat):Int) (by omega) (by omega),QAF k (by omega)];refine QA6 (by decide) ?_;refine QAI (E:=U8) (xs:=xs) (s:=b) (k:=k / 8) (h1:=by omega) (h:=fun _ _=>?_);refine QAO (E:=U8) (xs:=xs) (i:=k / 8) (x:=xs.getD (k / 8) 0) (by rw[List.getD_eq_getElem?_getD,List.getElem?_eq_getElem (by omega)];rfl) (h:=QA6 (by decide) (QA6 (by omega) ?_));refine QAI (E:=BL) (s:=⟨some ⟨b1,0,none⟩,n,n⟩) (k:=k) (h1:=by rw[List.length_append,List.length_map,List.length_range,List.length_replicate];omega) (h:=fun _ _=>?_);rw[Int.toNat_natCast]
  have hy:((List.range k).map (QQw xs)++List.replicate (n - k) false)[k]? = some false:=by
   rw[List.getElem?_append_right (by simp)];simp only[List.length_map,List.length_range,Nat.sub_self];rw[List.getElem?_replicate,if_pos (by omega)]
  refine QHZ (E:=BL) (QQw xs k) hy (hv:=rfl) (h:=?_)
  have e:((List.range k).map (QQw xs)++List.replicate (n - k) false).set k (QQw xs k)=(List.range (k+1)).map (QQw xs)++List.replicate (n - (k+1)) false:=by
   rw[List.set_append_right _ _ (by simp)];simp only[List.length_map,List.length_range,Nat.sub_self];rw[show n - k=(n - (k+1))+1 by omega,List.replicate_succ,List.set_cons_zero,List.range_succ,List.map_append,List.append_assoc];rfl
  rw[e];exact hK (n - (k+1)) _ _ (by omega) ⟨k+1,rfl,rfl,by omega,rfl⟩
 ·rw[show k=n by omega];simp only[Nat.sub_self,List.replicate_zero,List.append_nil];exact QAE ⟨rfl,rfl⟩
def QCk(xs:List UInt8):List Int×Int:=if xs.length % 2=0 then (QGw xs,0) else ([],22)
theorem QGt(b:Sl)(xs:List UInt8)(hm:xs.length≤1073741824):Ct Pr 251 [b.v] (.tup [none,none]) [.slice,.I] [] (RAr U8 b xs) (fun t Bs=>t.2.1=(QCk xs).2∧Bs=[Ar W16 t.1 (QCk xs).1]):=by
 by_cases he:xs.length % 2=0
 ·rw[show QCk xs=(QGw xs,0) from if_pos he];exact QNK b xs he hm
 ·rw[show QCk xs=([],22) from if_neg he];refine sp2 (QHO _) fun B hr=>?_;have hbn:xs.length=b.n:=hr.1;unfold QHO mf;dsimp only
  have e:((b.n:Int).tmod 2)=1:=by rw[Int.tmod_eq_emod_of_nonneg (by omega)];omega
  rw[e];exact QA6 (by decide) (QBk rfl (QAd W16 (QAE ⟨rfl,rfl⟩)))
abbrev nilS:Sl:=⟨none,0,0⟩
instance rdbNil{α:Type}{E:Enc α}:Rdb B F (RAr E nilS []):=⟨fun _ _ _ _ _=>⟨rfl,by simp[QAg,nilS],fun h=>absurd h (by simp[nilS])⟩⟩
theorem xgS{b:Nat}{cs:List Value}{upd:List Value→List HP}{rest:List HP}[o:Own b As cs upd rest]{off n c:Nat}{p:Option Addr}{K:Sl→WP}(hv:cs[off]? = some (.slice p n c):=by rfl)(h:Ent B As (K ⟨p,n,c⟩)):Ent B As (QAs .slice ⟨b,off,none⟩ K):=
 QAA (s:=.slice) (x:=⟨p,n,c⟩) (hv:=hv) (h:=h)
theorem ca5{s1 s2 s3 s4 s5:Sh}{K:s1.ty→s2.ty→s3.ty→s4.ty→s5.ty→WP}{a b c d e}{v:Unit}(h:Ent B As (K a b c d e)):Ent B As (Cur.app [s1,s2,s3,s4,s5] K (a,b,c,d,e,v)):=h
theorem ca7{s1 s2 s3 s4 s5 s6 s7:Sh}{K:s1.ty→s2.ty→s3.ty→s4.ty→s5.ty→s6.ty→s7.ty→WP}{a b c d e f g}{v:Unit}(h:Ent B As (K a b c d e f g)):Ent B As (Cur.app [s1,s2,s3,s4,s5,s6,s7] K (a,b,c,d,e,f,g,v)):=h
theorem QAW(Q:List HP){G R:List HP}[q:Split Q As G][a:App Q G R]{φ:WP}(h:Ent B R φ):Ent B As φ:=Ent.perm q.perm (by rw[a.eq];exact h)
theorem QXL(v:Int)(h0:0≤v)(h1:v≤65535):IntKind.i64.wrap v=v:=QAD v (by omega) (by omega)
structure AskV where
 code:Int
 addr:Int
 count:Int
 on:List Bool
 set:List Int
 parts:List P3
abbrev QcT:AskV:=⟨0,0,0,[],[],[]⟩
def AskV.e(a:AskV):Int:=askE a.code a.addr a.count a.on.length a.set.length a.parts
def QMw(l:List Int):Prop:=∀v∈l,0≤v∧v≤65535
abbrev Qdg(a:AskV)(so ss sp:Sl):Value:=.agg #[.I a.code,.I a.addr,.I a.count,so.v,ss.v,sp.v]
abbrev askR(a:AskV)(so ss sp:Sl):HP:=(RAr BL so a.on).and ((RAr W16 ss a.set).and (RAr PaE sp a.parts))
theorem QGU{p:Prop}[Decidable p]{a b:Int}(ha:a≠0)(h:(if p then a else b)=0):¬p∧b=0:=by
 by_cases hp:p
 ·rw[if_pos hp]at h;exact absurd h ha
 ·rw[if_neg hp]at h;exact⟨hp,h⟩
theorem QB0{c a n:Int}{no ns:Nat}{ps:List P3}(h:askE c a n no ns ps=0):(0≤a∧a≤65535) ∧
  (((c=1∨c=2)∧(1≤n∧n≤2000)∧no=0∧ns=0∧ps=[])∨((c=3∨c=4)∧(1≤n∧n≤125)∧no=0∧ns=0∧ps=[]) ∨
   (c=5∧n=0∧no=1∧ns=0∧ps=[])∨(c=6∧n=0∧no=0∧ns=1∧ps=[])∨(c=15∧n=0∧(1≤no∧no≤1968)∧ns=0∧ps=[]) ∨
   (c=16∧n=0∧no=0∧(1≤ns∧ns≤123)∧ps=[])∨(c=20∧n=0∧no=0∧ns=0∧(1≤ps.length∧ps.length≤35)∧QWo 245 ps=0)):=by
 unfold askE at h;obtain⟨n1,h⟩:=QGU (by decide) h;obtain⟨n2,h⟩:=QGU (by decide) h;obtain⟨n3,h⟩:=QGU (by decide) h;obtain⟨n4,h⟩:=QGU (by decide) h;obtain⟨n5,h⟩:=QGU (by decide) h;refine⟨by omega,?_⟩;have np:∀{l:List P3},¬0<(l.length:Int)→l=[]:=fun {l} h=>List.eq_nil_of_length_eq_zero (by omega);by_cases c1:c=1∨c=2
 ·rw[show QAu c=(2000,true,false,false,false,true,()) from if_pos c1]at n2 n4 n5;simp[QMK]at n2 n4;exact .inl ⟨c1,by omega,by omega,by omega,n2.2.2⟩
 by_cases c3:c=3∨c=4
 ·rw[show QAu c=(125,true,false,false,false,true,()) by unfold QAu;rw[if_neg c1,if_pos c3]]at n2 n4 n5;simp[QMK]at n2 n4;exact .inr (.inl ⟨c3,by omega,by omega,by omega,n2.2.2⟩)
 by_cases c5:c=5
 ·rw[show QAu c=(1,false,true,false,false,true,()) by rw[c5];rfl]at n2 n4 n5;simp[QMK]at n2 n4;exact .inr (.inr (.inl ⟨c5,by omega,by omega,by omega,n2.2.2⟩))
 by_cases c6:c=6
 ·rw[show QAu c=(1,false,false,true,false,true,()) by rw[c6];rfl]at n2 n4 n5;simp[QMK]at n2 n4;exact .inr (.inr (.inr (.inl ⟨c6,by omega,by omega,by omega,n2.2.2⟩)))
 by_cases c15:c=15
 ·rw[show QAu c=(1968,false,true,false,false,true,()) by rw[c15];rfl]at n2 n4 n5;simp[QMK]at n2 n4;exact .inr (.inr (.inr (.inr (.inl ⟨c15,by omega,by omega,by omega,n2.2.2⟩))))
 by_cases c16:c=16
 ·rw[show QAu c=(123,false,false,true,false,true,()) by rw[c16];rfl]at n2 n4 n5;simp[QMK]at n2 n4;exact .inr (.inr (.inr (.inr (.inr (.inl ⟨c16,by omega,by omega,by omega,n2.2.2⟩)))))
 by_cases c20:c=20
 ·rw[show QAu c=(35,false,false,false,true,true,()) by rw[c20];rfl]at n2 n4 n5;simp[QMK]at n2 n4;exact .inr (.inr (.inr (.inr (.inr (.inr ⟨c20,by omega,by omega,by omega,by omega,h⟩)))))
 exfalso;refine n1 ?_;unfold QAu;rw[if_neg c1,if_neg c3,if_neg c5,if_neg c6,if_neg c15,if_neg c16,if_neg c20]
def QHx(p:P3):List UInt8:=6::(QCo p.1++(QCo p.2.1++QCo p.2.2))
def QSM(a:AskV):List UInt8:=
 if a.code=5 then QCo a.addr++QCo (if a.on.headD false=true then 65280 else 0)
 else if a.code=6 then QCo a.addr++QCo (a.set.headD 0)
 else if a.code=15 then QCo a.addr++QCo a.on.length++[UInt8.ofNat (QD4 a.on).length]++QD4 a.on
 else if a.code=16 then QCo a.addr++QCo a.set.length++[UInt8.ofNat (2*a.set.length)]++a.set.flatMap QCo
 else if a.code=20 then UInt8.ofNat (7*a.parts.length)::a.parts.flatMap QHx
 else QCo a.addr++QCo a.count
def QGO(a:AskV):List UInt8:=UInt8.ofNat a.code.toNat::QSM a
def QDe(a:AskV):List UInt8:=if a.e=0 then QGO a else []
theorem QEX(l:List Int):(l.flatMap QCo).length=2*l.length:=by
 induction l with
 | nil=>rfl
 | cons v l ih=>rw[List.flatMap_cons,List.length_append,ih,List.length_cons];simp[QCo];omega
theorem QXk(p:P3):(QHx p).length=7:=rfl
theorem QOM(l:List P3):(l.flatMap QHx).length=7*l.length:=by
 induction l with
 | nil=>rfl
 | cons v l ih=>rw[List.flatMap_cons,List.length_append,ih,List.length_cons,QXk];omega
theorem QFy(a:AskV)(hw:QMw a.set)(so ss sp:Sl):Ct Pr 108 [Qdg a so ss sp] (.tup [none,none]) [.slice,.I] [] (askR a so ss sp) (fun t Bs=>t.2.1=a.e∧Bs=[Ar U8 t.1 (QDe a)]):=by
 refine sp2 (QXb _ _ _ _ _ _) fun B hr=>?_;obtain⟨hr1,hr2,hr3⟩:=hr;haveI:Fro B so BL a.on:=⟨hr1⟩;haveI:Fro B ss W16 a.set:=⟨hr2⟩;haveI:Fro B sp PaE a.parts:=⟨hr3⟩;have ho:a.on.length=so.n:=hr1.1;have hs:a.set.length=ss.n:=hr2.1;have hp:a.parts.length=sp.n:=hr3.1;unfold QXb mf;dsimp only;refine QAL fun b=>?_;iterate 3 (refine xgq ?_)
 refine QAA (s:=.slice) (x:=so) (hv:=rfl) (h:=QAA (s:=.slice) (x:=ss) (hv:=rfl) (h:=QAA (s:=.slice) (x:=sp) (hv:=rfl) (h:=?_)));refine xd1 (QIz a.code a.addr a.count so ss sp a.parts) ?_;rw[←ho,←hs,show askE a.code a.addr a.count a.on.length a.set.length a.parts=a.e from rfl];refine xif (fun h=>?_) (fun h=>?_)
 ·have h0:a.e≠0:=by simpa using h
  refine QB1 0 (QAd U8 (QAE ⟨rfl,?_⟩));rw[show QDe a=[] from if_neg h0]
 have h0:a.e=0:=by simpa using h
 obtain⟨⟨ha0,ha1⟩,hk⟩:=QB0 h0
 have hc:IntKind.u8.wrap a.code=((UInt8.ofNat a.code.toNat).toNat:Int):=by
  rcases hk with⟨q|q,_⟩|⟨q|q,_⟩|⟨q,_⟩|⟨q,_⟩|⟨q,_⟩|⟨q,_⟩|⟨q,_⟩<;>rw[q] <;> rfl
 rw[show QDe a=QGO a from if_pos h0];unfold QGO;refine xgq (QAL fun b1=>xgq ?_);rw[hc];generalize hcu:UInt8.ofNat a.code.toNat=cu
 have two:∀(x y:Int) {R:List HP}{K:Sl→WP},(0≤x∧x≤65535)→(0≤y∧y≤65535)→(∀s,Ent B (Ar U8 s (cu::(QCo x++QCo y))::R) (K s)) →
   Ent B (Blk b1 [.int .u8 (cu.toNat:Int)]::R) (QDK [.I x,.I y] 3 fun b2=>QAe Pr 170 [.slice (some ⟨b1,0,none⟩) 1 1,.slice (some ⟨b2,0,none⟩) 2 2] .one [.slice] K):=by
  intro x y R K hx hy hK;refine QAL fun b2=>QAf (Q:=Ar I64 ⟨some ⟨b2,0,none⟩,2,2⟩ [x,y]) 0 (fun g hg=>⟨[],QAm [x,y] 2 rfl rfl hg⟩) ?_;refine QAf (Q:=Ar U8 ⟨some ⟨b1,0,none⟩,1,1⟩ [cu]) 1 (fun g hg=>⟨[],QAm [cu] 1 rfl rfl hg⟩) ?_;refine xn1 (L:=fun s=>[Ar U8 s (cu::(QCo x++QCo y))]) (QUe ⟨some ⟨b1,0,none⟩,1,1⟩ [cu] ⟨some ⟨b2,0,none⟩,2,2⟩ [x,y] (by intro v hv;simp at hv;omega) (by simp) (by simp)) (fun t Bs hB=>by rw[hB];simp) fun s=>?_;exact QB1 1 (hK s)
 have fin:∀{R:List HP}{s:Sl}{z:List UInt8},z=QSM a→Ent B (Ar U8 s (cu::z)::R) (Ret B (ss:=[.slice,.I]) (fun t Bs=>t.2.1=a.e∧Bs=[Ar U8 t.1 (cu::QSM a)]) (s,0,())):=by
  rintro R s z rfl;exact QAM [Ar U8 s (cu::QSM a)] (QAE ⟨h0.symm,rfl⟩)
 -- behind two numbers: how many bytes, and these
 have more:∀{R:List HP}{s p:Sl}{xs ys:List UInt8}{k:Int},ys.length≤255→xs.length=5→k=ys.length→xs++[UInt8.ofNat ys.length]++ys=cu::QSM a→Ent B (Ar U8 s xs::Ar U8 p ys::R) (QDK [.int .u8 (IntKind.u8.wrap k)] 5 fun b5=>QSO Pr 34 34 34 s.v (.slice (some ⟨b5,0,none⟩) 1 1) fun s11=>QSO Pr 34 34 34 s11.v p.v fun s12=>Ret B (ss:=[.slice,.I]) (fun t Bs=>t.2.1=a.e∧Bs=[Ar U8 t.1 (cu::QSM a)]) (s12,0,())):=by
  rintro R s p xs ys k hl hx rfl hz;rw[show IntKind.u8.wrap (ys.length:Int)=((UInt8.ofNat ys.length).toNat:Int) from (QAr ys.length)];refine QAL fun b5=>QAf (Q:=Ar U8 ⟨some ⟨b5,0,none⟩,1,1⟩ [UInt8.ofNat ys.length]) 0 (fun g hg=>⟨[],QAm [UInt8.ofNat ys.length] 1 rfl rfl hg⟩) ?_;refine QHX (E:=U8) (s:=s) (y:=⟨some ⟨b5,0,none⟩,1,1⟩) (hb:=by simp[hx]) (h:=fun s1=>?_);refine QHX (E:=U8) (s:=s1) (y:=p) (hb:=by simp[hx];omega) (h:=fun s2=>?_);rw[hz];exact QAM [Ar U8 s2 (cu::QSM a)] (QAE ⟨h0.symm,rfl⟩)
 rcases hk with⟨q,hn,hno,hns,hps⟩|⟨q,hn,hno,hns,hps⟩|⟨q,hn,hno,hns,hps⟩|⟨q,hn,hno,hns,hps⟩|⟨q,hn,hno,hns,hps⟩|⟨q,hn,hno,hns,hps⟩|⟨q,hn,hno,hns,hps,hch⟩
 case inl=>
  iterate 5 (refine QBF (by rcases q with q|q<;>rw[q] <;> rfl) ?_)
  refine QAA (h:=QAA (h:=two a.addr a.count ⟨ha0,ha1⟩ (by omega) fun s=>fin ?_));rcases q with q|q <;> (unfold QSM;rw[q];rfl)
 case inr.inl=>
  iterate 5 (refine QBF (by rcases q with q|q<;>rw[q] <;> rfl) ?_)
  refine QAA (h:=QAA (h:=two a.addr a.count ⟨ha0,ha1⟩ (by omega) fun s=>fin ?_));rcases q with q|q <;> (unfold QSM;rw[q];rfl)
 case inr.inr.inl=>
  obtain⟨v,hv⟩:∃v,a.on=[v]:=List.length_eq_one_iff.1 hno;refine QBk (by rw[q];rfl) (QAA (s:=.slice) (x:=so) (hv:=rfl) (h:=?_));refine QAI (E:=BL) (xs:=a.on) (s:=so) (k:=0) (h1:=by rw[hv];exact Nat.zero_lt_one) (h:=fun _ _=>?_);refine QAO (E:=BL) (xs:=a.on) (i:=0) (x:=v) (by rw[hv];rfl) (h:=?_);refine QAU (fun(x:Int) As'=>x=(if v=true then 65280 else 0)∧As'=[Blk b1 [.int .u8 (cu.toNat:Int)],Blk b [.I a.code,.I a.addr,.I a.count,so.v,ss.v,sp.v]]) (fun K hK=>xif (fun h=>hK _ _ ⟨by rw[if_pos h],rfl⟩) (fun h=>hK _ _ ⟨by rw[if_neg (by rw[h];decide)],rfl⟩)) ?_;rintro _ _ ⟨rfl,rfl⟩;refine QAA (h:=two a.addr _ ⟨ha0,ha1⟩ (by split<;>omega) fun s=>fin ?_);unfold QSM;rw[if_pos q,hv];rfl
 case inr.inr.inr.inl=>
  obtain⟨v,hv⟩:∃v,a.set=[v]:=List.length_eq_one_iff.1 hns;have hv2:=hw v (by rw[hv];simp);refine QBF (by rw[q];rfl) (QBk (by rw[q];rfl) (QAP (xgq (QAA (s:=.slice) (x:=ss) (hv:=rfl) (h:=?_)))));refine QAI (E:=W16) (xs:=a.set) (s:=ss) (k:=0) (h1:=by rw[hv];exact Nat.zero_lt_one) (h:=fun _ _=>?_);refine QAO (E:=W16) (xs:=a.set) (i:=0) (x:=v) (by rw[hv];rfl) (h:=?_);rw[QXL v hv2.1 hv2.2];refine two a.addr v ⟨ha0,ha1⟩ hv2 fun s=>fin ?_;unfold QSM;rw[if_neg (by omega),if_pos q,hv];rfl
 case inr.inr.inr.inr.inl=>
  iterate 2 (refine QBF (by rw[q];rfl) ?_)
  refine QBk (by rw[q];rfl) (QAA (s:=.slice) (x:=so) (hv:=rfl) (h:=?_));refine xn1 (L:=fun s=>[Ar U8 s (QD4 a.on)]) (QJG so a.on (by omega)) (fun t Bs hB=>hB) fun p=>?_;refine QCn (E:=U8) (xs:=QD4 a.on) p fun hpl _=>?_;have hbl:=QEl a.on;have hN:QGd a.on.length=(a.on.length+7) / 8:=rfl;refine xgq (QAA (s:=.slice) (x:=so) (hv:=rfl) (h:=?_));rw[←ho];refine QAW [Blk b1 [.int .u8 (cu.toNat:Int)]] (two a.addr a.on.length ⟨ha0,ha1⟩ (by omega) fun s=>more (k:=p.n) (by omega) (by simp[QCo]) (by omega) ?_);unfold QSM;rw[if_neg (by omega),if_neg (by omega),if_pos q];simp[List.append_assoc]
 case inr.inr.inr.inr.inr.inl=>
  iterate 3 (refine QBF (by rw[q];rfl) ?_)
  refine QBk (by rw[q];rfl) (QAA (s:=.slice) (x:=ss) (hv:=rfl) (h:=?_));refine xn1 (L:=fun s=>[Ar U8 s (a.set.flatMap QCo)]) (QE7 ss a.set hw (by omega)) (fun t Bs hB=>hB) fun p=>?_;refine QCn (E:=U8) (xs:=a.set.flatMap QCo) p fun hpl _=>?_;have hbl:=QEX a.set;refine xgq (QAA (s:=.slice) (x:=ss) (hv:=rfl) (h:=?_));rw[←hs];refine QAW [Blk b1 [.int .u8 (cu.toNat:Int)]] (two a.addr a.set.length ⟨ha0,ha1⟩ (by omega) fun s=>more (k:=p.n) (by omega) (by simp[QCo]) (by omega) ?_);unfold QSM;rw[if_neg (by omega),if_neg (by omega),if_neg (by omega),if_pos q,QEX];simp[List.append_assoc]
 case inr.inr.inr.inr.inr.inr=>
  iterate 4 (refine QBF (by rw[q];rfl) ?_)
  refine QBk (by rw[q];rfl) (QAA (s:=.slice) (x:=sp) (hv:=rfl) (h:=?_));rw[←hp,QAD (7*(a.parts.length:Int)) (by omega) (by omega)];rw[show IntKind.u8.wrap (7*(a.parts.length:Int))=((UInt8.ofNat (7*a.parts.length)).toNat:Int) from QAr (7*a.parts.length)];refine QAL fun b8=>QAf (Q:=Ar U8 ⟨some ⟨b8,0,none⟩,1,1⟩ [UInt8.ofNat (7*a.parts.length)]) 0 (fun g hg=>⟨[],QAm [UInt8.ofNat (7*a.parts.length)] 1 rfl rfl hg⟩) ?_;refine QAf (Q:=Ar U8 ⟨some ⟨b1,0,none⟩,1,1⟩ [cu]) 1 (fun g hg=>⟨[],QAm [cu] 1 rfl rfl hg⟩) ?_;refine QHX (E:=U8) (s:=⟨some ⟨b1,0,none⟩,1,1⟩) (y:=⟨some ⟨b8,0,none⟩,1,1⟩) (hb:=by simp) (h:=fun s1=>?_);refine QAA (s:=.slice) (x:=sp) (hv:=rfl) (h:=?_);refine QAM [Ar U8 s1 ([cu]++[UInt8.ofNat (7*a.parts.length)])] ?_;refine QBb (fun n (s:Sl) (x:Int) As'=>∃k:Nat,x=(k:Int)∧n=a.parts.length - k∧k≤a.parts.length∧As'=[Ar U8 s ([cu,UInt8.ofNat (7*a.parts.length)]++(a.parts.take k).flatMap QHx)]) a.parts.length ⟨0,rfl,rfl,by omega,by simp⟩ ?_;rintro n s x As' K ⟨k,rfl,rfl,hk,rfl⟩ hK;refine QAB (fun h=>?_) (fun h=>?_)
  ·have hlt:k<a.parts.length:=by omega
   obtain⟨⟨y1,y2,y3⟩,hy⟩:∃y,a.parts[k]? = some y:=⟨_,List.getElem?_eq_getElem hlt⟩;have hyb:=QYQ a.parts 245 hch _ (List.mem_of_getElem? hy);refine QAI (E:=PaE) (xs:=a.parts) (s:=sp) (k:=k) (h1:=hlt) (h:=fun _ _=>?_);refine QAO (E:=PaE) (xs:=a.parts) hy (h:=?_);refine QAb (E:=PaE) (xs:=a.parts) hy (h:=?_);refine QAb (E:=PaE) (xs:=a.parts) hy (h:=?_)
   (try dsimp only)
   unfold QXw at hyb;simp at hyb;refine QAL fun b10=>xsq (xsq (xsq (QAP ?_)))
   have hlen:((a.parts.take k).flatMap QHx).length=7*k:=by rw[QOM,List.length_take];omega
   have e:([cu,UInt8.ofNat (7*a.parts.length)]++(a.parts.take k).flatMap QHx++[6])++[y1,y2,y3].flatMap QCo=[cu,UInt8.ofNat (7*a.parts.length)]++(a.parts.take (k+1)).flatMap QHx:=by
    rw[←QFN hy,List.flatMap_append];simp[QHx,List.append_assoc]
   refine QAU (fun(s':Sl) As'=>As'=[Ar U8 s' ([cu,UInt8.ofNat (7*a.parts.length)]++(a.parts.take (k+1)).flatMap QHx)]) (fun K1 hK1=>?_) ?_
   ·iterate 3 (refine xgq ?_)
    have step:∀{s22:Sl}{b13:Nat}{R:List HP},Ent B (Ar U8 s22 ([cu,UInt8.ofNat (7*a.parts.length)]++(a.parts.take k).flatMap QHx++[6])::Blk b13 [.I y1,.I y2,.I y3]::R) (QAe Pr 170 [s22.v,.slice (some ⟨b13,0,none⟩) 3 3] .one [.slice] fun s23=>K1 s23):=by
     intro s22 b13 R;refine QAf (Q:=Ar I64 ⟨some ⟨b13,0,none⟩,3,3⟩ [y1,y2,y3]) 1 (fun g hg=>⟨[],QAm [y1,y2,y3] 3 rfl rfl hg⟩) ?_;refine xn1 (L:=fun s=>[Ar U8 s (([cu,UInt8.ofNat (7*a.parts.length)]++(a.parts.take k).flatMap QHx++[6])++[y1,y2,y3].flatMap QCo)]) (QUe s22 _ ⟨some ⟨b13,0,none⟩,3,3⟩ [y1,y2,y3] (by intro v hv;simp at hv;omega) (by simp[hlen];omega) (by simp)) (fun t Bs hB=>hB) fun s4=>?_;rw[e];exact QAM [Ar U8 s4 ([cu,UInt8.ofNat (7*a.parts.length)]++(a.parts.take (k+1)).flatMap QHx)] (hK1 _ _ rfl)
    refine QXY (QAL fun b12=>QXY ?_ (QAL fun b14=>?_)) (QAL fun b15=>QAL fun b16=>?_)
    ·refine QAf (Q:=Ar U8 ⟨some ⟨b12,0,none⟩,1,1⟩ [6]) 0 (fun g hg=>⟨[],QAm [6] 1 rfl rfl hg⟩) ?_;refine QHX (E:=U8) (s:=s) (y:=⟨some ⟨b12,0,none⟩,1,1⟩) (hb:=by simp[hlen];omega) (h:=fun s1=>?_);refine QC7 (h:=QC7 (h:=QC7 (h:=QAL fun b13=>?_)));exact QAW [Ar U8 s1 ([cu,UInt8.ofNat (7*a.parts.length)]++(a.parts.take k).flatMap QHx++[6]),Blk b13 [.I y1,.I y2,.I y3]] step
    ·refine QAf (Q:=Ar U8 ⟨some ⟨b12,0,none⟩,1,1⟩ [6]) 1 (fun g hg=>⟨[],QAm [6] 1 rfl rfl hg⟩) ?_;refine QHX (E:=U8) (s:=s) (y:=⟨some ⟨b12,0,none⟩,1,1⟩) (hb:=by simp[hlen];omega) (h:=fun s1=>?_);refine QC7 (h:=QC7 (h:=QC7 (h:=?_)));exact QAW [Ar U8 s1 ([cu,UInt8.ofNat (7*a.parts.length)]++(a.parts.take k).flatMap QHx++[6]),Blk b14 [.I y1,.I y2,.I y3]] step
    ·refine QAf (Q:=Ar U8 ⟨some ⟨b16,0,none⟩,1,1⟩ [6]) 0 (fun g hg=>⟨[],QAm [6] 1 rfl rfl hg⟩) ?_;refine QHX (E:=U8) (s:=s) (y:=⟨some ⟨b16,0,none⟩,1,1⟩) (hb:=by simp[hlen];omega) (h:=fun s1=>?_);refine QC7 (h:=QC7 (h:=QC7 (h:=?_)));exact QAW [Ar U8 s1 ([cu,UInt8.ofNat (7*a.parts.length)]++(a.parts.take k).flatMap QHx++[6]),Blk b15 [.I y1,.I y2,.I y3]] step
   rintro s2 _ rfl;rw[QAF k (by omega)];exact hK (a.parts.length - (k+1)) _ _ _ (by omega) ⟨k+1,rfl,rfl,by omega,rfl⟩
  ·rw[List.take_of_length_le (by omega)];refine fin ?_;unfold QSM;rw[if_neg (by omega),if_neg (by omega),if_neg (by omega),if_neg (by omega),if_pos q];rfl
theorem gdE{α:Type}{xs:List α}{d:α}{i:Nat}(h:i<xs.length):xs[i]? = some (xs.getD i d):=by rw[List.getD_eq_getElem?_getD,List.getElem?_eq_getElem h];rfl
theorem Qdj{a b:Int}(h:a≠b):(a == b)=false:=by simpa using h
theorem QcV(xs:List UInt8)(i:Nat):be2 xs i<65536:=by
 unfold be2;have:=(xs.getD i 0).toNat_lt;have:=(xs.getD (i+1) 0).toNat_lt;omega
def QBS(xs:List UInt8):AskV×Bool:=
 let c:=(xs.getD 0 0).toNat
 if c=20 then (⟨20,0,0,[],[],(QKS (xs.drop 2)).1⟩,(QKS (xs.drop 2)).2)
 else if c=5 then (⟨5,be2 xs 1,0,[((be2 xs 3:Nat):Int) == 65280],[],[]⟩,((be2 xs 3:Nat):Int) == 65280||((be2 xs 3:Nat):Int) == 0)
 else if c=6 then (⟨6,be2 xs 1,0,[],[be2 xs 3],[]⟩,true)
 else if c=15 then (⟨15,be2 xs 1,0,(QB4 (xs.drop 6) (be2 xs 3)).1,[],[]⟩,(QB4 (xs.drop 6) (be2 xs 3)).2 == 0)
 else if c=16 then (⟨16,be2 xs 1,0,[],(QCk (xs.drop 6)).1,[]⟩,(QCk (xs.drop 6)).2 == 0&&(((QCk (xs.drop 6)).1.length:Int) == (be2 xs 3:Nat)))
 else (⟨c,be2 xs 1,be2 xs 3,[],[],[]⟩,true)
abbrev Qcp(s:Sh):List Sh:=[.I,.I,.I,.slice,.slice,.slice,s]
def QK3{s:Sh}(a:AskV)(e:s.ty)(t:Tup (Qcp s))(Bs:List HP):Prop:=
 t.1=a.code∧t.2.1=a.addr∧t.2.2.1=a.count∧t.2.2.2.2.2.2.1=e∧Bs=[Ar BL t.2.2.2.1 a.on,Ar W16 t.2.2.2.2.1 a.set,Ar PaE t.2.2.2.2.2.1 a.parts]
def QMW(c:Nat):Bool:=(QAu c).2.2.2.2.2.1
theorem QQ0{c:Nat}(h:QMW c=true):c=1∨c=2∨c=3∨c=4∨c=5∨c=6∨c=15∨c=16∨c=20:=by
 unfold QMW QAu at h
 (repeat' split at h)<;>first|omega|cases h
theorem QSm{xs:List UInt8}(h:QHn xs=0):((xs.getD 0 0).toNat=20→2≤xs.length∧xs.length=2+(xs.getD 1 0).toNat)∧(15≤(xs.getD 0 0).toNat→(xs.getD 0 0).toNat<20→6≤xs.length∧xs.length=6+(xs.getD 5 0).toNat)∧((xs.getD 0 0).toNat<15→xs.length=5):=by
 unfold QHn at h;obtain⟨n1,h⟩:=QGU (by decide) h;obtain⟨n2,h⟩:=QGU (by decide) h;obtain⟨n3,_⟩:=QGU (by decide) h;refine⟨fun hc=>?_,fun h1 h2=>?_,fun hc=>?_⟩
 ·rw[if_pos hc]at n2 n3;omega
 ·rw[if_neg (by omega),if_pos h1]at n2 n3;omega
 ·rw[if_neg (by omega),if_neg (by omega)]at n2 n3;omega
theorem QhS(v:Nat)(h:v<65536):IntKind.u16.wrap (v:Int)=(v:Int):=by
 have q1:(2 ^ IntKind.u16.bits:Int)=65536:=by decide
 have q3:IntKind.u16.signed=false:=rfl;simp only[IntKind.wrap,q1,q3,Bool.false_and];simp;omega
theorem QSC(xs:List UInt8)(h1:1≤xs.length)(hco:QMW (xs.getD 0 0).toNat=true)(hz:QHn xs=0)(b:Sl)(hcap:b.n≤b.c):Ct Pr 162 [b.v] (.tup [some 6,none]) (Qcp .bool) [] (RAr U8 b xs) (QK3 (QBS xs).1 (QBS xs).2):=by
 refine QAh (ss:=Qcp .bool) (φ:=fun K=>(QOu _ K).1) (fun h=>cf _ rfl (by kernel_rfl) h) fun B hr=>?_;show Ent B [] (QOu b fun x0 x1 x2 x3 x4 x5 x6=>Ret B (ss:=Qcp .bool) (QK3 (QBS xs).1 (QBS xs).2) (x0,x1,x2,x3,x4,x5,x6,()));haveI:Fro B b U8 xs:=⟨hr⟩;have hn:=hr.1;obtain⟨z20,z15,z5⟩:=QSm hz;unfold QOu mf;dsimp only;refine QAL fun b1=>QAI (E:=U8) (xs:=xs) (s:=b) (k:=0) (h1:=h1) (h:=fun _ _=>?_);refine QAO (E:=U8) (xs:=xs) (i:=0) (gdE (d:=0) h1) (h:=QAL fun b2=>?_);have hcl:=(xs.getD 0 0).toNat_lt;have hor:=QQ0 hco;rw[QXL ((xs.getD 0 0).toNat:Int) (by omega) (by omega)];iterate 6 (refine xsq ?_)
 refine xgq ?_;by_cases c20:(xs.getD 0 0).toNat=20
 ·rw[show QBS xs=(⟨20,0,0,[],[],(QKS (xs.drop 2)).1⟩,(QKS (xs.drop 2)).2) from if_pos c20];obtain⟨hl2,hl⟩:=z20 c20;have:=(xs.getD 1 0).toNat_lt;refine QBk (by rw[c20];rfl) ?_;refine QEf (by omega) (by omega) (by omega) (by omega) ?_;simp only[Int.toNat_natCast];have hcut:=hr.cut 2 b.n b.c (by omega) hcap (by omega)
  have e:(xs.take b.n).drop 2=xs.drop 2:=by rw[List.take_of_length_le (by omega)]
  haveI:Fro B (b.cut (Int.toNat 2) b.n b.c 1) U8 (xs.drop 2):=⟨e ▸ hcut⟩;refine xcl (QVq (b.cut (Int.toNat 2) b.n b.c 1) (xs.drop 2) (by simp;omega) (by simp[Sl.cut];omega)) rdb ?_;rintro⟨s1,c,_⟩ _ ⟨hc,rfl⟩;simp only at hc;subst hc;refine QA8 (ca2 (xsq ?_));iterate 5 (first|refine xgq ?_|refine xgS (h:=?_))
  refine QAA (s:=.slice) (x:=s1) (hv:=rfl) (h:=?_);iterate 6 (refine xsq ?_)
  iterate 5 (first|refine xgq ?_|refine xgS (h:=?_))
  refine QAA (s:=.slice) (x:=s1) (hv:=rfl) (h:=?_);refine QAd W16 (QAd BL (QAM [Ar BL nilS [],Ar W16 nilS [],Ar PaE s1 (QKS (xs.drop 2)).1] (QAE ⟨?_,rfl,rfl,rfl,rfl⟩)));show ((xs.getD 0 0).toNat:Int)=20;omega
 have hlen:5≤xs.length:=by rcases hor with q|q|q|q|q|q|q|q|q<;>first|omega|(have:=z5 (by omega);omega)|(have:=(z15 (by omega) (by omega)).1;omega)
 have rd2:∀(i:Nat),i+1<xs.length→(((xs.getD i 0).toNat*256+(xs.getD (i+1) 0).toNat:Nat):Int)=((be2 xs i:Nat):Int):=fun _ _=>rfl;refine QBF (Qdj (by omega)) (QAP ?_);refine QAI (E:=U8) (xs:=xs) (s:=b) (k:=1) (h1:=by omega) (h:=fun _ _=>?_);refine QAO (E:=U8) (xs:=xs) (i:=1) (gdE (d:=0) (by omega)) (h:=QA6 (by decide) ?_);refine QAI (E:=U8) (xs:=xs) (s:=b) (k:=2) (h1:=by omega) (h:=fun _ _=>?_);refine QAO (E:=U8) (xs:=xs) (i:=2) (gdE (d:=0) (by omega)) (h:=?_);rw[QNT,rd2 1 (by omega)];refine xsq (QAP ?_);refine QAI (E:=U8) (xs:=xs) (s:=b) (k:=3) (h1:=by omega) (h:=fun _ _=>?_);refine QAO (E:=U8) (xs:=xs) (i:=3) (gdE (d:=0) (by omega)) (h:=QA6 (by decide) ?_);refine QAI (E:=U8) (xs:=xs) (s:=b) (k:=4) (h1:=by omega) (h:=fun _ _=>?_);refine QAO (E:=U8) (xs:=xs) (i:=4) (gdE (d:=0) (by omega)) (h:=xgq ?_);rw[QNT,rd2 3 (by omega)];have hb3:=QcV xs 3;obtain⟨r,hr'⟩:∃r,QBS xs=r:=⟨_,rfl⟩;rw[hr']
 have hcode:r.1.code=((xs.getD 0 0).toNat:Int)∧r.1.addr=((be2 xs 1:Nat):Int):=by
  rw[←hr'];unfold QBS;simp only[if_neg c20];repeat' split
  all_goals first|exact⟨rfl,rfl⟩|exact⟨by simp only;omega,rfl⟩
 obtain⟨hcode,hadr⟩:=hcode;rw[←hcode,←hadr]
 have cutR:6≤xs.length→RAr U8 (b.cut (Int.toNat 6) b.n b.c 1) (xs.drop 6) (frz B.W B.h0):=fun h6=>by
  have hcut:=hr.cut 6 b.n b.c (by omega) hcap (by omega)
  have e:(xs.take b.n).drop 6=xs.drop 6:=by rw[List.take_of_length_le (by omega)]
  exact e ▸ hcut
 refine QAU (fun(x:Bool) As'=>x=r.2∧∃so ss sp:Sl,As'=[Ar BL so r.1.on,Ar W16 ss r.1.set,Ar PaE sp r.1.parts,Blk b2 [.I r.1.code,.I r.1.addr,.I r.1.count,so.v,ss.v,sp.v],Blk b1 [.I 0,.I 0,.I 0,.slice none 0 0,.slice none 0 0,.slice none 0 0]]) (fun K hK=>?_) ?_
 ·refine xif (fun h=>?_) (fun h=>?_)
  ·have c5:(xs.getD 0 0).toNat=5:=by rw[hcode]at h;have:=eq_of_beq h;omega
   obtain rfl:(⟨5,be2 xs 1,0,[((be2 xs 3:Nat):Int) == 65280],[],[]⟩,((be2 xs 3:Nat):Int) == 65280||((be2 xs 3:Nat):Int) == 0)=r:=by
    rw[←hr'];unfold QBS;simp only[if_neg c20,if_pos c5]
   refine QAL fun b3=>xsq ?_;refine QAW [Blk b3 [.bool (((be2 xs 3:Nat):Int) == 65280)]] (QAf (Q:=Ar BL ⟨some ⟨b3,0,none⟩,1,1⟩ [((be2 xs 3:Nat):Int) == 65280]) 0 (fun g hg=>⟨[],QAm [((be2 xs 3:Nat):Int) == 65280] 1 rfl rfl hg⟩) ?_);exact QAd W16 (QAd PaE (QAW [Ar BL ⟨some ⟨b3,0,none⟩,1,1⟩ [((be2 xs 3:Nat):Int) == 65280],Ar W16 nilS [],Ar PaE nilS []] (hK _ _ ⟨rfl,_,_,_,rfl⟩)))
  refine QAJ (xif (fun h2=>?_) (fun h2=>?_))
  ·have c6:(xs.getD 0 0).toNat=6:=by rw[hcode]at h2;have:=eq_of_beq h2;omega
   obtain rfl:(⟨6,be2 xs 1,0,[],[((be2 xs 3:Nat):Int)],[]⟩,true)=r:=by
    rw[←hr'];unfold QBS;simp only[if_neg c20,if_pos c6];rw[if_neg (by omega)]
   rw[QhS (be2 xs 3) hb3];refine QAL fun b3=>xsq ?_;refine QAW [Blk b3 [.int .u16 ((be2 xs 3:Nat):Int)]] (QAf (Q:=Ar W16 ⟨some ⟨b3,0,none⟩,1,1⟩ [((be2 xs 3:Nat):Int)]) 0 (fun g hg=>⟨[],QAm [((be2 xs 3:Nat):Int)] 1 rfl rfl hg⟩) ?_);exact QAd BL (QAd PaE (QAW [Ar BL nilS [],Ar W16 ⟨some ⟨b3,0,none⟩,1,1⟩ [((be2 xs 3:Nat):Int)],Ar PaE nilS []] (hK _ _ ⟨rfl,_,_,_,rfl⟩)))
  refine QAJ (xif (fun h3=>?_) (fun h3=>?_))
  ·have c15:(xs.getD 0 0).toNat=15:=by rw[hcode]at h3;have:=eq_of_beq h3;omega
   obtain rfl:(⟨15,be2 xs 1,0,(QB4 (xs.drop 6) (be2 xs 3)).1,[],[]⟩,(QB4 (xs.drop 6) (be2 xs 3)).2 == 0)=r:=by
    rw[←hr'];unfold QBS;simp only[if_neg c20,if_pos c15];rw[if_neg (by omega),if_neg (by omega)]
   obtain⟨h6,hl⟩:=z15 (by omega) (by omega);refine QEf (by omega) (by omega) (by omega) (by omega) ?_;simp only[Int.toNat_natCast];haveI:Fro B (b.cut (Int.toNat 6) b.n b.c 1) U8 (xs.drop 6):=⟨cutR h6⟩;refine xcl (QMg (b.cut (Int.toNat 6) b.n b.c 1) (xs.drop 6) (be2 xs 3) (by omega)) rdb ?_;rintro⟨s6,(r1:Int),_⟩ _ ⟨hr1,rfl⟩;simp only at hr1;subst hr1;refine QA8 (ca2 (xsq ?_));exact QAd W16 (QAd PaE (QAW [Ar BL s6 (QB4 (xs.drop 6) (be2 xs 3)).1,Ar W16 nilS [],Ar PaE nilS []] (hK _ _ ⟨rfl,_,_,_,rfl⟩)))
  refine QAJ (xif (fun h4=>?_) (fun h4=>?_))
  ·have c16:(xs.getD 0 0).toNat=16:=by rw[hcode]at h4;have:=eq_of_beq h4;omega
   obtain rfl:(⟨16,be2 xs 1,0,[],(QCk (xs.drop 6)).1,[]⟩,(QCk (xs.drop 6)).2 == 0&&(((QCk (xs.drop 6)).1.length:Int) == (be2 xs 3:Nat)))=r:=by
    rw[←hr'];unfold QBS;simp only[if_neg c20,if_pos c16];rw[if_neg (by omega),if_neg (by omega),if_neg (by omega)]
   obtain⟨h6,hl⟩:=z15 (by omega) (by omega);have:=(xs.getD 5 0).toNat_lt;refine QEf (by omega) (by omega) (by omega) (by omega) ?_;simp only[Int.toNat_natCast];haveI:Fro B (b.cut (Int.toNat 6) b.n b.c 1) U8 (xs.drop 6):=⟨cutR h6⟩;refine xcl (QGt (b.cut (Int.toNat 6) b.n b.c 1) (xs.drop 6) (by simp;omega)) rdb ?_;rintro⟨s8,(r1:Int),_⟩ _ ⟨hr1,rfl⟩;simp only at hr1;subst hr1;refine QA8 (ca2 (xsq ?_));refine QAW [Ar W16 s8 (QCk (xs.drop 6)).1] (QCn (E:=W16) (xs:=(QCk (xs.drop 6)).1) s8 fun hl8 _=>?_);exact QAd BL (QAd PaE (QAW [Ar BL nilS [],Ar W16 s8 (QCk (xs.drop 6)).1,Ar PaE nilS []] (hK _ _ ⟨by rw[←hl8],_,_,_,rfl⟩)))
  ·have hc:∀{k:Nat},(r.1.code == (k:Int))=false→(xs.getD 0 0).toNat≠k:=fun {k} h=>by rw[hcode]at h;have:=ne_of_beq_false h;omega
   have d5:=hc (k:=5) h;have d6:=hc (k:=6) h2;have d15:=hc (k:=15) h3;have d16:=hc (k:=16) h4
   obtain rfl:(⟨(xs.getD 0 0).toNat,be2 xs 1,be2 xs 3,[],[],[]⟩,true)=r:=by
    rw[←hr'];unfold QBS;simp only[if_neg c20,if_neg d5,if_neg d6,if_neg d15,if_neg d16]
   refine xsq ?_;exact QAd W16 (QAd BL (QAd PaE (QAW [Ar BL nilS [],Ar W16 nilS [],Ar PaE nilS []] (hK _ _ ⟨rfl,_,_,_,rfl⟩))))
 rintro _ _ ⟨rfl,so,ss,sp,rfl⟩;iterate 3 (refine xgq ?_)
 refine QAA (s:=.slice) (x:=so) (hv:=rfl) (h:=QAA (s:=.slice) (x:=ss) (hv:=rfl) (h:=QAA (s:=.slice) (x:=sp) (hv:=rfl) (h:=?_)));iterate 6 (refine xsq ?_)
 iterate 3 (refine xgq ?_)
 refine QAA (s:=.slice) (x:=so) (hv:=rfl) (h:=QAA (s:=.slice) (x:=ss) (hv:=rfl) (h:=QAA (s:=.slice) (x:=sp) (hv:=rfl) (h:=?_)));exact QAM [Ar BL so r.1.on,Ar W16 ss r.1.set,Ar PaE sp r.1.parts] (QAE ⟨rfl,rfl,rfl,rfl,rfl⟩)
def QAY(xs:List UInt8):AskV×Int:=
 if xs.length=0 then (QcT,1) else
 if QMW (xs.getD 0 0).toNat=false then (QcT,20) else
 if QHn xs≠0 then (QcT,QHn xs) else
 if (QBS xs).2=false then (QcT,4) else
 if (QBS xs).1.e≠0 then (QcT,(QBS xs).1.e) else ((QBS xs).1,0)
theorem QF6(xs:List UInt8)(hm:xs.length≤1000000)(b:Sl)(hcap:b.n≤b.c):Ct Pr 105 [b.v] (.tup [some 6,none]) (Qcp (.I)) [] (RAr U8 b xs) (QK3 (QAY xs).1 (QAY xs).2):=by
 refine QAh (ss:=Qcp (.I)) (φ:=fun K=>(QS7 _ K).1) (fun h=>cf _ rfl (by kernel_rfl) h) fun B hr=>?_;show Ent B [] (QS7 b fun x0 x1 x2 x3 x4 x5 x6=>Ret B (ss:=Qcp (.I)) (QK3 (QAY xs).1 (QAY xs).2) (x0,x1,x2,x3,x4,x5,x6,()));haveI:Fro B b U8 xs:=⟨hr⟩;have hn:=hr.1;unfold QS7 mf;dsimp only
 have bad:∀{b1:Nat}{cs:List Value}{R:List HP}{e:Int},cs.length=6→QAY xs=(QcT,e)→Ent B (Blk b1 [.I 0,.I 0,.I 0,.slice none 0 0,.slice none 0 0,.slice none 0 0]::R)
   (QBJ ⟨b1,0,none⟩ (.I 0)<|QBJ ⟨b1,1,none⟩ (.I 0)<|QBJ ⟨b1,2,none⟩ (.I 0)<|QBJ ⟨b1,3,none⟩ (.slice none 0 0)<|QBJ ⟨b1,4,none⟩ (.slice none 0 0)<|QBJ ⟨b1,5,none⟩ (.slice none 0 0)<|QAs (.I) ⟨b1,0,none⟩ fun(v:Int)=>QAs (.I) ⟨b1,1,none⟩ fun(v1:Int)=>QAs (.I) ⟨b1,2,none⟩ fun(v2:Int)=>QAs .slice ⟨b1,3,none⟩ fun v3=>QAs .slice ⟨b1,4,none⟩ fun v4=>QAs .slice ⟨b1,5,none⟩ fun v5=>Ret B (ss:=Qcp (.I)) (QK3 (QAY xs).1 (QAY xs).2) (v,v1,v2,v3,v4,v5,e,())):=by
  intro b1 cs R e _ he;rw[he];iterate 6 (refine xsq ?_)
  iterate 6 (first|refine xgq ?_|refine xgS (h:=?_))
  exact QAd W16 (QAd BL (QAd PaE (QAM [Ar BL nilS [],Ar W16 nilS [],Ar PaE nilS []] (QAE ⟨rfl,rfl,rfl,rfl,rfl⟩))))
 refine QAL fun b1=>xif (fun h=>?_) (fun h=>?_)
 ·exact bad (cs:=[0,0,0,0,0,0].map fun k=>Value.int .i64 k) rfl (by unfold QAY;rw[if_pos];simp at h;omega)
 have h0:xs.length≠0:=by simp at h;omega
 refine QAI (E:=U8) (xs:=xs) (s:=b) (k:=0) (h1:=by omega) (h:=fun _ _=>?_);refine QAO (E:=U8) (xs:=xs) (i:=0) (gdE (d:=0) (by omega)) (h:=?_);have hcl:=(xs.getD 0 0).toNat_lt;rw[QXL ((xs.getD 0 0).toNat:Int) (by omega) (by omega)];refine xcl (QLK ((xs.getD 0 0).toNat:Int)) rdb ?_;rintro⟨r,c,c1,c2,c3,c4,_⟩ _ ⟨hs,rfl⟩
 have hc4:QMW (xs.getD 0 0).toNat=c4:=by unfold QMW;rw[←hs]
 refine QAz (ca6 (QAL fun b2=>?_));iterate 5 (refine xsq ?_)
 refine xif (fun h=>?_) (fun h=>?_)
 ·refine QB1 0 (bad (cs:=[0,0,0,0,0,0].map fun k=>Value.int .i64 k) rfl ?_);unfold QAY;rw[if_neg h0,if_pos];rw[hc4];simpa using h
 have hco:QMW (xs.getD 0 0).toNat=true:=by rw[hc4];simpa using h
 refine xd1 (QTS b xs (by omega) (by rcases QQ0 hco with q|q|q|q|q|q|q|q|q<;>omega) hm) (xif (fun h=>?_) (fun h=>?_))
 ·have hz:QHn xs≠0:=by simpa using h
  exact QB1 0 (bad (cs:=[0,0,0,0,0,0].map fun k=>Value.int .i64 k) rfl (by unfold QAY;rw[if_neg h0,if_neg (by rw[hco];decide),if_pos hz]))
 have hz:QHn xs=0:=by simpa using h
 refine xcl (QSC xs (by omega) hco hz b hcap) rdb ?_;rintro⟨v0,v1,v2,so,ss,sp,ok,_⟩ _ ⟨rfl,rfl,rfl,h3,rfl⟩;simp only at h3;subst h3;refine QQC (ca7 (QAL fun b3=>?_));iterate 6 (refine xsq ?_)
 obtain⟨⟨a,k⟩,hq⟩:∃r,QBS xs=r:=⟨_,rfl⟩;rw[hq]
 (try simp only)
 refine xif (fun h=>?_) (fun h=>?_)
 ·have hk:k=false:=by simpa using h
  refine QAW [Blk b1 [.I 0,.I 0,.I 0,.slice none 0 0,.slice none 0 0,.slice none 0 0]] (bad (cs:=[0,0,0,0,0,0].map fun k=>Value.int .i64 k) rfl ?_);unfold QAY;rw[if_neg h0,if_neg (by rw[hco];decide),if_neg (by rw[hz];decide),hq,if_pos hk]
 have hk:k=true:=by simpa using h
 iterate 3 (refine xgq ?_)
 refine QAA (s:=.slice) (x:=so) (hv:=rfl) (h:=QAA (s:=.slice) (x:=ss) (hv:=rfl) (h:=QAA (s:=.slice) (x:=sp) (hv:=rfl) (h:=?_)));refine QAW [Ar BL so a.on,Ar W16 ss a.set,Ar PaE sp a.parts] (QCn (E:=BL) (xs:=a.on) so fun ho _=>?_);refine QAW [Ar W16 ss a.set] (QCn (E:=W16) (xs:=a.set) ss fun hs _=>?_);refine xd1 (QIz a.code a.addr a.count so ss sp a.parts) ?_;rw[←ho,←hs,show askE a.code a.addr a.count a.on.length a.set.length a.parts=a.e from rfl];refine xif (fun h=>?_) (fun h=>?_)
 ·have he:a.e≠0:=by simpa using h
  refine QAW [Blk b1 [.I 0,.I 0,.I 0,.slice none 0 0,.slice none 0 0,.slice none 0 0]] (bad (cs:=[0,0,0,0,0,0].map fun k=>Value.int .i64 k) rfl ?_);unfold QAY;rw[if_neg h0,if_neg (by rw[hco];decide),if_neg (by rw[hz];decide),hq];simp only;rw[if_neg (by rw[hk];decide),if_pos he]
 have he:a.e=0:=by simpa using h
 have hg:QAY xs=(a,0):=by
  unfold QAY;rw[if_neg h0,if_neg (by rw[hco];decide),if_neg (by rw[hz];decide),hq];simp only;rw[if_neg (by rw[hk];decide),if_neg (by rw[he];decide)]
 rw[hg];iterate 3 (refine xgq ?_)
 refine QAA (s:=.slice) (x:=so) (hv:=rfl) (h:=QAA (s:=.slice) (x:=ss) (hv:=rfl) (h:=QAA (s:=.slice) (x:=sp) (hv:=rfl) (h:=?_)));iterate 6 (refine xsq ?_)
 iterate 3 (refine xgq ?_)
 refine QAA (s:=.slice) (x:=so) (hv:=rfl) (h:=QAA (s:=.slice) (x:=ss) (hv:=rfl) (h:=QAA (s:=.slice) (x:=sp) (hv:=rfl) (h:=?_)));exact QAM [Ar BL so a.on,Ar W16 ss a.set,Ar PaE sp a.parts] (QAE ⟨rfl,rfl,rfl,rfl,rfl⟩)
theorem Qeu:Pr.underlying 34=some (.slice 5)∧Pr.underlying 5=some (.int .u8)∧Pr.underlying 9=some .string:=⟨by kernel_rfl,by kernel_rfl,by kernel_rfl⟩
theorem Qgm{s:Sl}{xs:List UInt8}[r:RdA B As s U8 xs](hx:0<xs.length){K:ByteArray→WP}(h:Ent B As (K (strOfNums (xs.map fun x=>(x.toNat:Int))))):Ent B As (QKu Pr (convert 34 9 s.v) .str K):=by
 intro w hw;obtain⟨u1,u2,u3⟩:=Qeu;have hr:=r.rd w hw;obtain⟨p,n,c⟩:=s;have hn:xs.length=n:=hr.1;refine⟨_,w,?_,h w hw⟩;obtain⟨b,o,hp,_⟩:=hr.cell (List.getElem?_eq_getElem hx) U8.pos;simp only at hp;subst hp;refine run_convert_bytes_arg (P:=Pr) w 34 5 u1 u2 b o n c _ (by simpa using hn) (fun i hi=>?_) 9 u3
 have hi':i<xs.length:=by omega
 obtain⟨b',o',hp,_,hc⟩:=hr.cell (List.getElem?_eq_getElem hi') U8.pos;simp only[Option.some.injEq,Addr.mk.injEq]at hp;obtain⟨rfl,rfl,_⟩:=hp;simp only[show U8.sz=1 from rfl,Nat.mul_one,Nat.add_zero]at hc;rw[hc];simp[U8,List.getD_eq_getElem?_getD,hi']
def eqM(xs ys:List UInt8):Bool:=(strOfNums (xs.map fun x=>(x.toNat:Int))).toList == (strOfNums (ys.map fun x=>(x.toNat:Int))).toList
theorem QWc(a b:Sl)(xs ys:List UInt8)(hx:0<xs.length)(hy:0<ys.length):Ct Pr 428 [a.v,b.v] .one [.bool] [] ((RAr U8 a xs).and (RAr U8 b ys)) (fun t Bs=>t.1=eqM xs ys∧Bs=[]):=by
 refine QGR QOl fun B hr=>?_;haveI fa:Fro B a U8 xs:=⟨hr.1⟩;haveI fb:Fro B b U8 ys:=⟨hr.2⟩;unfold QMN;exact Qgm (s:=a) (xs:=xs) hx (Qgm (s:=b) (xs:=ys) hy (QAE ⟨rfl,rfl⟩))
theorem QVN(l:Sl)(xs:List UInt8)(hm:xs.length≤140737488351232)[fa:Fro B l U8 xs]{K:Sl→WP}(h:∀s,Ent B (Ar U8 s xs::As) (K s)) :
  Ent B As (XIf (QCv l.p) (K ⟨none,0,0⟩) (QDK [] 5 fun b=>QSO Pr 34 34 34 (.slice (some ⟨b,0,none⟩) 0 0) l.v fun s=>K s)):=by
 have ha:=fa.rd.1;refine xif (fun hp=>?_) (fun hp=>?_)
 ·have:xs=[]:=by
   refine List.eq_nil_of_length_eq_zero ?_;rw[ha];rcases Nat.eq_zero_or_pos l.n with h0|h0
   ·exact h0
   ·obtain⟨b,o,_,_,_,_,hq,_⟩:=fa.rd.2.2 h0;rw[hq]at hp;simp[QCv]at hp
  subst this;exact QAd U8 (h _)
 ·refine QAL fun b=>QAf (Q:=Ar U8 ⟨some ⟨b,0,none⟩,0,0⟩ []) 0 (fun g hg=>⟨[],QAm [] 0 rfl rfl hg⟩) ?_;refine QHX (E:=U8) (s:=⟨some ⟨b,0,none⟩,0,0⟩) (xs:=[]) (y:=l) (ys:=xs) (hb:=by simp;omega) (h:=fun s'=>?_);exact h s'
theorem QSR(l:Sl)(xs:List UInt8)(hm:xs.length≤140737488351232):Ct Pr 167 [l.v] .one [.slice] [] (RAr U8 l xs) (fun t Bs=>Bs=[Ar U8 t.1 xs]):=by
 refine sp1 (QLn _) fun B hr=>?_;haveI:Fro B l U8 xs:=⟨hr⟩;unfold QLn mf;dsimp only;show Ent B [] (XIf (QCv l.p) _ _);refine QVN (B:=B) (As:=[]) (K:=fun s=>Ret B (ss:=[.slice]) (fun t Bs=>Bs=[Ar U8 t.1 xs]) (s,())) l xs hm fun s=>?_;exact QAE rfl
theorem QMF(l:Sl)(xs:List UInt8)(hm:xs.length≤140737488351232):Ct Pr 52 [l.v] .one [.slice] [] (RAr U8 l xs) (fun t Bs=>Bs=[Ar U8 t.1 xs]):=by
 refine sp1 (QBL _) fun B hr=>?_;haveI:Fro B l U8 xs:=⟨hr⟩;unfold QBL mf;dsimp only;show Ent B [] (XIf (QCv l.p) _ _);refine QVN (B:=B) (As:=[]) (K:=fun s=>Ret B (ss:=[.slice]) (fun t Bs=>Bs=[Ar U8 t.1 xs]) (s,())) l xs hm fun s=>?_;exact QAE rfl
structure RepV where
 exc:Int
 on:List Bool
 set:List Int
 files:List (List Int)
abbrev QP7:RepV:=⟨0,[],[],[]⟩
abbrev Qdy(exc:Int)(ro rs rf:Sl):Value:=.agg #[.I exc,ro.v,rs.v,rf.v]
def QKy(c:Int)(no ns nf:Nat):Bool:=
 if c=1∨c=2 then decide ((ns:Int)>0)||decide ((nf:Int)>0)
 else if c=3∨c=4 then decide ((no:Int)>0)||decide ((nf:Int)>0)
 else if c=20 then decide ((no:Int)>0)||decide ((ns:Int)>0)
 else (decide ((no:Int)>0)||decide ((ns:Int)>0))||decide ((nf:Int)>0)
theorem QXS{c a b:Int}{K:Bool→WP}(h1:c=a∨c=b→Ent B As (K true))(h2:¬(c=a∨c=b)→Ent B As (K false)):Ent B As (QBW [.bool] (fun(K':Bool→WP)=>XIf (c == a) (K' (c == a)) (K' (c == b))) K):=by
 refine QAJ (xif (fun h=>?_) (fun h=>?_))
 ·rw[h];exact h1 (.inl (eq_of_beq h))
 ·have n1:=ne_of_beq_false h;by_cases hb:c=b
  ·rw[show (c == b)=true from by rw[hb];exact beq_self_eq_true b];exact h1 (.inr hb)
  ·rw[Qdj hb];exact h2 (by omega)
theorem QGg(c exc:Int)(ro rs rf:Sl):Ct Pr 253 [.I c,Qdy exc ro rs rf] .one [.bool] [] emp (fun t Bs=>t.1=QKy c ro.n rs.n rf.n∧Bs=[]):=by
 refine sp1 (QD1 _ _ _ _ _) fun B _=>?_;unfold QD1 mf;dsimp only;refine QAL fun b=>QAP (QAA (s:=.slice) (x:=ro) (hv:=rfl) (h:=QAA (s:=.slice) (x:=rs) (hv:=rfl) (h:=QAA (s:=.slice) (x:=rf) (hv:=rfl) (h:=?_))));unfold QKy;refine QXS (fun h1=>QBk rfl (QAa (l:=[]) (QAE ⟨by rw[if_pos h1],rfl⟩))) fun h1=>QBF rfl ?_;refine QXS (fun h2=>QBk rfl (QAa (l:=[]) (QAE ⟨by rw[if_neg h1,if_pos h2],rfl⟩))) fun h2=>QBF rfl ?_;refine xif (fun h=>QAa (l:=[]) (QAE ⟨by rw[if_neg h1,if_neg h2,if_pos (eq_of_beq h)],rfl⟩)) (fun h=>QAa (l:=[]) (QAE ⟨by rw[if_neg h1,if_neg h2,if_neg (ne_of_beq_false h)],rfl⟩))
def QJ9:List P3→List Nat→Bool
 | [],_=>true
 | _::_,[]=>false
 | p::ps,f::fs=>if (f:Int)≠p.2.2 then false else QJ9 ps fs
def QHP(c count:Int)(ps:List P3)(no ns:Nat)(fl:List Nat):Bool:=
 if c=1∨c=2 then (no:Int) == count
 else if c=3∨c=4 then (ns:Int) == count
 else if fl.length≠ps.length then false else QJ9 ps fl
theorem QGa(code addr count exc:Int)(so ss sp ro rs rf:Sl)(ps:List P3)(hps:ps.length≤1000000)(frs:List Sl):Ct Pr 254 [.agg #[.I code,.I addr,.I count,so.v,ss.v,sp.v],Qdy exc ro rs rf] .one [.bool] [] ((RAr PaE sp ps).and (RAr SL rf frs)) (fun t Bs=>t.1=QHP code count ps ro.n rs.n (frs.map Sl.n)∧Bs=[]):=by
 refine sp1 (QEA _ _ _ _ _ _ _ _ _ _) fun B hr=>?_;haveI:Fro B sp PaE ps:=⟨hr.1⟩;haveI:Fro B rf SL frs:=⟨hr.2⟩;have hp:=hr.1.1;have hf:=hr.2.1;unfold QEA mf QHP;dsimp only;refine QAL fun b=>QAL fun b1=>xgq ?_;refine QXS (fun h1=>QBk rfl (QAA (s:=.slice) (x:=ro) (hv:=rfl) (h:=QAA (h:=QAa (l:=[]) (QAE ⟨by rw[if_pos h1],rfl⟩))))) fun h1=>QBF rfl ?_;rw[if_neg h1];refine QXS (fun h2=>QBk rfl (QAA (s:=.slice) (x:=rs) (hv:=rfl) (h:=QAA (h:=QAa (l:=[]) (QAE ⟨by rw[if_pos h2],rfl⟩))))) fun h2=>QBF rfl ?_;rw[if_neg h2];refine QAA (s:=.slice) (x:=rf) (hv:=rfl) (h:=QAA (s:=.slice) (x:=sp) (hv:=rfl) (h:=xif (fun h=>?_) (fun h=>?_)))
 ·refine QAa (l:=[]) (QAE ⟨?_,rfl⟩)
  have:¬((rf.n:Int)=sp.n):=by simpa using h
  rw[if_pos (by simp;omega)]
 have hfp:frs.length=ps.length:=by have:=eq_of_beq (show ((rf.n:Int) == (sp.n:Int))=true by simpa using h);omega
 rw[if_neg (by simp;omega)];refine QAA (s:=.slice) (x:=sp) (hv:=rfl) (h:=?_);refine QBV (fun n (x:Int) As'=>∃k:Nat,x=(k:Int)∧n=ps.length - k∧k≤ps.length∧QJ9 ps (frs.map Sl.n)=QJ9 (ps.drop k) ((frs.map Sl.n).drop k)∧As'=[Blk b1 [.I exc,ro.v,rs.v,rf.v],Blk b [.I code,.I addr,.I count,so.v,ss.v,sp.v]]) ps.length ⟨0,rfl,rfl,by omega,rfl,rfl⟩ ?_;rintro n x As' K ⟨k,rfl,rfl,hk,hg,rfl⟩ hK;refine QAB (fun hlt=>?_) (fun hlt=>?_)
 ·have hkl:k<ps.length:=by omega
  obtain⟨⟨a,f,c⟩,hy⟩:∃y,ps[k]? = some y:=⟨_,List.getElem?_eq_getElem hkl⟩;obtain⟨sf,hsf⟩:∃y,frs[k]? = some y:=⟨_,List.getElem?_eq_getElem (by omega)⟩
  have hdrop:ps.drop k=(a,f,c)::ps.drop (k+1):=by rw[List.drop_eq_getElem_cons hkl];congr 1;exact (List.getElem?_eq_some_iff.1 hy).2
  have hdrop2:(frs.map Sl.n).drop k=sf.n::(frs.map Sl.n).drop (k+1):=by
   rw[List.drop_eq_getElem_cons (by simp;omega)];congr 1;rw[List.getElem_map];congr 1;exact (List.getElem?_eq_some_iff.1 hsf).2
  rw[hdrop,hdrop2,QJ9]at hg;refine QAI (E:=PaE) (xs:=ps) (s:=sp) (h1:=hkl) (h:=fun _ _=>?_);refine QAO (E:=PaE) (xs:=ps) hy (h:=?_);refine QAb (E:=PaE) (xs:=ps) hy (h:=?_);refine QAb (E:=PaE) (xs:=ps) hy (h:=?_)
  (try dsimp only)
  refine QAL fun b2=>xsq (xsq (xsq (QAP (QAA (s:=.slice) (x:=rf) (hv:=rfl) (h:=?_)))));refine QAI (E:=SL) (xs:=frs) (s:=rf) (h1:=by omega) (h:=fun _ _=>?_);refine QAO (E:=SL) (xs:=frs) hsf (h:=xgq (xif (fun h=>?_) (fun h=>?_)))
  ·refine QAa (l:=[]) (QAE ⟨?_,rfl⟩);rw[hg,if_pos];simpa using h
  ·rw[if_neg (by simpa using h)]at hg;rw[QAF k (by omega)];exact QB1 0 (hK (ps.length - (k+1)) _ _ (by omega) ⟨k+1,rfl,rfl,by omega,hg,rfl⟩)
 ·refine QAa (l:=[]) (QAE ⟨?_,rfl⟩);rw[hg,List.drop_of_length_le (by omega)];rfl
def QdZ(a:AskV)(exc:Int)(no ns:Nat)(fl:List Nat):Int:=
 if a.e≠0 then a.e else
 if exc≠0 then (if exc<1∨exc≥128 then 3 else if (no:Int)>0∨(ns:Int)>0∨(fl.length:Int)>0 then 23 else 0) else
 if QKy a.code no ns fl.length=true then 23 else if QHP a.code a.count a.parts no ns fl=true then 0 else 22
def RepV.e(a:AskV)(r:RepV):Int:=QdZ a r.exc r.on.length r.set.length (r.files.map List.length)
theorem QPa(a:AskV)(so ss sp:Sl)(ho:so.n=a.on.length)(hs:ss.n=a.set.length)(exc:Int)(ro rs rf:Sl)(frs:List Sl):Ct Pr 164 [Qdg a so ss sp,Qdy exc ro rs rf] .one [.I] [] ((RAr PaE sp a.parts).and (RAr SL rf frs)) (fun t Bs=>t.1=QdZ a exc ro.n rs.n (frs.map Sl.n)∧Bs=[]):=by
 refine sp1 (QFh _ _ _ _ _ _ _ _ _ _) fun B hr=>?_;haveI:Fro B sp PaE a.parts:=⟨hr.1⟩;haveI:Fro B rf SL frs:=⟨hr.2⟩;have hf:=hr.2.1;unfold QFh mf;dsimp only;refine QAL fun b=>QAL fun b1=>?_;iterate 3 (refine xgq ?_)
 refine QAA (s:=.slice) (x:=so) (hv:=rfl) (h:=QAA (s:=.slice) (x:=ss) (hv:=rfl) (h:=QAA (s:=.slice) (x:=sp) (hv:=rfl) (h:=?_)));refine xd1 (QIz a.code a.addr a.count so ss sp a.parts) ?_;rw[ho,hs,show askE a.code a.addr a.count a.on.length a.set.length a.parts=a.e from rfl];unfold QdZ;refine xif (fun h=>QAa (l:=[]) (QAE ⟨?_,rfl⟩)) (fun h=>?_)
 ·rw[if_pos (by simpa using h)]
 have h0:a.e=0:=by simpa using h
 rw[if_neg (by rw[h0];decide)];refine xgq (xif (fun h=>?_) (fun h=>?_))
 ·rw[if_pos (by simpa using h)];refine xgq ?_;refine QAU (fun(x:Bool) As'=>x=decide (exc<1∨exc≥128)∧As'=[Blk b1 [.I exc,ro.v,rs.v,rf.v]]) (fun K hK=>QAB (fun h=>QB1 1 (hK _ _ ⟨by simp[h],rfl⟩)) (fun h=>QAA (h:=QB1 1 (hK _ _ ⟨by simp[h],rfl⟩)))) ?_;rintro _ _ ⟨rfl,rfl⟩;refine QAB (fun h=>QAa (l:=[]) (QAE ⟨by rw[if_pos h],rfl⟩)) (fun h=>?_);rw[if_neg h];refine QAA (s:=.slice) (x:=ro) (hv:=rfl) (h:=?_)
  have hl:(frs.map Sl.n).length=rf.n:=by simp;omega
  rw[hl];refine QAU (fun(x:Bool) As'=>(x=true↔((ro.n:Int)>0∨(rs.n:Int)>0))∧As'=[Blk b1 [.I exc,ro.v,rs.v,rf.v]]) (fun K hK=>QAB (fun h=>hK _ _ ⟨⟨fun _=>.inl h,fun _=>rfl⟩,rfl⟩) (fun h=>QAA (s:=.slice) (x:=rs) (hv:=rfl) (h:=hK _ _ ⟨by rw[decide_eq_true_iff];exact⟨.inr,fun q=>q.resolve_left h⟩,rfl⟩))) ?_;rintro x _ ⟨hx,rfl⟩
  refine QAU (fun(y:Bool) As'=>(y=true↔((ro.n:Int)>0∨(rs.n:Int)>0∨(rf.n:Int)>0))∧As'=[Blk b1 [.I exc,ro.v,rs.v,rf.v]]) (fun K hK=>xif (fun h=>hK _ _ ⟨⟨fun _=>by have:=hx.1 h;omega,fun _=>rfl⟩,rfl⟩) (fun h=>QAA (s:=.slice) (x:=rf) (hv:=rfl) (h:=hK _ _ ⟨by rw[decide_eq_true_iff];exact⟨fun q=>by omega,fun q=>by
   have:¬((ro.n:Int)>0∨(rs.n:Int)>0):=fun q=>by rw[hx.2 q]at h;cases h
   omega⟩,rfl⟩))) ?_
  rintro y _ ⟨hy,rfl⟩;exact xif (fun h=>QAa (l:=[]) (QAE ⟨by rw[if_pos (hy.1 h)],rfl⟩)) (fun h=>QAa (l:=[]) (QAE ⟨by rw[if_neg fun q=>by rw[hy.2 q]at h;cases h],rfl⟩))
 have hx:exc=0:=by simpa using h
 rw[if_neg (by rw[hx];decide)];refine xgq (xgq (QAA (s:=.slice) (x:=ro) (hv:=rfl) (h:=QAA (s:=.slice) (x:=rs) (hv:=rfl) (h:=QAA (s:=.slice) (x:=rf) (hv:=rfl) (h:=?_)))));refine xd1 (QGg a.code exc ro rs rf) ?_;rw[show (frs.map Sl.n).length=rf.n by simp;omega];refine xif (fun h=>QAa (l:=[]) (QAE ⟨by rw[if_pos h],rfl⟩)) (fun h=>?_);rw[if_neg (by rw[h];decide)];iterate 3 (refine xgq ?_)
 refine QAA (s:=.slice) (x:=so) (hv:=rfl) (h:=QAA (s:=.slice) (x:=ss) (hv:=rfl) (h:=QAA (s:=.slice) (x:=sp) (hv:=rfl) (h:=?_)));refine xgq (QAA (s:=.slice) (x:=ro) (hv:=rfl) (h:=QAA (s:=.slice) (x:=rs) (hv:=rfl) (h:=QAA (s:=.slice) (x:=rf) (hv:=rfl) (h:=?_))));refine xd1 (QGa a.code a.addr a.count exc so ss sp ro rs rf a.parts (by rcases (QB0 h0).2 with⟨_,_,_,_,q⟩|⟨_,_,_,_,q⟩|⟨_,_,_,_,q⟩|⟨_,_,_,_,q⟩|⟨_,_,_,_,q⟩|⟨_,_,_,_,q⟩|⟨_,_,_,_,q,_⟩<;>first|(rw[q];decide)|omega) frs) ?_;refine xif (fun h=>QAa (l:=[]) (QAE ⟨?_,rfl⟩)) (fun h=>QAa (l:=[]) (QAE ⟨?_,rfl⟩))
 ·rw[if_neg];simpa using h
 ·rw[if_pos];simpa using h
theorem QZA{α:Type}{E:Enc α}{s:Sl}{xs:List α}{l r m:Nat}(h:Rds B F (RAr E s xs))(h1:l≤r)(h2:r≤m)(h3:r≤xs.length):Rds B F (RAr E (s.cut l r m E.sz) ((xs.take r).drop l)):=
 fun w a b c d e f g=>(h w a b c d e f g).cut l r m h1 h2 h3
def QaB(ws:List Int):List UInt8:=UInt8.ofNat (1+2*ws.length)::6::ws.flatMap QCo
def QTg(a:AskV)(r:RepV):Option (List UInt8):=
 if a.code=1∨a.code=2 then some (QD4 r.on)
 else if a.code=3∨a.code=4 then some (r.set.flatMap QCo)
 else if a.code=20 then some (r.files.flatMap QaB)
 else none
def Qfb(a:AskV)(r:RepV):List UInt8:=
 if r.exc≠0 then [UInt8.ofNat (a.code+128).toNat,UInt8.ofNat r.exc.toNat]
 else match QTg a r with
 | some l=>UInt8.ofNat a.code.toNat::UInt8.ofNat l.length::l
 | none=>(QGO a).take 5
def QIB(a:AskV)(r:RepV):List UInt8:=if r.e a=0 then Qfb a r else []
theorem QVT(ws:List Int):(QaB ws).length=2+2*ws.length:=by
 show (ws.flatMap QCo).length+2=_;rw[QEX];omega
theorem QXs{a:AskV}{exc:Int}{no ns:Nat}{fl:List Nat}(h:QdZ a exc no ns fl=0):a.e=0∧(exc≠0→1≤exc∧exc≤127)∧(exc=0→QKy a.code no ns fl.length=false∧QHP a.code a.count a.parts no ns fl=true):=by
 unfold QdZ at h;by_cases h0:a.e=0
 ·rw[if_neg (by rw[h0];decide)]at h;refine⟨h0,fun he=>?_,fun he=>?_⟩
  ·rw[if_pos he]at h;obtain⟨n1,_⟩:=QGU (by decide) h;omega
  ·rw[if_neg (by rw[he];decide)]at h;obtain⟨n1,h⟩:=QGU (by decide) h;refine⟨by simpa using n1,?_⟩;by_cases hc:QHP a.code a.count a.parts no ns fl=true
   ·exact hc
   ·rw[if_neg hc]at h;cases h
 ·rw[if_pos h0]at h;exact absurd h h0
theorem QcN{a:AskV}(h:a.e=0)(hc:5≤a.code)(hc2:a.code≠20):5≤(QGO a).length∧(QGO a).length≤300:=by
 have hk:=(QB0 h).2;have h4:∀x y:Int,(QCo x++QCo y).length=4:=fun _ _=>rfl;unfold QGO QSM;rcases hk with⟨q,_⟩|⟨q,_⟩|⟨q,_⟩|⟨q,_⟩|⟨q,_,hl,_⟩|⟨q,_,_,hl,_⟩|⟨q,_⟩
 ·omega
 ·omega
 ·rw[if_pos q,List.length_cons,h4];omega
 ·rw[if_neg (by omega),if_pos q,List.length_cons,h4];omega
 ·have hb:=QEl a.on;have:QGd a.on.length=(a.on.length+7) / 8:=rfl;rw[if_neg (by omega),if_neg (by omega),if_pos q];rw[List.length_cons,List.length_append,List.length_append,h4,List.length_singleton];omega
 ·rw[if_neg (by omega),if_neg (by omega),if_neg (by omega),if_pos q];rw[List.length_cons,List.length_append,List.length_append,h4,List.length_singleton,QEX];omega
 ·omega
theorem QOV:∀(ps:List P3) (fs:List Nat) (room:Int),QWo room ps=0→QJ9 ps fs=true→fs.length=ps.length→(((fs.map fun n=>2+2*n).sum:Nat):Int)≤room
 | [],[],room,h,_,_=>by
  rw[QWo]at h;obtain⟨n1,_⟩:=QGU (by decide) h;simp;omega
 | [],f::fs,room,_,_,hl=>by simp at hl
 | p::ps,[],room,_,hc,_=>by rw[QJ9]at hc;cases hc
 | p::ps,f::fs,room,h,hc,hl=>by
  rw[QWo]at h;obtain⟨n1,h⟩:=QGU (by decide) h;rw[QJ9]at hc;by_cases hf:(f:Int)=p.2.2
  ·rw[if_neg (by simpa using hf)]at hc;have:=QOV ps fs _ h hc (by simpa using hl);rw[List.map_cons,List.sum_cons]
   push_cast
   omega
  ·rw[if_pos hf]at hc;cases hc
theorem QbV(ws:List (List Int)):(ws.flatMap QaB).length=((ws.map List.length).map fun n=>2+2*n).sum:=by
 induction ws with
 | nil=>rfl
 | cons w ws ih=>rw[List.flatMap_cons,List.length_append,ih,QVT];rfl
abbrev QhF(r:RepV)(ro rs rf:Sl)(frs:List Sl):HP:=(RAr BL ro r.on).and ((RAr W16 rs r.set).and (Qf3 rf frs r.files))
def QhH(r:RepV):Prop:=QMw r.set∧∀ws∈r.files,QMw ws
theorem QTm(a:AskV)(hw:QMw a.set)(so ss sp:Sl)(r:RepV)(hwr:QhH r)(ro rs rf:Sl)(frs:List Sl):Ct Pr 106 [Qdg a so ss sp,Qdy r.exc ro rs rf] (.tup [none,none]) [.slice,.I] [] ((askR a so ss sp).and (QhF r ro rs rf frs)) (fun t Bs=>t.2.1=r.e a∧Bs=[Ar U8 t.1 (QIB a r)]):=by
 refine sp2 (QSA _ _ _ _ _ _ _ _ _ _) fun B hg=>?_;obtain⟨⟨ha1,ha2,ha3⟩,hr1,hr2,hr3,hfl,hrow⟩:=hg;haveI:Fro B so BL a.on:=⟨ha1⟩;haveI:Fro B ss W16 a.set:=⟨ha2⟩;haveI:Fro B sp PaE a.parts:=⟨ha3⟩;haveI:Fro B ro BL r.on:=⟨hr1⟩;haveI:Fro B rs W16 r.set:=⟨hr2⟩;haveI:Fro B rf SL frs:=⟨hr3⟩;have ho:a.on.length=so.n:=ha1.1;have hs:a.set.length=ss.n:=ha2.1;have hro:r.on.length=ro.n:=hr1.1;have hrs:r.set.length=rs.n:=hr2.1;have hrf:frs.length=rf.n:=hr3.1
 have hmap:frs.map Sl.n=r.files.map List.length:=by
  apply List.ext_getElem
  ·simpa using hfl
  ·intro i h1 h2;simp only[List.length_map]at h1 h2;rw[List.getElem_map,List.getElem_map];exact (hrow i frs[i] r.files[i] (List.getElem?_eq_getElem h1) (List.getElem?_eq_getElem h2)).1.symm
 unfold QSA mf;dsimp only;refine QAL fun b=>QAL fun b1=>?_;iterate 3 (refine xgq ?_)
 refine QAA (s:=.slice) (x:=so) (hv:=rfl) (h:=QAA (s:=.slice) (x:=ss) (hv:=rfl) (h:=QAA (s:=.slice) (x:=sp) (hv:=rfl) (h:=?_)));refine xgq (QAA (s:=.slice) (x:=ro) (hv:=rfl) (h:=QAA (s:=.slice) (x:=rs) (hv:=rfl) (h:=QAA (s:=.slice) (x:=rf) (hv:=rfl) (h:=?_))));refine xd1 (QPa a so ss sp ho.symm hs.symm r.exc ro rs rf frs) ?_
 have hE:QdZ a r.exc ro.n rs.n (frs.map Sl.n)=r.e a:=by rw[hmap,←hro,←hrs];rfl
 rw[hE];refine xif (fun h=>?_) (fun h=>?_)
 ·have h0:r.e a≠0:=by simpa using h
  refine QB1 0 (QB1 0 (QAd U8 (QAE ⟨rfl,?_⟩)));rw[show QIB a r=[] from if_neg h0]
 have h0:r.e a=0:=by simpa using h
 obtain⟨he,hx1,hx0⟩:=QXs (show QdZ a r.exc r.on.length r.set.length (r.files.map List.length)=0 from h0);obtain⟨⟨hd0,hd1⟩,hk⟩:=QB0 he;rw[show QIB a r=Qfb a r from if_pos h0]
 have hcode:1≤a.code∧a.code≤20:=by
  rcases hk with⟨q|q,_⟩|⟨q|q,_⟩|⟨q,_⟩|⟨q,_⟩|⟨q,_⟩|⟨q,_⟩|⟨q,_⟩<;>omega
 have u8i:∀x:Int,0≤x→IntKind.u8.wrap x=((UInt8.ofNat x.toNat).toNat:Int):=fun x hx=>by rw[←QAr x.toNat];congr 1;omega
 unfold Qfb;refine xgq (xif (fun hx=>?_) (fun hx=>?_))
 ·have hx:r.exc≠0:=by simpa using hx
  have:=hx1 hx;rw[if_pos hx];refine xgq (xgq (QAL fun b2=>?_));rw[QAD (a.code+128) (by omega) (by omega),u8i _ (by omega),u8i _ (by omega)];refine QAf (Q:=Ar U8 ⟨some ⟨b2,0,none⟩,2,2⟩ [UInt8.ofNat (a.code+128).toNat,UInt8.ofNat r.exc.toNat]) 0 (fun g hg=>⟨[],QAm [UInt8.ofNat (a.code+128).toNat,UInt8.ofNat r.exc.toNat] 2 rfl rfl hg⟩) ?_;exact QAM [Ar U8 ⟨some ⟨b2,0,none⟩,2,2⟩ [UInt8.ofNat (a.code+128).toNat,UInt8.ofNat r.exc.toNat]] (QAE ⟨h0.symm,rfl⟩)
 have hx:r.exc=0:=by simpa using hx
 obtain⟨hfo,hco⟩:=hx0 hx;rw[if_neg (by rw[hx];decide)];refine xgq ?_
 have fin:∀{R:List HP}{s:Sl}{l:List UInt8},QTg a r=some l→l.length≤255→Ent B (Ar U8 s l::Blk b1 [.I r.exc,ro.v,rs.v,rf.v]::Blk b [.I a.code,.I a.addr,.I a.count,so.v,ss.v,sp.v]::R)
   (QAs (.I) ⟨b,0,none⟩ fun(n11:Int)=>QDK [.int .u8 (IntKind.u8.wrap n11),.int .u8 (IntKind.u8.wrap (s.n:Int))] 5 fun b4=>QSO Pr 34 34 34 (.slice (some ⟨b4,0,none⟩) 2 2) s.v fun s21=>
    Ret B (ss:=[.slice,.I]) (fun t Bs=>t.2.1=r.e a∧Bs=[Ar U8 t.1 (match QTg a r with|some l=>UInt8.ofNat a.code.toNat::UInt8.ofNat l.length::l|none=>(QGO a).take 5)]) (s21,0,())):=by
  intro R s l hl hle;rw[hl];refine QCn (E:=U8) (xs:=l) s fun hsn _=>?_;refine xgq (QAL fun b4=>?_);rw[u8i a.code (by omega),←hsn,QAr];refine QAf (Q:=Ar U8 ⟨some ⟨b4,0,none⟩,2,2⟩ [UInt8.ofNat a.code.toNat,UInt8.ofNat l.length]) 0 (fun g hg=>⟨[],QAm [UInt8.ofNat a.code.toNat,UInt8.ofNat l.length] 2 rfl rfl hg⟩) ?_;refine QHX (E:=U8) (s:=⟨some ⟨b4,0,none⟩,2,2⟩) (y:=s) (ys:=l) (hb:=by simp;omega) (h:=fun s1=>?_);exact QAM [Ar U8 s1 ([UInt8.ofNat a.code.toNat,UInt8.ofNat l.length]++l)] (QAE ⟨h0.symm,rfl⟩)
 have hcb:=hco;unfold QHP at hcb;refine QXS (fun h1=>?_) fun h1=>?_
 ·rw[if_pos h1]at hcb;have hcn:(r.on.length:Int)=a.count:=eq_of_beq hcb
  have hbound:a.count≤2000:=by rcases hk with⟨q,hh,_⟩|⟨q,_⟩|⟨q,_⟩|⟨q,_⟩|⟨q,_⟩|⟨q,_⟩|⟨q,_⟩<;>omega
  have hb:=QEl r.on;have hN:QGd r.on.length=(r.on.length+7) / 8:=rfl;refine QAJ (QBk rfl (QAA (s:=.slice) (x:=ro) (hv:=rfl) (h:=?_)));refine xn1 (L:=fun s=>[Ar U8 s (QD4 r.on)]) (QJG ro r.on (by omega)) (fun t Bs hB=>hB) fun p=>?_;exact fin (if_pos h1) (by omega)
 rw[if_neg h1]at hcb;refine QAJ (QBF rfl (QXS (fun h2=>?_) fun h2=>?_))
 ·rw[if_pos h2]at hcb;have hcn:(r.set.length:Int)=a.count:=eq_of_beq hcb
  have hbound:a.count≤125:=by rcases hk with⟨q,_⟩|⟨q,hh,_⟩|⟨q,_⟩|⟨q,_⟩|⟨q,_⟩|⟨q,_⟩|⟨q,_⟩<;>omega
  refine QAJ (QBk rfl (QAA (s:=.slice) (x:=rs) (hv:=rfl) (h:=?_)));refine xn1 (L:=fun s=>[Ar U8 s (r.set.flatMap QCo)]) (QE7 rs r.set hwr.1 (by omega)) (fun t Bs hB=>hB) fun p=>?_;exact fin (by unfold QTg;rw[if_neg h1,if_pos h2]) (by rw[QEX];omega)
 rw[if_neg h2]at hcb;refine QAJ (QBF rfl (xif (fun h3=>?_) (fun h3=>?_)))
 ·have h3:a.code=20:=eq_of_beq h3
  have hch:QWo 245 a.parts=0:=by rcases hk with⟨q,_⟩|⟨q,_⟩|⟨q,_⟩|⟨q,_⟩|⟨q,_⟩|⟨q,_⟩|⟨q,_,_,_,_,hh⟩<;>first|omega|exact hh
  have hfp:(r.files.map List.length).length=a.parts.length:=by
   by_cases q:(r.files.map List.length).length=a.parts.length
   ·exact q
   ·rw[if_pos q]at hcb;cases hcb
  rw[if_neg (by simpa using hfp)]at hcb;have hsum:=QOV a.parts (r.files.map List.length) 245 hch hcb hfp;rw[←QbV]at hsum
  have hpar:a.parts.length≤35:=by rcases hk with⟨q,_⟩|⟨q,_⟩|⟨q,_⟩|⟨q,_⟩|⟨q,_⟩|⟨q,_⟩|⟨q,_,_,_,hh,_⟩<;>omega
  have hlf:r.files.length=a.parts.length:=by simpa using hfp
  refine QAA (s:=.slice) (x:=rf) (hv:=rfl) (h:=QAd U8 ?_);refine QBb (fun n (s:Sl) (x:Int) As'=>∃k:Nat,x=(k:Int)∧n=frs.length - k∧k≤frs.length∧As'=[Ar U8 s ((r.files.take k).flatMap QaB),Blk b1 [.I r.exc,ro.v,rs.v,rf.v],Blk b [.I a.code,.I a.addr,.I a.count,so.v,ss.v,sp.v]]) frs.length ⟨0,rfl,rfl,by omega,rfl⟩ ?_;rintro n s x As' K ⟨k,rfl,rfl,hk,rfl⟩ hK;refine QAB (fun hlt=>?_) (fun hlt=>?_)
  ·have hkl:k<frs.length:=by omega
   have hrl:=hfl;obtain⟨y,hy⟩:∃y,r.files[k]? = some y:=⟨_,List.getElem?_eq_getElem (by omega)⟩;have hmem:y∈r.files:=List.mem_of_getElem? hy
   have etake:(r.files.take (k+1)).flatMap QaB=(r.files.take k).flatMap QaB++QaB y:=by rw[List.take_add_one,hy,List.flatMap_append];simp
   have hle:((r.files.take (k+1)).flatMap QaB).length≤(r.files.flatMap QaB).length:=by
    conv=>rhs;rw[←List.take_append_drop (k+1) r.files,List.flatMap_append,List.length_append]
    omega
   rw[etake,List.length_append,QVT]at hle;refine QAI (E:=SL) (xs:=frs) (s:=rf) (h1:=hkl) (h:=fun q hq=>?_);haveI:Fro B q W16 y:=⟨hrow k q y hq hy⟩;have hqn:y.length=q.n:=(hrow k q y hq hy).1;refine QAO (E:=SL) (xs:=frs) hq (h:=QAL fun b3=>?_);rw[QAD (2*(q.n:Int)) (by omega) (by omega),QAD (1+2*(q.n:Int)) (by omega) (by omega)];rw[show 1+2*(q.n:Int)=((1+2*y.length:Nat):Int) by omega,QAr];refine QAf (Q:=Ar U8 ⟨some ⟨b3,0,none⟩,2,2⟩ [UInt8.ofNat (1+2*y.length),6]) 0 (fun g hg=>⟨[],QAm [UInt8.ofNat (1+2*y.length),6] 2 rfl rfl hg⟩) ?_;refine QHX (E:=U8) (s:=s) (y:=⟨some ⟨b3,0,none⟩,2,2⟩) (hb:=by simp only[List.length_cons,List.length_nil];omega) (h:=fun s1=>?_);refine xn1 (L:=fun s=>[Ar U8 s (y.flatMap QCo)]) (QE7 q y (hwr.2 y hmem) (by omega)) (fun t Bs hB=>hB) fun p=>?_;refine QHX (E:=U8) (s:=s1) (y:=p) (ys:=y.flatMap QCo) (hb:=by rw[List.length_append,QEX];simp only[List.length_cons,List.length_nil];omega) (h:=fun s2=>?_);rw[QAF k (by omega)];refine QAM [Ar U8 s2 ((r.files.take k).flatMap QaB++[UInt8.ofNat (1+2*y.length),6]++y.flatMap QCo),Blk b1 [.I r.exc,ro.v,rs.v,rf.v],Blk b [.I a.code,.I a.addr,.I a.count,so.v,ss.v,sp.v]] (hK (frs.length - (k+1)) _ _ _ (by omega) ⟨k+1,rfl,rfl,by omega,?_⟩);rw[etake,List.append_assoc];rfl
  ·rw[List.take_of_length_le (by omega)];exact fin (by unfold QTg;rw[if_neg h1,if_neg h2,if_pos h3]) (by omega)
 have h3:a.code≠20:=ne_of_beq_false h3
 have hnone:QTg a r=none:=by unfold QTg;rw[if_neg h1,if_neg h2,if_neg h3]
 rw[hnone];obtain⟨h5,h6⟩:=QcN he (by omega) h3;iterate 3 (refine xgq ?_)
 refine QAA (s:=.slice) (x:=so) (hv:=rfl) (h:=QAA (s:=.slice) (x:=ss) (hv:=rfl) (h:=QAA (s:=.slice) (x:=sp) (hv:=rfl) (h:=?_)));refine xn2 (L:=fun s=>[Ar U8 s (QDe a)]) (QFy a hw so ss sp) (fun x y Bs hB=>hB) fun s=>?_;rw[show QDe a=QGO a from if_pos he];refine QCn (E:=U8) (xs:=QGO a) s fun hsn hc=>?_;refine QEf (by omega) (by omega) (by omega) (by omega) ?_;have e5:((QGO a).take 5).drop 0=(QGO a).take 5:=rfl;refine xcl (QSR (s.cut 0 5 s.c 1) ((QGO a).take 5) (by simp;omega)) (QZA (E:=U8) (xs:=QGO a) (l:=0) (r:=5) rdb (by omega) (by omega) (by omega)) ?_;rintro⟨s2,_⟩ _ rfl;refine QA8 (ca1 ?_);exact QAM [Ar U8 s2 ((QGO a).take 5)] (QAE ⟨h0.symm,rfl⟩)
def QaD(a:AskV):Int:=if a.code=1∨a.code=2 then 2+(a.count+7) / 8 else if a.code=3∨a.code=4 then 2+2*a.count else 5
theorem QLq(a:AskV)(h:a.e=0)(h20:a.code≠20)(so ss sp:Sl):Ct Pr 336 [Qdg a so ss sp] .one [.I] [] emp (fun t Bs=>t.1=QaD a∧Bs=[]):=by
 refine sp1 (QJy _ _ _ _ _ _) fun B _=>?_;obtain⟨_,hk⟩:=QB0 h;unfold QJy mf QaD;dsimp only;refine QAL fun b=>xgq ?_;refine QXS (fun h1=>QBk rfl (QAA (h:=QA6 (by decide) (QAa (l:=[]) (QAE ⟨?_,rfl⟩))))) fun h1=>QBF rfl ?_
 ·have hb:1≤a.count∧a.count≤2000:=by rcases hk with⟨q,hh,_⟩|⟨q,_⟩|⟨q,_⟩|⟨q,_⟩|⟨q,_⟩|⟨q,_⟩|⟨q,_⟩<;>omega
  rw[if_pos h1,QAD (a.count+7) (by omega) (by omega),Int.tdiv_eq_ediv_of_nonneg (by omega),QAD ((a.count+7) / 8) (by omega) (by omega),QAD _ (by omega) (by omega)]
 rw[if_neg h1];refine QXS (fun h2=>QBk rfl (xgq (QAa (l:=[]) (QAE ⟨?_,rfl⟩)))) fun h2=>QBF rfl (QBF (Qdj h20) (QAa (l:=[]) (QAE ⟨by rw[if_neg h2],rfl⟩)))
 have hb:1≤a.count∧a.count≤125:=by rcases hk with⟨q,_⟩|⟨q,hh,_⟩|⟨q,_⟩|⟨q,_⟩|⟨q,_⟩|⟨q,_⟩|⟨q,_⟩<;>omega
 rw[if_pos h2,QAD (2*a.count) (by omega) (by omega),QAD _ (by omega) (by omega)]
theorem QZM(a:AskV)(h:a.e=0):2≤QaD a∧QaD a≤500:=by
 obtain⟨_,hk⟩:=QB0 h;unfold QaD;rcases hk with⟨q,hh,_⟩|⟨q,hh,_⟩|⟨q,_⟩|⟨q,_⟩|⟨q,_⟩|⟨q,_⟩|⟨q,_⟩
 ·rw[if_pos q];omega
 ·rw[if_neg (by omega),if_pos q];omega
 all_goals rw[if_neg (by omega),if_neg (by omega)];omega
abbrev QSx(s:Sh):List Sh:=[.I,.slice,.slice,.slice,s]
def QFj{s:Sh}(r:RepV)(e:s.ty)(t:Tup (QSx s))(Bs:List HP):Prop:=
 t.1=r.exc∧t.2.2.2.1=nilS∧r.files=[]∧t.2.2.2.2.1=e∧Bs=[Ar BL t.2.1 r.on,Ar W16 t.2.2.1 r.set]
def QQe(xs:List UInt8):RepV×Int:=
 if xs.length<2 then (QP7,1) else if xs.length>2 then (QP7,2)
 else if (xs.getD 1 0).toNat=0∨(xs.getD 1 0).toNat≥128 then (QP7,3) else (⟨(xs.getD 1 0).toNat,[],[],[]⟩,0)
theorem QTx{b:Nat}{R:List HP}{e:Int}{v:Int}{post:Tup (QSx (.I))→List HP→Prop}{cs:List Value}(hp:post (v,nilS,nilS,nilS,e,()) [Ar BL nilS [],Ar W16 nilS []])(hc:cs=[.I 0,.slice none 0 0,.slice none 0 0,.slice none 0 0]) :
  Ent B (Blk b cs::R) (QBJ ⟨b,0,none⟩ (.I v)<|QBJ ⟨b,1,none⟩ (.slice none 0 0)<|QBJ ⟨b,2,none⟩ (.slice none 0 0)<|QBJ ⟨b,3,none⟩ (.slice none 0 0)<|QAs (.I) ⟨b,0,none⟩ fun(v4:Int)=>QAs .slice ⟨b,1,none⟩ fun v5=>QAs .slice ⟨b,2,none⟩ fun v6=>QAs .slice ⟨b,3,none⟩ fun v7=>Ret B (ss:=QSx (.I)) post (v4,v5,v6,v7,e,())):=by
 subst hc;iterate 4 (refine xsq ?_)
 refine xgq (xgS (h:=xgS (h:=xgS (h:=?_))));exact QAd W16 (QAd BL (QAM [Ar BL nilS [],Ar W16 nilS []] (QAE hp)))
theorem QNG(b:Sl)(xs:List UInt8):Ct Pr 335 [b.v] (.tup [some 4,none]) (QSx (.I)) [] (RAr U8 b xs) (QFj (QQe xs).1 (QQe xs).2):=by
 refine QAh (ss:=QSx (.I)) (φ:=fun K=>(QEE _ K).1) (fun h=>cf _ rfl (by kernel_rfl) h) fun B hg=>?_;show Ent B [] (QEE b fun x0 x1 x2 x3 x4=>Ret B (ss:=QSx (.I)) (QFj (QQe xs).1 (QQe xs).2) (x0,x1,x2,x3,x4,()));haveI:Fro B b U8 xs:=⟨hg⟩;have hn:=hg.1;unfold QEE mf;dsimp only
 have bad:∀{b1:Nat}{R:List HP}{e:Int},QQe xs=(QP7,e)→Ent B (Blk b1 [.I 0,.slice none 0 0,.slice none 0 0,.slice none 0 0]::R) (QBJ ⟨b1,0,none⟩ (.I 0)<|QBJ ⟨b1,1,none⟩ (.slice none 0 0)<|QBJ ⟨b1,2,none⟩ (.slice none 0 0)<|QBJ ⟨b1,3,none⟩ (.slice none 0 0)<|QAs (.I) ⟨b1,0,none⟩ fun(v4:Int)=>QAs .slice ⟨b1,1,none⟩ fun v5=>QAs .slice ⟨b1,2,none⟩ fun v6=>QAs .slice ⟨b1,3,none⟩ fun v7=>Ret B (ss:=QSx (.I)) (QFj (QQe xs).1 (QQe xs).2) (v4,v5,v6,v7,e,())):=by
  intro b1 R e he;rw[he];exact QTx ⟨rfl,rfl,rfl,rfl,rfl⟩ rfl
 refine QAL fun b1=>QAB (fun h=>bad (by unfold QQe;rw[if_pos (by omega)])) (fun h=>QAB (fun h2=>bad (by unfold QQe;rw[if_neg (by omega),if_pos (by omega)])) (fun h2=>?_))
 have hl:xs.length=2:=by omega
 refine QAI (E:=U8) (xs:=xs) (s:=b) (k:=1) (h1:=by omega) (h:=fun _ _=>?_);refine QAO (E:=U8) (xs:=xs) (i:=1) (gdE (d:=0) (by omega)) (h:=?_);have hcl:=(xs.getD 1 0).toNat_lt;refine QAU (fun(x:Bool) As'=>(x=true↔((xs.getD 1 0).toNat=0∨(xs.getD 1 0).toNat≥128))∧As'=[Blk b1 [.I 0,.slice none 0 0,.slice none 0 0,.slice none 0 0]]) (fun K hK=>xif (fun h=>hK _ _ ⟨⟨fun _=>.inl (by have:=eq_of_beq h;omega),fun _=>rfl⟩,rfl⟩) (fun h=>?_)) ?_
 ·refine QAI (E:=U8) (xs:=xs) (s:=b) (k:=1) (h1:=by omega) (h:=fun _ _=>?_);refine QAO (E:=U8) (xs:=xs) (i:=1) (gdE (d:=0) (by omega)) (h:=hK _ _ ⟨?_,rfl⟩);have:=ne_of_beq_false h;rw[decide_eq_true_iff];omega
 rintro x _ ⟨hx,rfl⟩;refine xif (fun h=>bad (by unfold QQe;rw[if_neg (by omega),if_neg (by omega),if_pos (hx.1 h)])) (fun h=>?_);refine QAI (E:=U8) (xs:=xs) (s:=b) (k:=1) (h1:=by omega) (h:=fun _ _=>?_);refine QAO (E:=U8) (xs:=xs) (i:=1) (gdE (d:=0) (by omega)) (h:=?_);rw[QXL ((xs.getD 1 0).toNat:Int) (by omega) (by omega)]
 have he:QQe xs=(⟨(xs.getD 1 0).toNat,[],[],[]⟩,0):=by unfold QQe;rw[if_neg (by omega),if_neg (by omega),if_neg fun q=>by rw[hx.2 q]at h;cases h]
 rw[he];exact QTx ⟨rfl,rfl,rfl,rfl,rfl⟩ rfl
theorem QG3(n k:Nat)(b4 b2:Nat)(s:Sl)(h:k+n≤s.n)(hc:s.n≤s.c)(hm:s.n≤1000):Ct Pr 427 [.I (n:Int),.pointer (some ⟨b4,0,none⟩),.pointer (some ⟨b2,0,none⟩)] .one [.slice] [Blk b4 [.I (k:Int)],Blk b2 [s.v]] emp
  (fun t Bs=>t.1=s.cut k (k+n) s.c 1∧Bs=[Blk b4 [.I ((k+n:Nat):Int)],Blk b2 [s.v]]):=by
 refine sp1 (QKE _ _ _) fun B _=>?_;unfold QKE mf;dsimp only;refine xgq ?_;rw[QAD ((k:Int)+n) (by omega) (by omega),show (k:Int)+n=((k+n:Nat):Int) by omega];refine xsq (QAA (s:=.slice) (x:=s) (hv:=rfl) (h:=xgq (xgq ?_)));rw[show IntKind.i64.wrap (((k+n:Nat):Int) - n)=(k:Int) by rw[QAD _ (by omega) (by omega)];omega];refine QEf (by omega) (by omega) (by omega) (by omega) ?_;exact QAE ⟨by simp only[Int.toNat_natCast],rfl⟩
def QBp(a:AskV)(xs:List UInt8):RepV×Bool:=
 if a.code≥5 then (QP7,eqM ((QGO a).take 5) xs)
 else if ((xs.getD 1 0).toNat:Int)≠(xs.length:Int) - 2 then (QP7,false)
 else if a.code=1∨a.code=2 then (⟨0,(QB4 (xs.drop 2) a.count.toNat).1,[],[]⟩,(QB4 (xs.drop 2) a.count.toNat).2 == 0)
 else (⟨0,[],(QCk (xs.drop 2)).1,[]⟩,(QCk (xs.drop 2)).2 == 0)
theorem QQV(a:AskV)(hw:QMw a.set)(h0:a.e=0)(h20:a.code≠20)(so ss sp:Sl)(b:Sl)(xs:List UInt8)(hl:(xs.length:Int)=QaD a)(hcap:b.n≤b.c):Ct Pr 337 [Qdg a so ss sp,b.v] (.tup [some 4,none]) (QSx .bool) [] ((RAr U8 b xs).and (askR a so ss sp)) (QFj (QBp a xs).1 (QBp a xs).2):=by
 refine QAh (ss:=QSx .bool) (φ:=fun K=>(QJa _ _ _ _ _ _ _ K).1) (fun h=>cf _ rfl (by kernel_rfl) h) fun B hg=>?_;show Ent B [] (QJa a.code a.addr a.count so ss sp b fun x0 x1 x2 x3 x4=>Ret B (ss:=QSx .bool) (QFj (QBp a xs).1 (QBp a xs).2) (x0,x1,x2,x3,x4,()));obtain⟨hb,ha1,ha2,ha3⟩:=hg;haveI:Fro B b U8 xs:=⟨hb⟩;haveI:Fro B so BL a.on:=⟨ha1⟩;haveI:Fro B ss W16 a.set:=⟨ha2⟩;haveI:Fro B sp PaE a.parts:=⟨ha3⟩;have hn:=hb.1;have hbd:=QZM a h0;obtain⟨_,hk⟩:=QB0 h0;unfold QJa mf;dsimp only;refine QAL fun b1=>QAL fun b2=>QAL fun b3=>QAL fun b4=>xsq (QAL fun b5=>xgq ?_)
 refine QAU (fun(x:Bool) As'=>(x=true↔a.code≥5)∧As'=[Blk b5 [.I 0,.slice none 0 0,.slice none 0 0,.slice none 0 0],Blk b4 [.I 1],Blk b3 [.I 0,.slice none 0 0,.slice none 0 0,.slice none 0 0],Blk b2 [b.v],Blk b1 [.I a.code,.I a.addr,.I a.count,so.v,ss.v,sp.v]])
  (fun K hK=>QAB (fun h=>QAA (h:=hK _ _ ⟨by rw[bne_iff_ne];exact⟨fun _=>h,fun _=>h20⟩,rfl⟩)) (fun h=>hK _ _ ⟨by simp;omega,rfl⟩)) ?_
 rintro x _ ⟨hx,rfl⟩;refine xif (fun h=>?_) (fun h=>?_)
 ·have h5:a.code≥5:=hx.1 h;have hq:QBp a xs=(QP7,eqM ((QGO a).take 5) xs):=if_pos h5;rw[hq];have hbl:=QcN h0 h5 h20
  have hl5:QaD a=5:=by unfold QaD;rw[if_neg (by omega),if_neg (by omega)]
  iterate 3 (refine xgq ?_)
  refine QAA (s:=.slice) (x:=so) (hv:=rfl) (h:=QAA (s:=.slice) (x:=ss) (hv:=rfl) (h:=QAA (s:=.slice) (x:=sp) (hv:=rfl) (h:=?_)));refine xn2 (L:=fun s=>[Ar U8 s (QDe a)]) (QFy a hw so ss sp) (fun x y Bs hB=>hB) fun s3=>?_;rw[show QDe a=QGO a from if_pos h0];refine QCn (E:=U8) (xs:=QGO a) s3 fun hsn hc=>?_;refine QAP (xgq (xgS (h:=xgS (h:=xgS (h:=?_)))));refine QEf (by omega) (by omega) (by omega) (by omega) ?_;refine QAA (s:=.slice) (x:=b) (hv:=rfl) (h:=?_);refine xcl (QWc (s3.cut 0 5 s3.c 1) b ((QGO a).take 5) xs (by simp;omega) (by omega)) (QDG (QZA (E:=U8) (xs:=QGO a) (l:=0) (r:=5) rdb (by omega) (by omega) (by omega)) rdb) ?_;rintro⟨c1,_⟩ _ ⟨h1,rfl⟩;simp only at h1;subst h1;refine QAz (ca1 ?_);iterate 4 (refine QC7 (h:=?_))
  iterate 4 (refine xsq ?_)
  refine xgq (xgS (h:=xgS (h:=xgS (h:=?_))));exact QAd W16 (QAd BL (QAM [Ar BL nilS [],Ar W16 nilS []] (QAE ⟨rfl,rfl,rfl,rfl,rfl⟩)))
 have h5:¬a.code≥5:=fun q=>by rw[hx.2 q]at h;cases h
 have hlx:2≤xs.length:=by omega
 refine QAP (QAA (s:=.slice) (x:=b) (hv:=rfl) (h:=?_));refine xd1 (QG3 1 1 b4 b2 b (by omega) hcap (by omega)) ?_;have hc1:=hb.cut 1 (1+1) b.c (by omega) (by omega) (by omega);haveI:Fro B (b.cut 1 (1+1) b.c 1) U8 ((xs.take (1+1)).drop 1):=⟨hc1⟩;refine QC7 (h:=?_);have hcl:=(xs.getD 1 0).toNat_lt;refine QAI (E:=U8) (xs:=(xs.take (1+1)).drop 1) (s:=b.cut 1 (1+1) b.c 1) (k:=0) (h1:=by simp;omega) (h:=fun _ _=>?_);refine QAO (E:=U8) (xs:=(xs.take (1+1)).drop 1) (i:=0) (x:=xs.getD 1 0) (by rw[List.getElem?_drop,List.getElem?_take,if_pos (by omega)];exact gdE (by omega)) (h:=?_);rw[QXL ((xs.getD 1 0).toNat:Int) (by omega) (by omega),QAD ((b.n:Int) - 2) (by omega) (by omega)];refine xif (fun h=>?_) (fun h=>?_)
 ·have hne:((xs.getD 1 0).toNat:Int)≠(xs.length:Int) - 2:=by have:¬((xs.getD 1 0).toNat:Int)=(b.n:Int) - 2:=bne_iff_ne.1 h;omega
  have hq:QBp a xs=(QP7,false):=by unfold QBp;rw[if_neg h5,if_pos hne]
  rw[hq];refine xgq (xgS (h:=xgS (h:=xgS (h:=?_))));iterate 4 (refine xsq ?_)
  refine xgq (xgS (h:=xgS (h:=xgS (h:=?_))));exact QAd W16 (QAd BL (QAM [Ar BL nilS [],Ar W16 nilS []] (QAE ⟨rfl,rfl,rfl,rfl,rfl⟩)))
 have heq:((xs.getD 1 0).toNat:Int)=(xs.length:Int) - 2:=by
  have:((xs.getD 1 0).toNat:Int)=(b.n:Int) - 2:=by
   by_cases q:((xs.getD 1 0).toNat:Int)=(b.n:Int) - 2
   ·exact q
   ·rw[bne_iff_ne.2 q]at h;cases h
  omega
 have hc2:=hb.cut (1+1) (1+1+(b.n - 2)) b.c (by omega) (by omega) (by omega);rw[show (xs.take (1+1+(b.n - 2))).drop (1+1)=xs.drop 2 by rw[List.take_of_length_le (by omega)]]at hc2
 have en:IntKind.i64.wrap ((b.n:Int) - 2)=((b.n - 2:Nat):Int):=by rw[QAD _ (by omega) (by omega)];omega
 obtain⟨r,hr⟩:∃r,QBp a xs=r:=⟨_,rfl⟩;rw[hr];refine xgq ?_
 have fin:∀{s1 s2:Sl}{c:Bool}{R:List HP},r.1.exc=0∧r.1.files=[]→c=r.2→Ent B (Ar BL s1 r.1.on::Ar W16 s2 r.1.set::Blk b5 [.I 0,s1.v,s2.v,.slice none 0 0]::Blk b3 [.I 0,.slice none 0 0,.slice none 0 0,.slice none 0 0]::R)
   (QAs (.I) ⟨b5,0,none⟩ fun(n12:Int)=>QAs .slice ⟨b5,1,none⟩ fun s24=>QAs .slice ⟨b5,2,none⟩ fun s25=>QAs .slice ⟨b5,3,none⟩ fun s26=>QBJ ⟨b3,0,none⟩ (.I n12)<|QBJ ⟨b3,1,none⟩ s24.v<|QBJ ⟨b3,2,none⟩ s25.v<|QBJ ⟨b3,3,none⟩ s26.v<|QAs (.I) ⟨b3,0,none⟩ fun(v8:Int)=>QAs .slice ⟨b3,1,none⟩ fun v9=>QAs .slice ⟨b3,2,none⟩ fun v10=>QAs .slice ⟨b3,3,none⟩ fun v11=>Ret B (ss:=QSx .bool) (QFj r.1 r.2) (v8,v9,v10,v11,c,())):=by
  rintro s1 s2 c R ⟨e1,e2⟩ rfl;refine xgq (QAA (s:=.slice) (x:=s1) (hv:=rfl) (h:=QAA (s:=.slice) (x:=s2) (hv:=rfl) (h:=xgS (h:=?_))));iterate 4 (refine xsq ?_)
  refine xgq (QAA (s:=.slice) (x:=s1) (hv:=rfl) (h:=QAA (s:=.slice) (x:=s2) (hv:=rfl) (h:=xgS (h:=?_))));exact QAM [Ar BL s1 r.1.on,Ar W16 s2 r.1.set] (QAE ⟨e1.symm,rfl,e2,rfl,rfl⟩)
 haveI:Fro B (b.cut (1+1) (1+1+(b.n - 2)) b.c 1) U8 (xs.drop 2):=⟨hc2⟩;refine QXS (fun h1=>?_) fun h1=>?_
 ·have hbd2:1≤a.count∧a.count≤2000:=by rcases hk with⟨q,hh,_⟩|⟨q,_⟩|⟨q,_⟩|⟨q,_⟩|⟨q,_⟩|⟨q,_⟩|⟨q,_⟩<;>omega
  refine QAJ (QBk rfl (QAP (QAA (s:=.slice) (x:=b) (hv:=rfl) (h:=xgq ?_))));rw[en];refine xd1 (QG3 (b.n - 2) (1+1) b4 b2 b (by omega) hcap (by omega)) (QC7 (h:=?_));obtain⟨c,hc⟩:∃c:Nat,a.count=(c:Int):=⟨a.count.toNat,by omega⟩
  obtain rfl:(⟨0,(QB4 (xs.drop 2) c).1,[],[]⟩,(QB4 (xs.drop 2) c).2 == 0)=r:=by
   rw[←hr];unfold QBp;rw[if_neg h5,if_neg (by rw[heq];simp),if_pos h1,hc];rfl
  rw[show (Value.int .i64 a.count)=.I (c:Int) by rw[hc]];refine xcl (QMg (b.cut (1+1) (1+1+(b.n - 2)) b.c 1) (xs.drop 2) c (by omega)) rdb ?_;rintro⟨s16,(r1:Int),_⟩ _ ⟨hr1,rfl⟩;simp only at hr1;subst hr1;refine QA8 (ca2 (xsq ?_));refine QAd W16 (QAW [Ar BL s16 (QB4 (xs.drop 2) c).1,Ar W16 nilS [],Blk b5 [.I 0,s16.v,nilS.v,.slice none 0 0],Blk b3 [.I 0,.slice none 0 0,.slice none 0 0,.slice none 0 0]] ?_);exact fin ⟨rfl,rfl⟩ (Bool.true_and _)
 refine QAJ (QBF rfl (QXS (fun h2=>?_) fun h2=>absurd h2 ?_))
 ·refine QAJ (QBk rfl (QAA (s:=.slice) (x:=b) (hv:=rfl) (h:=?_)));rw[en];refine xd1 (QG3 (b.n - 2) (1+1) b4 b2 b (by omega) hcap (by omega)) ?_
  obtain rfl:(⟨0,[],(QCk (xs.drop 2)).1,[]⟩,(QCk (xs.drop 2)).2 == 0)=r:=by
   rw[←hr];unfold QBp;rw[if_neg h5,if_neg (by rw[heq];simp),if_neg h1]
  refine xcl (QGt (b.cut (1+1) (1+1+(b.n - 2)) b.c 1) (xs.drop 2) (by simp;omega)) rdb ?_;rintro⟨s16,(r1:Int),_⟩ _ ⟨hr1,rfl⟩;simp only at hr1;subst hr1;refine QA8 (ca2 (xsq ?_));refine QAd BL (QAW [Ar BL nilS [],Ar W16 s16 (QCk (xs.drop 2)).1,Blk b5 [.I 0,nilS.v,s16.v,.slice none 0 0],Blk b3 [.I 0,.slice none 0 0,.slice none 0 0,.slice none 0 0]] ?_);exact fin ⟨rfl,rfl⟩ (Bool.true_and _)
 ·rcases hk with⟨q,hh,_⟩|⟨q,hh,_⟩|⟨q,_⟩|⟨q,_⟩|⟨q,_⟩|⟨q,_⟩|⟨q,_⟩<;>omega
def QBr(a:AskV)(xs:List UInt8):RepV×Int:=
 if a.e≠0 then (QP7,a.e) else if xs.length=0 then (QP7,1)
 else if ((xs.getD 0 0).toNat:Int)=a.code+128 then QQe xs
 else if ((xs.getD 0 0).toNat:Int)≠a.code then (QP7,20)
 else if (xs.length:Int)<QaD a then (QP7,1) else if (xs.length:Int)>QaD a then (QP7,2)
 else if (QBp a xs).2=true then ((QBp a xs).1,0) else (QP7,4)
theorem QTw(a:AskV)(hw:QMw a.set)(h20:a.code≠20)(so ss sp:Sl)(b:Sl)(xs:List UInt8)(hcap:b.n≤b.c):Ct Pr 237 [Qdg a so ss sp,b.v] (.tup [some 4,none]) (QSx (.I)) [] ((RAr U8 b xs).and (askR a so ss sp)) (QFj (QBr a xs).1 (QBr a xs).2):=by
 refine QAh (ss:=QSx (.I)) (φ:=fun K=>(QLg _ _ _ _ _ _ _ K).1) (fun h=>cf _ rfl (by kernel_rfl) h) fun B hg=>?_;show Ent B [] (QLg a.code a.addr a.count so ss sp b fun x0 x1 x2 x3 x4=>Ret B (ss:=QSx (.I)) (QFj (QBr a xs).1 (QBr a xs).2) (x0,x1,x2,x3,x4,()));obtain⟨hb,ha1,ha2,ha3⟩:=hg;haveI:Fro B b U8 xs:=⟨hb⟩;haveI:Fro B so BL a.on:=⟨ha1⟩;haveI:Fro B ss W16 a.set:=⟨ha2⟩;haveI:Fro B sp PaE a.parts:=⟨ha3⟩;have hn:=hb.1;have ho:a.on.length=so.n:=ha1.1;have hs:a.set.length=ss.n:=ha2.1
 have bad:∀{b1:Nat}{R:List HP}{e:Int},QBr a xs=(QP7,e)→Ent B (Blk b1 [.I 0,.slice none 0 0,.slice none 0 0,.slice none 0 0]::R) (QBJ ⟨b1,0,none⟩ (.I 0)<|QBJ ⟨b1,1,none⟩ (.slice none 0 0)<|QBJ ⟨b1,2,none⟩ (.slice none 0 0)<|QBJ ⟨b1,3,none⟩ (.slice none 0 0)<|QAs (.I) ⟨b1,0,none⟩ fun(v4:Int)=>QAs .slice ⟨b1,1,none⟩ fun v5=>QAs .slice ⟨b1,2,none⟩ fun v6=>QAs .slice ⟨b1,3,none⟩ fun v7=>Ret B (ss:=QSx (.I)) (QFj (QBr a xs).1 (QBr a xs).2) (v4,v5,v6,v7,e,())):=by
  intro b1 R e he;rw[he];exact QTx ⟨rfl,rfl,rfl,rfl,rfl⟩ rfl
 unfold QLg mf;dsimp only;refine QAL fun b1=>QAL fun b2=>?_;iterate 3 (refine xgq ?_)
 refine QAA (s:=.slice) (x:=so) (hv:=rfl) (h:=QAA (s:=.slice) (x:=ss) (hv:=rfl) (h:=QAA (s:=.slice) (x:=sp) (hv:=rfl) (h:=?_)));refine xd1 (QIz a.code a.addr a.count so ss sp a.parts) ?_;rw[←ho,←hs,show askE a.code a.addr a.count a.on.length a.set.length a.parts=a.e from rfl];refine xif (fun h=>bad (if_pos (by simpa using h))) (fun h=>?_)
 have h0:a.e=0:=by simpa using h
 have hbd:=QZM a h0
 have hcode:1≤a.code∧a.code≤20:=by
  rcases (QB0 h0).2 with⟨q|q,_⟩|⟨q|q,_⟩|⟨q,_⟩|⟨q,_⟩|⟨q,_⟩|⟨q,_⟩|⟨q,_⟩<;>omega
 refine xif (fun h=>bad ?_) (fun h=>?_)
 ·have:=eq_of_beq h;unfold QBr;rw[if_neg (by rw[h0];decide),if_pos (by omega)]
 have hne:xs.length≠0:=by have:=ne_of_beq_false h;omega
 have hcl:=(xs.getD 0 0).toNat_lt;refine QAP ?_;refine QAI (E:=U8) (xs:=xs) (s:=b) (k:=0) (h1:=by omega) (h:=fun _ _=>?_);refine QAO (E:=U8) (xs:=xs) (i:=0) (gdE (d:=0) (by omega)) (h:=xgq ?_);rw[QXL ((xs.getD 0 0).toNat:Int) (by omega) (by omega),QAD (a.code+128) (by omega) (by omega)];refine xif (fun h=>?_) (fun h=>?_)
 ·have hq:QBr a xs=QQe xs:=by unfold QBr;rw[if_neg (by rw[h0];decide),if_neg hne,if_pos (eq_of_beq h)]
  rw[hq];refine xcl (QNG b xs) rdb ?_;rintro⟨v0,s1,s2,v3,v4,_⟩ _ ⟨h1,h2,h3,h4,rfl⟩;simp only at h1 h2 h4;subst h1 h2 h4;refine QBM (ca5 ?_);iterate 4 (refine xsq ?_)
  refine xgq (QAA (s:=.slice) (x:=s1) (hv:=rfl) (h:=QAA (s:=.slice) (x:=s2) (hv:=rfl) (h:=xgS (h:=?_))));exact QAM [Ar BL s1 (QQe xs).1.on,Ar W16 s2 (QQe xs).1.set] (QAE ⟨rfl,rfl,h3,rfl,rfl⟩)
 have n1:=ne_of_beq_false h;refine QAP ?_;refine QAI (E:=U8) (xs:=xs) (s:=b) (k:=0) (h1:=by omega) (h:=fun _ _=>?_);refine QAO (E:=U8) (xs:=xs) (i:=0) (gdE (d:=0) (by omega)) (h:=xgq ?_);rw[QXL ((xs.getD 0 0).toNat:Int) (by omega) (by omega)];refine xif (fun h=>bad ?_) (fun h=>?_)
 ·unfold QBr;rw[if_neg (by rw[h0];decide),if_neg hne,if_neg n1,if_pos (bne_iff_ne.1 h)]
 have n2:((xs.getD 0 0).toNat:Int)=a.code:=by
  by_cases q:((xs.getD 0 0).toNat:Int)=a.code
  ·exact q
  ·rw[bne_iff_ne.2 q]at h;cases h
 iterate 3 (refine xgq ?_)
 refine QAA (s:=.slice) (x:=so) (hv:=rfl) (h:=QAA (s:=.slice) (x:=ss) (hv:=rfl) (h:=QAA (s:=.slice) (x:=sp) (hv:=rfl) (h:=?_)));refine xd1 (QLq a h0 h20 so ss sp) (QAB (fun h=>bad ?_) (fun h=>?_))
 ·unfold QBr;rw[if_neg (by rw[h0];decide),if_neg hne,if_neg n1,if_neg (by rw[n2];simp),if_pos (by omega)]
 iterate 3 (refine xgq ?_)
 refine QAA (s:=.slice) (x:=so) (hv:=rfl) (h:=QAA (s:=.slice) (x:=ss) (hv:=rfl) (h:=QAA (s:=.slice) (x:=sp) (hv:=rfl) (h:=?_)));refine xd1 (QLq a h0 h20 so ss sp) (QAB (fun h=>bad ?_) (fun h2=>?_))
 ·unfold QBr;rw[if_neg (by rw[h0];decide),if_neg hne,if_neg n1,if_neg (by rw[n2];simp),if_neg (by omega),if_pos (by omega)]
 iterate 3 (refine xgq ?_)
 refine QAA (s:=.slice) (x:=so) (hv:=rfl) (h:=QAA (s:=.slice) (x:=ss) (hv:=rfl) (h:=QAA (s:=.slice) (x:=sp) (hv:=rfl) (h:=?_)));refine xcl (QQV a hw h0 h20 so ss sp b xs (by omega) hcap) rdb ?_;rintro⟨v0,s1,s2,v3,v4,_⟩ _ ⟨h1,h2,h3,h4,rfl⟩;simp only at h1 h2 h4;subst h1 h2 h4;refine QBM (ca5 (QAL fun b3=>?_));iterate 4 (refine xsq ?_)
 refine xif (fun h=>?_) (fun h=>?_)
 ·have hq:QBr a xs=((QBp a xs).1,0):=by unfold QBr;rw[if_neg (by rw[h0];decide),if_neg hne,if_neg n1,if_neg (by rw[n2];simp),if_neg (by omega),if_neg (by omega),if_pos h]
  rw[hq];refine xgq (QAA (s:=.slice) (x:=s1) (hv:=rfl) (h:=QAA (s:=.slice) (x:=s2) (hv:=rfl) (h:=xgS (h:=?_))));iterate 4 (refine xsq ?_)
  refine xgq (QAA (s:=.slice) (x:=s1) (hv:=rfl) (h:=QAA (s:=.slice) (x:=s2) (hv:=rfl) (h:=xgS (h:=?_))));exact QAM [Ar BL s1 (QBp a xs).1.on,Ar W16 s2 (QBp a xs).1.set] (QAE ⟨rfl,rfl,h3,rfl,rfl⟩)
 ·refine QAW [Blk b2 [.I 0,.slice none 0 0,.slice none 0 0,.slice none 0 0]] (bad ?_);unfold QBr;rw[if_neg (by rw[h0];decide),if_neg hne,if_neg n1,if_neg (by rw[n2];simp),if_neg (by omega),if_neg (by omega),if_neg (by rw[h];decide)]
end Go.Cx
