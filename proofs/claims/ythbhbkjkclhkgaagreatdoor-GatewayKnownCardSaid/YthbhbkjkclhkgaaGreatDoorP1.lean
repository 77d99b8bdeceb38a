import Derived.Test.YthbhbkjkclhkgaaGreatDoorSX
import Derived.Test.YthbhbkjkclhkgaaGreatDoorA4
import Derived.Laws.BytesArg
namespace Go.Cx
open Go Go.Cf
set_option linter.unusedVariables false
set_option maxRecDepth 100000
variable {B:QBE}{As F:List HP}
theorem QE9(l:Sl)(vs:List Int)(hv:∀v∈vs,0≤v∧v≤65535)(hl:vs.length≤100000):Ct Pr 166 [l.v] .one [.slice] [] (RAr W16 l vs) (fun t Bs=>Bs=[Ar U8 t.1 (vs.flatMap QCr)]):=by
 refine sp1 (QNp _) fun B hr=>?_;haveI:Fro B l W16 vs:=⟨hr⟩;have hn:vs.length=l.n:=hr.1;unfold QNp mf;dsimp only;rw[QAB (2*(l.n:Int)) (by omega) (by omega)];rw[show (2*(l.n:Int))=((2*vs.length:Nat):Int) by omega];refine QYn U8 0 (2*vs.length) (by omega) (by omega) (h:=fun b=>?_);refine xar ?_;refine QBb (fun n (o:Sl) (x:Int) As'=>∃k:Nat,x=(k:Int)∧n=vs.length - k∧k≤vs.length∧As'=[Ar U8 o ((vs.take k).flatMap QCr)]) vs.length ⟨0,rfl,rfl,by omega,by simp⟩ ?_;rintro n b1 x As' K ⟨k,rfl,rfl,hk,rfl⟩ hK
 have hlen:((vs.take k).flatMap QCr).length=2*k:=by
  rw[List.length_flatMap]
  have:(vs.take k).map (fun a=>(QCr a).length)=List.replicate k 2:=by
   apply List.ext_getElem
   ·simp;omega
   ·intro i h1 h2;simp[QCr]
  rw[this];simp;omega
 refine QAA (fun hp=>?_) (fun hp=>?_)
 ·have hp:k<vs.length:=by omega
  refine QAH (E:=W16) (xs:=vs) (s:=l) (h1:=hp) (h:=fun y hy=>?_);refine QAN (E:=W16) (xs:=vs) hy (h:=QA6 (by decide) ?_);obtain⟨hy0,hy1⟩:=hv y (List.mem_of_getElem? hy);obtain⟨m,rfl⟩:=Int.eq_ofNat_of_zero_le hy0;rw[QCw m _ 256 (by decide),QAr,QAr];refine QAL fun b2=>?_;refine QAe (Q:=Ar U8 ⟨some ⟨b2,0,none⟩,2,2⟩ (QCr (m:Int))) 0 (fun g hg=>⟨[],QAm (QCr (m:Int)) 2 rfl rfl hg⟩) ?_;refine QHb (E:=U8) (s:=b1) (y:=⟨some ⟨b2,0,none⟩,2,2⟩) (hb:=by simp[QCr,hlen];omega) (h:=fun s1=>?_);rw[QAF k (by omega)]
  have e:(vs.take k).flatMap QCr++QCr (m:Int)=(vs.take (k+1)).flatMap QCr:=by
   rw[←QFN hy,List.flatMap_append];simp
  rw[e];exact QAK [Ar U8 s1 ((vs.take (k+1)).flatMap QCr)] (hK (vs.length - (k+1)) _ _ _ (by omega) ⟨k+1,rfl,rfl,by omega,rfl⟩)
 ·rw[List.take_of_length_le (by omega)];exact QAD rfl
def QHA(n:Nat):Nat:=(n+7) / 8
theorem QJB(n:Nat)(hn:n≤1000000000):Ct Pr 255 [.I (n:Int)] .one [.I] [] emp (fun t Bs=>t.1=(QHA n:Int)∧Bs=[]):=by
 refine sp1 (QR7 _) fun B _=>?_;unfold QR7 mf;dsimp only
 have e1:((n:Int).tmod 8)=((n % 8:Nat):Int):=by rw[Int.tmod_eq_emod_of_nonneg (by omega)];omega
 have e2:((n:Int).tdiv 8)=((n / 8:Nat):Int):=by rw[Int.tdiv_eq_ediv_of_nonneg (by omega)];omega
 rw[e1,e2,QAB ((n / 8:Nat):Int) (by omega) (by omega),QAB _ (by omega) (by omega)];unfold QHA;refine QA6 (by decide) (xif (fun h=>?_) (fun h=>?_))
 ·have h:n % 8=0:=by simp at h;omega
  exact QA6 (by decide) (QAD ⟨by show ((n / 8:Nat):Int)=_;omega,rfl⟩)
 ·have h:n % 8≠0:=by simp at h;omega
  exact QA6 (by decide) (QAD ⟨by show ((n / 8:Nat):Int)+1=_;omega,rfl⟩)
def QZJ(y:UInt8)(k:Nat):UInt8:=UInt8.ofNat (bits .or .u8 (y.toNat:Int) (IntKind.u8.wrap (1*2 ^ (min (k % 8) 8)))).toNat
def QH9(bs:List Bool)(N:Nat):Nat→List UInt8
 | 0=>List.replicate N 0
 | k+1=>if bs.getD k false=true then (QH9 bs N k).set (k / 8) (QZJ ((QH9 bs N k).getD (k / 8) 0) k) else QH9 bs N k
theorem QIk(bs:List Bool)(N:Nat):∀k,(QH9 bs N k).length=N
 | 0=>by simp[QH9]
 | k+1=>by
  rw[QH9];split
  ·rw[List.length_set];exact QIk bs N k
  ·exact QIk bs N k
def QEA(bs:List Bool):List UInt8:=QH9 bs (QHA bs.length) bs.length
theorem QE0(bs:List Bool):(QEA bs).length=QHA bs.length:=QIk _ _ _
theorem QJE(l:Sl)(bs:List Bool)(hl:bs.length≤100000):Ct Pr 165 [l.v] .one [.slice] [] (RAr BL l bs) (fun t Bs=>Bs=[Ar U8 t.1 (QEA bs)]):=by
 refine sp1 (QSB _) fun B hr=>?_;haveI:Fro B l BL bs:=⟨hr⟩;have hn:bs.length=l.n:=hr.1;unfold QSB mf;dsimp only;refine QAR (QJB l.n (by omega)) rdb ?_;rintro⟨(r:Int),_⟩ _ ⟨hr2,rfl⟩;obtain rfl:r=(QHA l.n:Int):=hr2
 have hN:QHA l.n=(bs.length+7) / 8:=by rw[←hn];rfl
 unfold QEA;rw[show QHA bs.length=QHA l.n by rw[hn]]
 generalize QHA l.n=N at *
 refine QAy (ca1 (QRK U8 (by omega) (by simp;omega) (h:=fun b=>?_)));simp only[Int.toNat_natCast];refine QBP (fun n (x:Int) As'=>∃k:Nat,x=(k:Int)∧n=bs.length - k∧k≤bs.length∧As'=[Ar U8 ⟨some ⟨b,0,none⟩,N,N⟩ (QH9 bs N k)]) bs.length ⟨0,rfl,rfl,by omega,rfl⟩ ?_;rintro n x As' K ⟨k,rfl,rfl,hk,rfl⟩ hK;refine QAA (fun hp=>?_) (fun hp=>?_)
 ·have hp:k<bs.length:=by omega
  have hb:bs[k]? = some (bs.getD k false):=by rw[List.getD_eq_getElem?_getD,List.getElem?_eq_getElem hp];rfl
  refine QAH (E:=BL) (xs:=bs) (s:=l) (k:=k) (h1:=hp) (h:=fun _ _=>?_);refine QAN (E:=BL) (xs:=bs) (i:=k) hb (h:=?_)
  have e8:((k:Int).tdiv 8)=((k / 8:Nat):Int):=by rw[Int.tdiv_eq_ediv_of_nonneg (by omega)];omega
  have e9:((k:Int).tmod 8)=((k % 8:Nat):Int):=by rw[Int.tmod_eq_emod_of_nonneg (by omega)];omega
  rw[e8,e9,QAB ((k / 8:Nat):Int) (by omega) (by omega),QAF k (by omega)];have hlen:=QIk bs N k
  have hy:(QH9 bs N k)[k / 8]? = some ((QH9 bs N k).getD (k / 8) 0):=by
   rw[List.getD_eq_getElem?_getD,List.getElem?_eq_getElem (by omega)];rfl
  have hb8:=QdY .or (((QH9 bs N k).getD (k / 8) 0).toNat:Int) (IntKind.u8.wrap (1*2 ^ (min (k % 8) 8)));refine QBu (fun As'=>As'=[Ar U8 ⟨some ⟨b,0,none⟩,N,N⟩ (QH9 bs N (k+1))]) (fun K1 hK1=>?_) ?_
  ·refine xif (fun hc=>?_) (fun hc=>?_)
   ·refine QAO (QA6 (by decide) ?_);refine QAH (E:=U8) (s:=⟨some ⟨b,0,none⟩,N,N⟩) (k:=k / 8) (h1:=by omega) (h:=fun _ _=>?_);refine QAN (E:=U8) (s:=⟨some ⟨b,0,none⟩,N,N⟩) (i:=k / 8) hy (h:=QA6 (by decide) (QA6 (by omega) ?_));refine QAH (E:=U8) (s:=⟨some ⟨b,0,none⟩,N,N⟩) (k:=k / 8) (h1:=by omega) (h:=fun _ _=>?_);rw[Int.toNat_natCast];refine QHd (E:=U8) (QZJ ((QH9 bs N k).getD (k / 8) 0) k) hy (hv:=?_) (h:=?_)
    ·show [_]=[Value.int .u8 _];unfold QZJ;rw[UInt8.toNat_ofNat'];congr 2;omega
    ·refine hK1 _ ?_;rw[QH9,if_pos hc]
   ·exact hK1 _ (by rw[QH9,if_neg (by rw[hc];decide)])
  rintro _ rfl;exact hK (bs.length - (k+1)) _ _ (by omega) ⟨k+1,rfl,rfl,by omega,rfl⟩
 ·rw[show bs.length=k by omega];exact QAD rfl
def QRh(xs:List UInt8)(i:Nat):Bool:=bits .and .u8 (Int.fdiv ((xs.getD (i / 8) 0).toNat:Int) (2 ^ (min (i % 8) 8))) 1 == 1
def QB9(xs:List UInt8)(n:Nat):List Bool×Int:=
 if xs.length≠QHA n then ([],22)
 else if n % 8≠0∧Int.fdiv ((xs.getD (xs.length - 1) 0).toNat:Int) (2 ^ (min (n % 8) 8))≠0 then ([],4)
 else ((List.range n).map (QRh xs),0)
theorem QLv(b:Sl)(xs:List UInt8)(n:Nat)(hn:n≤100000):Ct Pr 250 [b.v,.I (n:Int)] (.tup [none,none]) [.slice,.I] [] (RAr U8 b xs) (fun t Bs=>t.2.1=(QB9 xs n).2∧Bs=[Ar BL t.1 (QB9 xs n).1]):=by
 refine sp2 (QLT _ _) fun B hr=>?_;haveI:Fro B b U8 xs:=⟨hr⟩;have hbn:xs.length=b.n:=hr.1
 have e9:((n:Int).tmod 8)=((n % 8:Nat):Int):=by rw[Int.tmod_eq_emod_of_nonneg (by omega)];omega
 unfold QLT mf;dsimp only;refine QBF (by simp) ?_;refine QAR (QJB n (by omega)) rdb ?_;rintro⟨(r:Int),_⟩ _ ⟨hr2,rfl⟩;obtain rfl:r=(QHA n:Int):=hr2;refine QAy (ca1 (xif (fun h=>?_) (fun h=>?_)))
 ·have:QB9 xs n=([],22):=by unfold QB9;rw[if_pos];simp at h;omega
  rw[this];exact QAd BL (QAD ⟨rfl,rfl⟩)
 have h1:xs.length=QHA n:=by simp at h;omega
 have hN:QHA n=(n+7) / 8:=rfl;refine QA6 (by decide) ?_;rw[e9];refine QAS (fun(x:Bool) As'=>x=decide (n % 8≠0∧Int.fdiv ((xs.getD (xs.length - 1) 0).toNat:Int) (2 ^ (min (n % 8) 8))≠0)∧As'=[]) (fun K hK=>?_) ?_
 ·refine xif (fun h=>?_) (fun h=>?_)
  ·have h8:n % 8≠0:=by simp at h;omega
   rw[show (b.n:Int) - 1=((b.n - 1:Nat):Int) by omega,QAB ((b.n - 1:Nat):Int) (by omega) (by omega)];refine QAH (E:=U8) (xs:=xs) (s:=b) (k:=b.n - 1) (h1:=by omega) (h:=fun _ _=>?_);refine QAN (E:=U8) (xs:=xs) (i:=b.n - 1) (x:=xs.getD (b.n - 1) 0) (by rw[List.getD_eq_getElem?_getD,List.getElem?_eq_getElem (by omega)];rfl) (h:=QA6 (by decide) (QA6 (by omega) ?_));refine hK _ _ ⟨?_,rfl⟩;rw[Int.toNat_natCast,hbn];generalize Int.fdiv _ _=z;by_cases hz:z=0<;>simp[hz,h8]
  ·refine hK _ _ ⟨?_,rfl⟩
   have h8:n % 8=0:=by simp at h;omega
   simp[h8]
 rintro _ _ ⟨rfl,rfl⟩;refine QAA (fun h=>?_) (fun h=>?_)
 ·have:QB9 xs n=([],4):=by unfold QB9;rw[if_neg (by omega),if_pos h]
  rw[this];exact QAd BL (QAD ⟨rfl,rfl⟩)
 have:QB9 xs n=((List.range n).map (QRh xs),0):=by unfold QB9;rw[if_neg (by omega),if_neg h]
 rw[this];refine QRK BL (by omega) (by simp;omega) (h:=fun b1=>?_);simp only[Int.toNat_natCast];refine QBP (fun m (x:Int) As'=>∃k:Nat,x=(k:Int)∧m=n - k∧k≤n∧As'=[Ar BL ⟨some ⟨b1,0,none⟩,n,n⟩ ((List.range k).map (QRh xs)++List.replicate (n - k) false)]) n ⟨0,rfl,rfl,by omega,by simp;rfl⟩ ?_;rintro m x As' K ⟨k,rfl,rfl,hk,rfl⟩ hK;refine QAA (fun hp=>?_) (fun hp=>?_)
 ·have hp:k<n:=by omega
  have e8:((k:Int).tdiv 8)=((k / 8:Nat):Int):=by rw[Int.tdiv_eq_ediv_of_nonneg (by omega)];omega
  have e9:((k:Int).tmod 8)=((k % 8:Nat):Int):=by rw[Int.tmod_eq_emod_of_nonneg (by omega)];omega
  rw[e8,e9,QAB ((k / 8:Nat):Int) (by omega) (by omega),QAF k (by omega)];refine QA6 (by decide) ?_;refine QAH (E:=U8) (xs:=xs) (s:=b) (k:=k / 8) (h1:=by omega) (h:=fun _ _=>?_);refine QAN (E:=U8) (xs:=xs) (i:=k / 8) (x:=xs.getD (k / 8) 0) (by rw[List.getD_eq_getElem?_getD,List.getElem?_eq_getElem (by omega)];rfl) (h:=QA6 (by decide) (QA6 (by omega) ?_));refine QAH (E:=BL) (s:=⟨some ⟨b1,0,none⟩,n,n⟩) (k:=k) (h1:=by rw[List.length_append,List.length_map,List.length_range,List.length_replicate];omega) (h:=fun _ _=>?_);rw[Int.toNat_natCast]
  have hy:((List.range k).map (QRh xs)++List.replicate (n - k) false)[k]? = some false:=by
   rw[List.getElem?_append_right (by simp)];simp only[List.length_map,List.length_range,Nat.sub_self];rw[List.getElem?_replicate,if_pos (by omega)]
  refine QHd (E:=BL) (QRh xs k) hy (hv:=rfl) (h:=?_)
  have e:((List.range k).map (QRh xs)++List.replicate (n - k) false).set k (QRh xs k)=(List.range (k+1)).map (QRh xs)++List.replicate (n - (k+1)) false:=by
   rw[List.set_append_right _ _ (by simp)];simp only[List.length_map,List.length_range,Nat.sub_self];rw[show n - k=(n - (k+1))+1 by omega,List.replicate_succ,List.set_cons_zero,List.range_succ,List.map_append,List.append_assoc];rfl
  rw[e];exact hK (n - (k+1)) _ _ (by omega) ⟨k+1,rfl,rfl,by omega,rfl⟩
 ·rw[show k=n by omega];simp only[Nat.sub_self,List.replicate_zero,List.append_nil];exact QAD ⟨rfl,rfl⟩
def QCp(xs:List UInt8):List Int×Int:=if xs.length % 2=0 then (QGz xs,0) else ([],22)
theorem QGt(b:Sl)(xs:List UInt8)(hm:xs.length≤1073741824):Ct Pr 251 [b.v] (.tup [none,none]) [.slice,.I] [] (RAr U8 b xs) (fun t Bs=>t.2.1=(QCp xs).2∧Bs=[Ar W16 t.1 (QCp xs).1]):=by
 by_cases he:xs.length % 2=0
 ·rw[show QCp xs=(QGz xs,0) from if_pos he];exact QM4 b xs he hm
 ·rw[show QCp xs=([],22) from if_neg he];refine sp2 (QHO _) fun B hr=>?_;have hbn:xs.length=b.n:=hr.1;unfold QHO mf;dsimp only
  have e:((b.n:Int).tmod 2)=1:=by rw[Int.tmod_eq_emod_of_nonneg (by omega)];omega
  rw[e];exact QA6 (by decide) (QBz rfl (QAd W16 (QAD ⟨rfl,rfl⟩)))
abbrev nilS:Sl:=⟨none,0,0⟩
instance rdbNil{α:Type}{E:Enc α}:Rdb B F (RAr E nilS []):=⟨fun _ _ _ _ _=>⟨rfl,by simp[QAf,nilS],fun h=>absurd h (by simp[nilS])⟩⟩
theorem xgS{b:Nat}{cs:List Value}{upd:List Value→List HP}{rest:List HP}[o:Own b As cs upd rest]{off n c:Nat}{p:Option Addr}{K:Sl→WP}(hv:cs[off]? = some (.slice p n c):=by rfl)(h:Ent B As (K ⟨p,n,c⟩)):Ent B As (QAq .slice ⟨b,off,none⟩ K):=
 QAE (s:=.slice) (x:=⟨p,n,c⟩) (hv:=hv) (h:=h)
theorem ca5{s1 s2 s3 s4 s5:Sh}{K:s1.ty→s2.ty→s3.ty→s4.ty→s5.ty→WP}{a b c d e}{v:Unit}(h:Ent B As (K a b c d e)):Ent B As (Cur.app [s1,s2,s3,s4,s5] K (a,b,c,d,e,v)):=h
theorem ca7{s1 s2 s3 s4 s5 s6 s7:Sh}{K:s1.ty→s2.ty→s3.ty→s4.ty→s5.ty→s6.ty→s7.ty→WP}{a b c d e f g}{v:Unit}(h:Ent B As (K a b c d e f g)):Ent B As (Cur.app [s1,s2,s3,s4,s5,s6,s7] K (a,b,c,d,e,f,g,v)):=h
theorem QAU(Q:List HP){G R:List HP}[q:Split Q As G][a:App Q G R]{φ:WP}(h:Ent B R φ):Ent B As φ:=Ent.perm q.perm (by rw[a.eq];exact h)
theorem QWK(v:Int)(h0:0≤v)(h1:v≤65535):IntKind.i64.wrap v=v:=QAB v (by omega) (by omega)
structure AskV where
 code:Int
 addr:Int
 count:Int
 on:List Bool
 set:List Int
 parts:List P3
abbrev Qb6:AskV:=⟨0,0,0,[],[],[]⟩
def AskV.e(a:AskV):Int:=askE a.code a.addr a.count a.on.length a.set.length a.parts
def QNP(l:List Int):Prop:=∀v∈l,0≤v∧v≤65535
abbrev Qc1(a:AskV)(so ss sp:Sl):Value:=.agg #[.I a.code,.I a.addr,.I a.count,so.v,ss.v,sp.v]
abbrev askR(a:AskV)(so ss sp:Sl):HP:=(RAr BL so a.on).and ((RAr W16 ss a.set).and (RAr PaE sp a.parts))
theorem QGR{p:Prop}[Decidable p]{a b:Int}(ha:a≠0)(h:(if p then a else b)=0):¬p∧b=0:=by
 by_cases hp:p
 ·rw[if_pos hp]at h;exact absurd h ha
 ·rw[if_neg hp]at h;exact⟨hp,h⟩
theorem QB3{c a n:Int}{no ns:Nat}{ps:List P3}(h:askE c a n no ns ps=0):(0≤a∧a≤65535) ∧
  (((c=1∨c=2)∧(1≤n∧n≤2000)∧no=0∧ns=0∧ps=[])∨((c=3∨c=4)∧(1≤n∧n≤125)∧no=0∧ns=0∧ps=[]) ∨
   (c=5∧n=0∧no=1∧ns=0∧ps=[])∨(c=6∧n=0∧no=0∧ns=1∧ps=[])∨(c=15∧n=0∧(1≤no∧no≤1968)∧ns=0∧ps=[]) ∨
   (c=16∧n=0∧no=0∧(1≤ns∧ns≤123)∧ps=[])∨(c=20∧n=0∧no=0∧ns=0∧(1≤ps.length∧ps.length≤35)∧QUD 245 ps=0)):=by
 unfold askE at h;obtain⟨n1,h⟩:=QGR (by decide) h;obtain⟨n2,h⟩:=QGR (by decide) h;obtain⟨n3,h⟩:=QGR (by decide) h;obtain⟨n4,h⟩:=QGR (by decide) h;obtain⟨n5,h⟩:=QGR (by decide) h;refine⟨by omega,?_⟩;have np:∀{l:List P3},¬0<(l.length:Int)→l=[]:=fun {l} h=>List.eq_nil_of_length_eq_zero (by omega);by_cases c1:c=1∨c=2
 ·rw[show QAs c=(2000,true,false,false,false,true,()) from if_pos c1]at n2 n4 n5;simp[QKh]at n2 n4;exact .inl ⟨c1,by omega,by omega,by omega,n2.2.2⟩
 by_cases c3:c=3∨c=4
 ·rw[show QAs c=(125,true,false,false,false,true,()) by unfold QAs;rw[if_neg c1,if_pos c3]]at n2 n4 n5;simp[QKh]at n2 n4;exact .inr (.inl ⟨c3,by omega,by omega,by omega,n2.2.2⟩)
 by_cases c5:c=5
 ·rw[show QAs c=(1,false,true,false,false,true,()) by rw[c5];rfl]at n2 n4 n5;simp[QKh]at n2 n4;exact .inr (.inr (.inl ⟨c5,by omega,by omega,by omega,n2.2.2⟩))
 by_cases c6:c=6
 ·rw[show QAs c=(1,false,false,true,false,true,()) by rw[c6];rfl]at n2 n4 n5;simp[QKh]at n2 n4;exact .inr (.inr (.inr (.inl ⟨c6,by omega,by omega,by omega,n2.2.2⟩)))
 by_cases c15:c=15
 ·rw[show QAs c=(1968,false,true,false,false,true,()) by rw[c15];rfl]at n2 n4 n5;simp[QKh]at n2 n4;exact .inr (.inr (.inr (.inr (.inl ⟨c15,by omega,by omega,by omega,n2.2.2⟩))))
 by_cases c16:c=16
 ·rw[show QAs c=(123,false,false,true,false,true,()) by rw[c16];rfl]at n2 n4 n5;simp[QKh]at n2 n4;exact .inr (.inr (.inr (.inr (.inr (.inl ⟨c16,by omega,by omega,by omega,n2.2.2⟩)))))
 by_cases c20:c=20
 ·rw[show QAs c=(35,false,false,false,true,true,()) by rw[c20];rfl]at n2 n4 n5;simp[QKh]at n2 n4;exact .inr (.inr (.inr (.inr (.inr (.inr ⟨c20,by omega,by omega,by omega,by omega,h⟩)))))
 exfalso;refine n1 ?_;unfold QAs;rw[if_neg c1,if_neg c3,if_neg c5,if_neg c6,if_neg c15,if_neg c16,if_neg c20]
def QHw(p:P3):List UInt8:=6::(QCr p.1++(QCr p.2.1++QCr p.2.2))
def QSN(a:AskV):List UInt8:=
 if a.code=5 then QCr a.addr++QCr (if a.on.headD false=true then 65280 else 0)
 else if a.code=6 then QCr a.addr++QCr (a.set.headD 0)
 else if a.code=15 then QCr a.addr++QCr a.on.length++[UInt8.ofNat (QEA a.on).length]++QEA a.on
 else if a.code=16 then QCr a.addr++QCr a.set.length++[UInt8.ofNat (2*a.set.length)]++a.set.flatMap QCr
 else if a.code=20 then UInt8.ofNat (7*a.parts.length)::a.parts.flatMap QHw
 else QCr a.addr++QCr a.count
def QGG(a:AskV):List UInt8:=UInt8.ofNat a.code.toNat::QSN a
def QDl(a:AskV):List UInt8:=if a.e=0 then QGG a else []
theorem QEe(l:List Int):(l.flatMap QCr).length=2*l.length:=by
 induction l with
 | nil=>rfl
 | cons v l ih=>rw[List.flatMap_cons,List.length_append,ih,List.length_cons];simp[QCr];omega
theorem QY6(p:P3):(QHw p).length=7:=rfl
theorem QNw(l:List P3):(l.flatMap QHw).length=7*l.length:=by
 induction l with
 | nil=>rfl
 | cons v l ih=>rw[List.flatMap_cons,List.length_append,ih,List.length_cons,QY6];omega
theorem QFt(a:AskV)(hw:QNP a.set)(so ss sp:Sl):Ct Pr 108 [Qc1 a so ss sp] (.tup [none,none]) [.slice,.I] [] (askR a so ss sp) (fun t Bs=>t.2.1=a.e∧Bs=[Ar U8 t.1 (QDl a)]):=by
 refine sp2 (QZD _ _ _ _ _ _) fun B hr=>?_;obtain⟨hr1,hr2,hr3⟩:=hr;haveI:Fro B so BL a.on:=⟨hr1⟩;haveI:Fro B ss W16 a.set:=⟨hr2⟩;haveI:Fro B sp PaE a.parts:=⟨hr3⟩;have ho:a.on.length=so.n:=hr1.1;have hs:a.set.length=ss.n:=hr2.1;have hp:a.parts.length=sp.n:=hr3.1;unfold QZD mf;dsimp only;refine QAL fun b=>?_;iterate 3 (refine xgq ?_)
 refine QAE (s:=.slice) (x:=so) (hv:=rfl) (h:=QAE (s:=.slice) (x:=ss) (hv:=rfl) (h:=QAE (s:=.slice) (x:=sp) (hv:=rfl) (h:=?_)));refine xd1 (QGl a.code a.addr a.count so ss sp a.parts) ?_;rw[←ho,←hs,show askE a.code a.addr a.count a.on.length a.set.length a.parts=a.e from rfl];refine xif (fun h=>?_) (fun h=>?_)
 ·have h0:a.e≠0:=by simpa using h
  refine QB5 0 (QAd U8 (QAD ⟨rfl,?_⟩));rw[show QDl a=[] from if_neg h0]
 have h0:a.e=0:=by simpa using h
 obtain⟨⟨ha0,ha1⟩,hk⟩:=QB3 h0
 have hc:IntKind.u8.wrap a.code=((UInt8.ofNat a.code.toNat).toNat:Int):=by
  rcases hk with⟨q|q,_⟩|⟨q|q,_⟩|⟨q,_⟩|⟨q,_⟩|⟨q,_⟩|⟨q,_⟩|⟨q,_⟩<;>rw[q] <;> rfl
 rw[show QDl a=QGG a from if_pos h0];unfold QGG;refine xgq (QAL fun b1=>xgq ?_);rw[hc];generalize hcu:UInt8.ofNat a.code.toNat=cu
 have two:∀(x y:Int) {R:List HP}{K:Sl→WP},(0≤x∧x≤65535)→(0≤y∧y≤65535)→(∀s,Ent B (Ar U8 s (cu::(QCr x++QCr y))::R) (K s)) →
   Ent B (Blk b1 [.int .u8 (cu.toNat:Int)]::R) (QDE [.I x,.I y] 3 fun b2=>QAb Pr 170 [.slice (some ⟨b1,0,none⟩) 1 1,.slice (some ⟨b2,0,none⟩) 2 2] .one [.slice] K):=by
  intro x y R K hx hy hK;refine QAL fun b2=>QAe (Q:=Ar I64 ⟨some ⟨b2,0,none⟩,2,2⟩ [x,y]) 0 (fun g hg=>⟨[],QAm [x,y] 2 rfl rfl hg⟩) ?_;refine QAe (Q:=Ar U8 ⟨some ⟨b1,0,none⟩,1,1⟩ [cu]) 1 (fun g hg=>⟨[],QAm [cu] 1 rfl rfl hg⟩) ?_;refine xn1 (L:=fun s=>[Ar U8 s (cu::(QCr x++QCr y))]) (QU7 ⟨some ⟨b1,0,none⟩,1,1⟩ [cu] ⟨some ⟨b2,0,none⟩,2,2⟩ [x,y] (by intro v hv;simp at hv;omega) (by simp) (by simp)) (fun t Bs hB=>by rw[hB];simp) fun s=>?_;exact QB5 1 (hK s)
 have fin:∀{R:List HP}{s:Sl}{z:List UInt8},z=QSN a→Ent B (Ar U8 s (cu::z)::R) (Ret B (ss:=[.slice,.I]) (fun t Bs=>t.2.1=a.e∧Bs=[Ar U8 t.1 (cu::QSN a)]) (s,0,())):=by
  rintro R s z rfl;exact QAK [Ar U8 s (cu::QSN a)] (QAD ⟨h0.symm,rfl⟩)
 -- behind two numbers: how many bytes, and these
 have more:∀{R:List HP}{s p:Sl}{xs ys:List UInt8}{k:Int},ys.length≤255→xs.length=5→k=ys.length→xs++[UInt8.ofNat ys.length]++ys=cu::QSN a→Ent B (Ar U8 s xs::Ar U8 p ys::R) (QDE [.int .u8 (IntKind.u8.wrap k)] 5 fun b5=>QSR Pr 34 34 34 s.v (.slice (some ⟨b5,0,none⟩) 1 1) fun s11=>QSR Pr 34 34 34 s11.v p.v fun s12=>Ret B (ss:=[.slice,.I]) (fun t Bs=>t.2.1=a.e∧Bs=[Ar U8 t.1 (cu::QSN a)]) (s12,0,())):=by
  rintro R s p xs ys k hl hx rfl hz;rw[show IntKind.u8.wrap (ys.length:Int)=((UInt8.ofNat ys.length).toNat:Int) from (QAr ys.length)];refine QAL fun b5=>QAe (Q:=Ar U8 ⟨some ⟨b5,0,none⟩,1,1⟩ [UInt8.ofNat ys.length]) 0 (fun g hg=>⟨[],QAm [UInt8.ofNat ys.length] 1 rfl rfl hg⟩) ?_;refine QHb (E:=U8) (s:=s) (y:=⟨some ⟨b5,0,none⟩,1,1⟩) (hb:=by simp[hx]) (h:=fun s1=>?_);refine QHb (E:=U8) (s:=s1) (y:=p) (hb:=by simp[hx];omega) (h:=fun s2=>?_);rw[hz];exact QAK [Ar U8 s2 (cu::QSN a)] (QAD ⟨h0.symm,rfl⟩)
 rcases hk with⟨q,hn,hno,hns,hps⟩|⟨q,hn,hno,hns,hps⟩|⟨q,hn,hno,hns,hps⟩|⟨q,hn,hno,hns,hps⟩|⟨q,hn,hno,hns,hps⟩|⟨q,hn,hno,hns,hps⟩|⟨q,hn,hno,hns,hps,hch⟩
 case inl=>
  iterate 5 (refine QBF (by rcases q with q|q<;>rw[q] <;> rfl) ?_)
  refine QAE (h:=QAE (h:=two a.addr a.count ⟨ha0,ha1⟩ (by omega) fun s=>fin ?_));rcases q with q|q <;> (unfold QSN;rw[q];rfl)
 case inr.inl=>
  iterate 5 (refine QBF (by rcases q with q|q<;>rw[q] <;> rfl) ?_)
  refine QAE (h:=QAE (h:=two a.addr a.count ⟨ha0,ha1⟩ (by omega) fun s=>fin ?_));rcases q with q|q <;> (unfold QSN;rw[q];rfl)
 case inr.inr.inl=>
  obtain⟨v,hv⟩:∃v,a.on=[v]:=List.length_eq_one_iff.1 hno;refine QBz (by rw[q];rfl) (QAE (s:=.slice) (x:=so) (hv:=rfl) (h:=?_));refine QAH (E:=BL) (xs:=a.on) (s:=so) (k:=0) (h1:=by rw[hv];exact Nat.zero_lt_one) (h:=fun _ _=>?_);refine QAN (E:=BL) (xs:=a.on) (i:=0) (x:=v) (by rw[hv];rfl) (h:=?_);refine QAS (fun(x:Int) As'=>x=(if v=true then 65280 else 0)∧As'=[Blk b1 [.int .u8 (cu.toNat:Int)],Blk b [.I a.code,.I a.addr,.I a.count,so.v,ss.v,sp.v]]) (fun K hK=>xif (fun h=>hK _ _ ⟨by rw[if_pos h],rfl⟩) (fun h=>hK _ _ ⟨by rw[if_neg (by rw[h];decide)],rfl⟩)) ?_;rintro _ _ ⟨rfl,rfl⟩;refine QAE (h:=two a.addr _ ⟨ha0,ha1⟩ (by split<;>omega) fun s=>fin ?_);unfold QSN;rw[if_pos q,hv];rfl
 case inr.inr.inr.inl=>
  obtain⟨v,hv⟩:∃v,a.set=[v]:=List.length_eq_one_iff.1 hns;have hv2:=hw v (by rw[hv];simp);refine QBF (by rw[q];rfl) (QBz (by rw[q];rfl) (QAO (xgq (QAE (s:=.slice) (x:=ss) (hv:=rfl) (h:=?_)))));refine QAH (E:=W16) (xs:=a.set) (s:=ss) (k:=0) (h1:=by rw[hv];exact Nat.zero_lt_one) (h:=fun _ _=>?_);refine QAN (E:=W16) (xs:=a.set) (i:=0) (x:=v) (by rw[hv];rfl) (h:=?_);rw[QWK v hv2.1 hv2.2];refine two a.addr v ⟨ha0,ha1⟩ hv2 fun s=>fin ?_;unfold QSN;rw[if_neg (by omega),if_pos q,hv];rfl
 case inr.inr.inr.inr.inl=>
  iterate 2 (refine QBF (by rw[q];rfl) ?_)
  refine QBz (by rw[q];rfl) (QAE (s:=.slice) (x:=so) (hv:=rfl) (h:=?_));refine xn1 (L:=fun s=>[Ar U8 s (QEA a.on)]) (QJE so a.on (by omega)) (fun t Bs hB=>hB) fun p=>?_;refine QCm (E:=U8) (xs:=QEA a.on) p fun hpl _=>?_;have hbl:=QE0 a.on;have hN:QHA a.on.length=(a.on.length+7) / 8:=rfl;refine xgq (QAE (s:=.slice) (x:=so) (hv:=rfl) (h:=?_));rw[←ho];refine QAU [Blk b1 [.int .u8 (cu.toNat:Int)]] (two a.addr a.on.length ⟨ha0,ha1⟩ (by omega) fun s=>more (k:=p.n) (by omega) (by simp[QCr]) (by omega) ?_);unfold QSN;rw[if_neg (by omega),if_neg (by omega),if_pos q];simp[List.append_assoc]
 case inr.inr.inr.inr.inr.inl=>
  iterate 3 (refine QBF (by rw[q];rfl) ?_)
  refine QBz (by rw[q];rfl) (QAE (s:=.slice) (x:=ss) (hv:=rfl) (h:=?_));refine xn1 (L:=fun s=>[Ar U8 s (a.set.flatMap QCr)]) (QE9 ss a.set hw (by omega)) (fun t Bs hB=>hB) fun p=>?_;refine QCm (E:=U8) (xs:=a.set.flatMap QCr) p fun hpl _=>?_;have hbl:=QEe a.set;refine xgq (QAE (s:=.slice) (x:=ss) (hv:=rfl) (h:=?_));rw[←hs];refine QAU [Blk b1 [.int .u8 (cu.toNat:Int)]] (two a.addr a.set.length ⟨ha0,ha1⟩ (by omega) fun s=>more (k:=p.n) (by omega) (by simp[QCr]) (by omega) ?_);unfold QSN;rw[if_neg (by omega),if_neg (by omega),if_neg (by omega),if_pos q,QEe];simp[List.append_assoc]
 case inr.inr.inr.inr.inr.inr=>
  iterate 4 (refine QBF (by rw[q];rfl) ?_)
  refine QBz (by rw[q];rfl) (QAE (s:=.slice) (x:=sp) (hv:=rfl) (h:=?_));rw[←hp,QAB (7*(a.parts.length:Int)) (by omega) (by omega)];rw[show IntKind.u8.wrap (7*(a.parts.length:Int))=((UInt8.ofNat (7*a.parts.length)).toNat:Int) from QAr (7*a.parts.length)];refine QAL fun b8=>QAe (Q:=Ar U8 ⟨some ⟨b8,0,none⟩,1,1⟩ [UInt8.ofNat (7*a.parts.length)]) 0 (fun g hg=>⟨[],QAm [UInt8.ofNat (7*a.parts.length)] 1 rfl rfl hg⟩) ?_;refine QAe (Q:=Ar U8 ⟨some ⟨b1,0,none⟩,1,1⟩ [cu]) 1 (fun g hg=>⟨[],QAm [cu] 1 rfl rfl hg⟩) ?_;refine QHb (E:=U8) (s:=⟨some ⟨b1,0,none⟩,1,1⟩) (y:=⟨some ⟨b8,0,none⟩,1,1⟩) (hb:=by simp) (h:=fun s1=>?_);refine QAE (s:=.slice) (x:=sp) (hv:=rfl) (h:=?_);refine QAK [Ar U8 s1 ([cu]++[UInt8.ofNat (7*a.parts.length)])] ?_;refine QBb (fun n (s:Sl) (x:Int) As'=>∃k:Nat,x=(k:Int)∧n=a.parts.length - k∧k≤a.parts.length∧As'=[Ar U8 s ([cu,UInt8.ofNat (7*a.parts.length)]++(a.parts.take k).flatMap QHw)]) a.parts.length ⟨0,rfl,rfl,by omega,by simp⟩ ?_;rintro n s x As' K ⟨k,rfl,rfl,hk,rfl⟩ hK;refine QAA (fun h=>?_) (fun h=>?_)
  ·have hlt:k<a.parts.length:=by omega
   obtain⟨⟨y1,y2,y3⟩,hy⟩:∃y,a.parts[k]? = some y:=⟨_,List.getElem?_eq_getElem hlt⟩;have hyb:=QZd a.parts 245 hch _ (List.mem_of_getElem? hy);refine QAH (E:=PaE) (xs:=a.parts) (s:=sp) (k:=k) (h1:=hlt) (h:=fun _ _=>?_);refine QAN (E:=PaE) (xs:=a.parts) hy (h:=?_);refine QAZ (E:=PaE) (xs:=a.parts) hy (h:=?_);refine QAZ (E:=PaE) (xs:=a.parts) hy (h:=?_)
   (try dsimp only)
   unfold QZs at hyb;simp at hyb;refine QAL fun b10=>xsq (xsq (xsq (QAO ?_)))
   have hlen:((a.parts.take k).flatMap QHw).length=7*k:=by rw[QNw,List.length_take];omega
   have e:([cu,UInt8.ofNat (7*a.parts.length)]++(a.parts.take k).flatMap QHw++[6])++[y1,y2,y3].flatMap QCr=[cu,UInt8.ofNat (7*a.parts.length)]++(a.parts.take (k+1)).flatMap QHw:=by
    rw[←QFN hy,List.flatMap_append];simp[QHw,List.append_assoc]
   refine QAS (fun(s':Sl) As'=>As'=[Ar U8 s' ([cu,UInt8.ofNat (7*a.parts.length)]++(a.parts.take (k+1)).flatMap QHw)]) (fun K1 hK1=>?_) ?_
   ·iterate 3 (refine xgq ?_)
    have step:∀{s22:Sl}{b13:Nat}{R:List HP},Ent B (Ar U8 s22 ([cu,UInt8.ofNat (7*a.parts.length)]++(a.parts.take k).flatMap QHw++[6])::Blk b13 [.I y1,.I y2,.I y3]::R) (QAb Pr 170 [s22.v,.slice (some ⟨b13,0,none⟩) 3 3] .one [.slice] fun s23=>K1 s23):=by
     intro s22 b13 R;refine QAe (Q:=Ar I64 ⟨some ⟨b13,0,none⟩,3,3⟩ [y1,y2,y3]) 1 (fun g hg=>⟨[],QAm [y1,y2,y3] 3 rfl rfl hg⟩) ?_;refine xn1 (L:=fun s=>[Ar U8 s (([cu,UInt8.ofNat (7*a.parts.length)]++(a.parts.take k).flatMap QHw++[6])++[y1,y2,y3].flatMap QCr)]) (QU7 s22 _ ⟨some ⟨b13,0,none⟩,3,3⟩ [y1,y2,y3] (by intro v hv;simp at hv;omega) (by simp[hlen];omega) (by simp)) (fun t Bs hB=>hB) fun s4=>?_;rw[e];exact QAK [Ar U8 s4 ([cu,UInt8.ofNat (7*a.parts.length)]++(a.parts.take (k+1)).flatMap QHw)] (hK1 _ _ rfl)
    refine QXT (QAL fun b12=>QXT ?_ (QAL fun b14=>?_)) (QAL fun b15=>QAL fun b16=>?_)
    ·refine QAe (Q:=Ar U8 ⟨some ⟨b12,0,none⟩,1,1⟩ [6]) 0 (fun g hg=>⟨[],QAm [6] 1 rfl rfl hg⟩) ?_;refine QHb (E:=U8) (s:=s) (y:=⟨some ⟨b12,0,none⟩,1,1⟩) (hb:=by simp[hlen];omega) (h:=fun s1=>?_);refine QC6 (h:=QC6 (h:=QC6 (h:=QAL fun b13=>?_)));exact QAU [Ar U8 s1 ([cu,UInt8.ofNat (7*a.parts.length)]++(a.parts.take k).flatMap QHw++[6]),Blk b13 [.I y1,.I y2,.I y3]] step
    ·refine QAe (Q:=Ar U8 ⟨some ⟨b12,0,none⟩,1,1⟩ [6]) 1 (fun g hg=>⟨[],QAm [6] 1 rfl rfl hg⟩) ?_;refine QHb (E:=U8) (s:=s) (y:=⟨some ⟨b12,0,none⟩,1,1⟩) (hb:=by simp[hlen];omega) (h:=fun s1=>?_);refine QC6 (h:=QC6 (h:=QC6 (h:=?_)));exact QAU [Ar U8 s1 ([cu,UInt8.ofNat (7*a.parts.length)]++(a.parts.take k).flatMap QHw++[6]),Blk b14 [.I y1,.I y2,.I y3]] step
    ·refine QAe (Q:=Ar U8 ⟨some ⟨b16,0,none⟩,1,1⟩ [6]) 0 (fun g hg=>⟨[],QAm [6] 1 rfl rfl hg⟩) ?_;refine QHb (E:=U8) (s:=s) (y:=⟨some ⟨b16,0,none⟩,1,1⟩) (hb:=by simp[hlen];omega) (h:=fun s1=>?_);refine QC6 (h:=QC6 (h:=QC6 (h:=?_)));exact QAU [Ar U8 s1 ([cu,UInt8.ofNat (7*a.parts.length)]++(a.parts.take k).flatMap QHw++[6]),Blk b15 [.I y1,.I y2,.I y3]] step
   rintro s2 _ rfl;rw[QAF k (by omega)];exact hK (a.parts.length - (k+1)) _ _ _ (by omega) ⟨k+1,rfl,rfl,by omega,rfl⟩
  ·rw[List.take_of_length_le (by omega)];refine fin ?_;unfold QSN;rw[if_neg (by omega),if_neg (by omega),if_neg (by omega),if_neg (by omega),if_pos q];rfl
theorem gdE{α:Type}{xs:List α}{d:α}{i:Nat}(h:i<xs.length):xs[i]? = some (xs.getD i d):=by rw[List.getD_eq_getElem?_getD,List.getElem?_eq_getElem h];rfl
theorem Qcy{a b:Int}(h:a≠b):(a == b)=false:=by simpa using h
theorem Qb8(xs:List UInt8)(i:Nat):be2 xs i<65536:=by
 unfold be2;have:=(xs.getD i 0).toNat_lt;have:=(xs.getD (i+1) 0).toNat_lt;omega
def QBU(xs:List UInt8):AskV×Bool:=
 let c:=(xs.getD 0 0).toNat
 if c=20 then (⟨20,0,0,[],[],(QKA (xs.drop 2)).1⟩,(QKA (xs.drop 2)).2)
 else if c=5 then (⟨5,be2 xs 1,0,[((be2 xs 3:Nat):Int) == 65280],[],[]⟩,((be2 xs 3:Nat):Int) == 65280||((be2 xs 3:Nat):Int) == 0)
 else if c=6 then (⟨6,be2 xs 1,0,[],[be2 xs 3],[]⟩,true)
 else if c=15 then (⟨15,be2 xs 1,0,(QB9 (xs.drop 6) (be2 xs 3)).1,[],[]⟩,(QB9 (xs.drop 6) (be2 xs 3)).2 == 0)
 else if c=16 then (⟨16,be2 xs 1,0,[],(QCp (xs.drop 6)).1,[]⟩,(QCp (xs.drop 6)).2 == 0&&(((QCp (xs.drop 6)).1.length:Int) == (be2 xs 3:Nat)))
 else (⟨c,be2 xs 1,be2 xs 3,[],[],[]⟩,true)
abbrev QcW(s:Sh):List Sh:=[.I,.I,.I,.slice,.slice,.slice,s]
def QLF{s:Sh}(a:AskV)(e:s.ty)(t:Tup (QcW s))(Bs:List HP):Prop:=
 t.1=a.code∧t.2.1=a.addr∧t.2.2.1=a.count∧t.2.2.2.2.2.2.1=e∧Bs=[Ar BL t.2.2.2.1 a.on,Ar W16 t.2.2.2.2.1 a.set,Ar PaE t.2.2.2.2.2.1 a.parts]
def QMu(c:Nat):Bool:=(QAs c).2.2.2.2.2.1
theorem QQi{c:Nat}(h:QMu c=true):c=1∨c=2∨c=3∨c=4∨c=5∨c=6∨c=15∨c=16∨c=20:=by
 unfold QMu QAs at h
 (repeat' split at h)<;>first|omega|cases h
theorem QSn{xs:List UInt8}(h:QHi xs=0):((xs.getD 0 0).toNat=20→2≤xs.length∧xs.length=2+(xs.getD 1 0).toNat)∧(15≤(xs.getD 0 0).toNat→(xs.getD 0 0).toNat<20→6≤xs.length∧xs.length=6+(xs.getD 5 0).toNat)∧((xs.getD 0 0).toNat<15→xs.length=5):=by
 unfold QHi at h;obtain⟨n1,h⟩:=QGR (by decide) h;obtain⟨n2,h⟩:=QGR (by decide) h;obtain⟨n3,_⟩:=QGR (by decide) h;refine⟨fun hc=>?_,fun h1 h2=>?_,fun hc=>?_⟩
 ·rw[if_pos hc]at n2 n3;omega
 ·rw[if_neg (by omega),if_pos h1]at n2 n3;omega
 ·rw[if_neg (by omega),if_neg (by omega)]at n2 n3;omega
theorem QhH(v:Nat)(h:v<65536):IntKind.u16.wrap (v:Int)=(v:Int):=by
 have q1:(2 ^ IntKind.u16.bits:Int)=65536:=by decide
 have q3:IntKind.u16.signed=false:=rfl;simp only[IntKind.wrap,q1,q3,Bool.false_and];simp;omega
theorem QRm(xs:List UInt8)(h1:1≤xs.length)(hco:QMu (xs.getD 0 0).toNat=true)(hz:QHi xs=0)(b:Sl)(hcap:b.n≤b.c):Ct Pr 162 [b.v] (.tup [some 6,none]) (QcW .bool) [] (RAr U8 b xs) (QLF (QBU xs).1 (QBU xs).2):=by
 refine QAg (ss:=QcW .bool) (φ:=fun K=>(QPc _ K).1) (fun h=>cf _ rfl (by kernel_rfl) h) fun B hr=>?_;show Ent B [] (QPc b fun x0 x1 x2 x3 x4 x5 x6=>Ret B (ss:=QcW .bool) (QLF (QBU xs).1 (QBU xs).2) (x0,x1,x2,x3,x4,x5,x6,()));haveI:Fro B b U8 xs:=⟨hr⟩;have hn:=hr.1;obtain⟨z20,z15,z5⟩:=QSn hz;unfold QPc mf;dsimp only;refine QAL fun b1=>QAH (E:=U8) (xs:=xs) (s:=b) (k:=0) (h1:=h1) (h:=fun _ _=>?_);refine QAN (E:=U8) (xs:=xs) (i:=0) (gdE (d:=0) h1) (h:=QAL fun b2=>?_);have hcl:=(xs.getD 0 0).toNat_lt;have hor:=QQi hco;rw[QWK ((xs.getD 0 0).toNat:Int) (by omega) (by omega)];iterate 6 (refine xsq ?_)
 refine xgq ?_;by_cases c20:(xs.getD 0 0).toNat=20
 ·rw[show QBU xs=(⟨20,0,0,[],[],(QKA (xs.drop 2)).1⟩,(QKA (xs.drop 2)).2) from if_pos c20];obtain⟨hl2,hl⟩:=z20 c20;have:=(xs.getD 1 0).toNat_lt;refine QBz (by rw[c20];rfl) ?_;refine QEh (by omega) (by omega) (by omega) (by omega) ?_;simp only[Int.toNat_natCast];have hcut:=hr.cut 2 b.n b.c (by omega) hcap (by omega)
  have e:(xs.take b.n).drop 2=xs.drop 2:=by rw[List.take_of_length_le (by omega)]
  haveI:Fro B (b.cut (Int.toNat 2) b.n b.c 1) U8 (xs.drop 2):=⟨e ▸ hcut⟩;refine xcl (QWf (b.cut (Int.toNat 2) b.n b.c 1) (xs.drop 2) (by simp;omega) (by simp[Sl.cut];omega)) rdb ?_;rintro⟨s1,c,_⟩ _ ⟨hc,rfl⟩;simp only at hc;subst hc;refine QA5 (ca2 (xsq ?_));iterate 5 (first|refine xgq ?_|refine xgS (h:=?_))
  refine QAE (s:=.slice) (x:=s1) (hv:=rfl) (h:=?_);iterate 6 (refine xsq ?_)
  iterate 5 (first|refine xgq ?_|refine xgS (h:=?_))
  refine QAE (s:=.slice) (x:=s1) (hv:=rfl) (h:=?_);refine QAd W16 (QAd BL (QAK [Ar BL nilS [],Ar W16 nilS [],Ar PaE s1 (QKA (xs.drop 2)).1] (QAD ⟨?_,rfl,rfl,rfl,rfl⟩)));show ((xs.getD 0 0).toNat:Int)=20;omega
 have hlen:5≤xs.length:=by rcases hor with q|q|q|q|q|q|q|q|q<;>first|omega|(have:=z5 (by omega);omega)|(have:=(z15 (by omega) (by omega)).1;omega)
 have rd2:∀(i:Nat),i+1<xs.length→(((xs.getD i 0).toNat*256+(xs.getD (i+1) 0).toNat:Nat):Int)=((be2 xs i:Nat):Int):=fun _ _=>rfl;refine QBF (Qcy (by omega)) (QAO ?_);refine QAH (E:=U8) (xs:=xs) (s:=b) (k:=1) (h1:=by omega) (h:=fun _ _=>?_);refine QAN (E:=U8) (xs:=xs) (i:=1) (gdE (d:=0) (by omega)) (h:=QA6 (by decide) ?_);refine QAH (E:=U8) (xs:=xs) (s:=b) (k:=2) (h1:=by omega) (h:=fun _ _=>?_);refine QAN (E:=U8) (xs:=xs) (i:=2) (gdE (d:=0) (by omega)) (h:=?_);rw[QOb,rd2 1 (by omega)];refine xsq (QAO ?_);refine QAH (E:=U8) (xs:=xs) (s:=b) (k:=3) (h1:=by omega) (h:=fun _ _=>?_);refine QAN (E:=U8) (xs:=xs) (i:=3) (gdE (d:=0) (by omega)) (h:=QA6 (by decide) ?_);refine QAH (E:=U8) (xs:=xs) (s:=b) (k:=4) (h1:=by omega) (h:=fun _ _=>?_);refine QAN (E:=U8) (xs:=xs) (i:=4) (gdE (d:=0) (by omega)) (h:=xgq ?_);rw[QOb,rd2 3 (by omega)];have hb3:=Qb8 xs 3;obtain⟨r,hr'⟩:∃r,QBU xs=r:=⟨_,rfl⟩;rw[hr']
 have hcode:r.1.code=((xs.getD 0 0).toNat:Int)∧r.1.addr=((be2 xs 1:Nat):Int):=by
  rw[←hr'];unfold QBU;simp only[if_neg c20];repeat' split
  all_goals first|exact⟨rfl,rfl⟩|exact⟨by simp only;omega,rfl⟩
 obtain⟨hcode,hadr⟩:=hcode;rw[←hcode,←hadr]
 have cutR:6≤xs.length→RAr U8 (b.cut (Int.toNat 6) b.n b.c 1) (xs.drop 6) (frz B.W B.h0):=fun h6=>by
  have hcut:=hr.cut 6 b.n b.c (by omega) hcap (by omega)
  have e:(xs.take b.n).drop 6=xs.drop 6:=by rw[List.take_of_length_le (by omega)]
  exact e ▸ hcut
 refine QAS (fun(x:Bool) As'=>x=r.2∧∃so ss sp:Sl,As'=[Ar BL so r.1.on,Ar W16 ss r.1.set,Ar PaE sp r.1.parts,Blk b2 [.I r.1.code,.I r.1.addr,.I r.1.count,so.v,ss.v,sp.v],Blk b1 [.I 0,.I 0,.I 0,.slice none 0 0,.slice none 0 0,.slice none 0 0]]) (fun K hK=>?_) ?_
 ·refine xif (fun h=>?_) (fun h=>?_)
  ·have c5:(xs.getD 0 0).toNat=5:=by rw[hcode]at h;have:=eq_of_beq h;omega
   obtain rfl:(⟨5,be2 xs 1,0,[((be2 xs 3:Nat):Int) == 65280],[],[]⟩,((be2 xs 3:Nat):Int) == 65280||((be2 xs 3:Nat):Int) == 0)=r:=by
    rw[←hr'];unfold QBU;simp only[if_neg c20,if_pos c5]
   refine QAL fun b3=>xsq ?_;refine QAU [Blk b3 [.bool (((be2 xs 3:Nat):Int) == 65280)]] (QAe (Q:=Ar BL ⟨some ⟨b3,0,none⟩,1,1⟩ [((be2 xs 3:Nat):Int) == 65280]) 0 (fun g hg=>⟨[],QAm [((be2 xs 3:Nat):Int) == 65280] 1 rfl rfl hg⟩) ?_);exact QAd W16 (QAd PaE (QAU [Ar BL ⟨some ⟨b3,0,none⟩,1,1⟩ [((be2 xs 3:Nat):Int) == 65280],Ar W16 nilS [],Ar PaE nilS []] (hK _ _ ⟨rfl,_,_,_,rfl⟩)))
  refine QAJ (xif (fun h2=>?_) (fun h2=>?_))
  ·have c6:(xs.getD 0 0).toNat=6:=by rw[hcode]at h2;have:=eq_of_beq h2;omega
   obtain rfl:(⟨6,be2 xs 1,0,[],[((be2 xs 3:Nat):Int)],[]⟩,true)=r:=by
    rw[←hr'];unfold QBU;simp only[if_neg c20,if_pos c6];rw[if_neg (by omega)]
   rw[QhH (be2 xs 3) hb3];refine QAL fun b3=>xsq ?_;refine QAU [Blk b3 [.int .u16 ((be2 xs 3:Nat):Int)]] (QAe (Q:=Ar W16 ⟨some ⟨b3,0,none⟩,1,1⟩ [((be2 xs 3:Nat):Int)]) 0 (fun g hg=>⟨[],QAm [((be2 xs 3:Nat):Int)] 1 rfl rfl hg⟩) ?_);exact QAd BL (QAd PaE (QAU [Ar BL nilS [],Ar W16 ⟨some ⟨b3,0,none⟩,1,1⟩ [((be2 xs 3:Nat):Int)],Ar PaE nilS []] (hK _ _ ⟨rfl,_,_,_,rfl⟩)))
  refine QAJ (xif (fun h3=>?_) (fun h3=>?_))
  ·have c15:(xs.getD 0 0).toNat=15:=by rw[hcode]at h3;have:=eq_of_beq h3;omega
   obtain rfl:(⟨15,be2 xs 1,0,(QB9 (xs.drop 6) (be2 xs 3)).1,[],[]⟩,(QB9 (xs.drop 6) (be2 xs 3)).2 == 0)=r:=by
    rw[←hr'];unfold QBU;simp only[if_neg c20,if_pos c15];rw[if_neg (by omega),if_neg (by omega)]
   obtain⟨h6,hl⟩:=z15 (by omega) (by omega);refine QEh (by omega) (by omega) (by omega) (by omega) ?_;simp only[Int.toNat_natCast];haveI:Fro B (b.cut (Int.toNat 6) b.n b.c 1) U8 (xs.drop 6):=⟨cutR h6⟩;refine xcl (QLv (b.cut (Int.toNat 6) b.n b.c 1) (xs.drop 6) (be2 xs 3) (by omega)) rdb ?_;rintro⟨s6,(r1:Int),_⟩ _ ⟨hr1,rfl⟩;simp only at hr1;subst hr1;refine QA5 (ca2 (xsq ?_));exact QAd W16 (QAd PaE (QAU [Ar BL s6 (QB9 (xs.drop 6) (be2 xs 3)).1,Ar W16 nilS [],Ar PaE nilS []] (hK _ _ ⟨rfl,_,_,_,rfl⟩)))
  refine QAJ (xif (fun h4=>?_) (fun h4=>?_))
  ·have c16:(xs.getD 0 0).toNat=16:=by rw[hcode]at h4;have:=eq_of_beq h4;omega
   obtain rfl:(⟨16,be2 xs 1,0,[],(QCp (xs.drop 6)).1,[]⟩,(QCp (xs.drop 6)).2 == 0&&(((QCp (xs.drop 6)).1.length:Int) == (be2 xs 3:Nat)))=r:=by
    rw[←hr'];unfold QBU;simp only[if_neg c20,if_pos c16];rw[if_neg (by omega),if_neg (by omega),if_neg (by omega)]
   obtain⟨h6,hl⟩:=z15 (by omega) (by omega);have:=(xs.getD 5 0).toNat_lt;refine QEh (by omega) (by omega) (by omega) (by omega) ?_;simp only[Int.toNat_natCast];haveI:Fro B (b.cut (Int.toNat 6) b.n b.c 1) U8 (xs.drop 6):=⟨cutR h6⟩;refine xcl (QGt (b.cut (Int.toNat 6) b.n b.c 1) (xs.drop 6) (by simp;omega)) rdb ?_;rintro⟨s8,(r1:Int),_⟩ _ ⟨hr1,rfl⟩;simp only at hr1;subst hr1;refine QA5 (ca2 (xsq ?_));refine QAU [Ar W16 s8 (QCp (xs.drop 6)).1] (QCm (E:=W16) (xs:=(QCp (xs.drop 6)).1) s8 fun hl8 _=>?_);exact QAd BL (QAd PaE (QAU [Ar BL nilS [],Ar W16 s8 (QCp (xs.drop 6)).1,Ar PaE nilS []] (hK _ _ ⟨by rw[←hl8],_,_,_,rfl⟩)))
  ·have hc:∀{k:Nat},(r.1.code == (k:Int))=false→(xs.getD 0 0).toNat≠k:=fun {k} h=>by rw[hcode]at h;have:=ne_of_beq_false h;omega
   have d5:=hc (k:=5) h;have d6:=hc (k:=6) h2;have d15:=hc (k:=15) h3;have d16:=hc (k:=16) h4
   obtain rfl:(⟨(xs.getD 0 0).toNat,be2 xs 1,be2 xs 3,[],[],[]⟩,true)=r:=by
    rw[←hr'];unfold QBU;simp only[if_neg c20,if_neg d5,if_neg d6,if_neg d15,if_neg d16]
   refine xsq ?_;exact QAd W16 (QAd BL (QAd PaE (QAU [Ar BL nilS [],Ar W16 nilS [],Ar PaE nilS []] (hK _ _ ⟨rfl,_,_,_,rfl⟩))))
 rintro _ _ ⟨rfl,so,ss,sp,rfl⟩;iterate 3 (refine xgq ?_)
 refine QAE (s:=.slice) (x:=so) (hv:=rfl) (h:=QAE (s:=.slice) (x:=ss) (hv:=rfl) (h:=QAE (s:=.slice) (x:=sp) (hv:=rfl) (h:=?_)));iterate 6 (refine xsq ?_)
 iterate 3 (refine xgq ?_)
 refine QAE (s:=.slice) (x:=so) (hv:=rfl) (h:=QAE (s:=.slice) (x:=ss) (hv:=rfl) (h:=QAE (s:=.slice) (x:=sp) (hv:=rfl) (h:=?_)));exact QAK [Ar BL so r.1.on,Ar W16 ss r.1.set,Ar PaE sp r.1.parts] (QAD ⟨rfl,rfl,rfl,rfl,rfl⟩)
def QAX(xs:List UInt8):AskV×Int:=
 if xs.length=0 then (Qb6,1) else
 if QMu (xs.getD 0 0).toNat=false then (Qb6,20) else
 if QHi xs≠0 then (Qb6,QHi xs) else
 if (QBU xs).2=false then (Qb6,4) else
 if (QBU xs).1.e≠0 then (Qb6,(QBU xs).1.e) else ((QBU xs).1,0)
theorem QF1(xs:List UInt8)(hm:xs.length≤1000000)(b:Sl)(hcap:b.n≤b.c):Ct Pr 105 [b.v] (.tup [some 6,none]) (QcW (.I)) [] (RAr U8 b xs) (QLF (QAX xs).1 (QAX xs).2):=by
 refine QAg (ss:=QcW (.I)) (φ:=fun K=>(QTx _ K).1) (fun h=>cf _ rfl (by kernel_rfl) h) fun B hr=>?_;show Ent B [] (QTx b fun x0 x1 x2 x3 x4 x5 x6=>Ret B (ss:=QcW (.I)) (QLF (QAX xs).1 (QAX xs).2) (x0,x1,x2,x3,x4,x5,x6,()));haveI:Fro B b U8 xs:=⟨hr⟩;have hn:=hr.1;unfold QTx mf;dsimp only
 have bad:∀{b1:Nat}{cs:List Value}{R:List HP}{e:Int},cs.length=6→QAX xs=(Qb6,e)→Ent B (Blk b1 [.I 0,.I 0,.I 0,.slice none 0 0,.slice none 0 0,.slice none 0 0]::R)
   (QBG ⟨b1,0,none⟩ (.I 0)<|QBG ⟨b1,1,none⟩ (.I 0)<|QBG ⟨b1,2,none⟩ (.I 0)<|QBG ⟨b1,3,none⟩ (.slice none 0 0)<|QBG ⟨b1,4,none⟩ (.slice none 0 0)<|QBG ⟨b1,5,none⟩ (.slice none 0 0)<|QAq (.I) ⟨b1,0,none⟩ fun(v:Int)=>QAq (.I) ⟨b1,1,none⟩ fun(v1:Int)=>QAq (.I) ⟨b1,2,none⟩ fun(v2:Int)=>QAq .slice ⟨b1,3,none⟩ fun v3=>QAq .slice ⟨b1,4,none⟩ fun v4=>QAq .slice ⟨b1,5,none⟩ fun v5=>Ret B (ss:=QcW (.I)) (QLF (QAX xs).1 (QAX xs).2) (v,v1,v2,v3,v4,v5,e,())):=by
  intro b1 cs R e _ he;rw[he];iterate 6 (refine xsq ?_)
  iterate 6 (first|refine xgq ?_|refine xgS (h:=?_))
  exact QAd W16 (QAd BL (QAd PaE (QAK [Ar BL nilS [],Ar W16 nilS [],Ar PaE nilS []] (QAD ⟨rfl,rfl,rfl,rfl,rfl⟩))))
 refine QAL fun b1=>xif (fun h=>?_) (fun h=>?_)
 ·exact bad (cs:=[0,0,0,0,0,0].map fun k=>Value.int .i64 k) rfl (by unfold QAX;rw[if_pos];simp at h;omega)
 have h0:xs.length≠0:=by simp at h;omega
 refine QAH (E:=U8) (xs:=xs) (s:=b) (k:=0) (h1:=by omega) (h:=fun _ _=>?_);refine QAN (E:=U8) (xs:=xs) (i:=0) (gdE (d:=0) (by omega)) (h:=?_);have hcl:=(xs.getD 0 0).toNat_lt;rw[QWK ((xs.getD 0 0).toNat:Int) (by omega) (by omega)];refine xcl (QMQ ((xs.getD 0 0).toNat:Int)) rdb ?_;rintro⟨r,c,c1,c2,c3,c4,_⟩ _ ⟨hs,rfl⟩
 have hc4:QMu (xs.getD 0 0).toNat=c4:=by unfold QMu;rw[←hs]
 refine QAy (ca6 (QAL fun b2=>?_));iterate 5 (refine xsq ?_)
 refine xif (fun h=>?_) (fun h=>?_)
 ·refine QB5 0 (bad (cs:=[0,0,0,0,0,0].map fun k=>Value.int .i64 k) rfl ?_);unfold QAX;rw[if_neg h0,if_pos];rw[hc4];simpa using h
 have hco:QMu (xs.getD 0 0).toNat=true:=by rw[hc4];simpa using h
 refine xd1 (QSh b xs (by omega) (by rcases QQi hco with q|q|q|q|q|q|q|q|q<;>omega) hm) (xif (fun h=>?_) (fun h=>?_))
 ·have hz:QHi xs≠0:=by simpa using h
  exact QB5 0 (bad (cs:=[0,0,0,0,0,0].map fun k=>Value.int .i64 k) rfl (by unfold QAX;rw[if_neg h0,if_neg (by rw[hco];decide),if_pos hz]))
 have hz:QHi xs=0:=by simpa using h
 refine xcl (QRm xs (by omega) hco hz b hcap) rdb ?_;rintro⟨v0,v1,v2,so,ss,sp,ok,_⟩ _ ⟨rfl,rfl,rfl,h3,rfl⟩;simp only at h3;subst h3;refine QQA (ca7 (QAL fun b3=>?_));iterate 6 (refine xsq ?_)
 obtain⟨⟨a,k⟩,hq⟩:∃r,QBU xs=r:=⟨_,rfl⟩;rw[hq]
 (try simp only)
 refine xif (fun h=>?_) (fun h=>?_)
 ·have hk:k=false:=by simpa using h
  refine QAU [Blk b1 [.I 0,.I 0,.I 0,.slice none 0 0,.slice none 0 0,.slice none 0 0]] (bad (cs:=[0,0,0,0,0,0].map fun k=>Value.int .i64 k) rfl ?_);unfold QAX;rw[if_neg h0,if_neg (by rw[hco];decide),if_neg (by rw[hz];decide),hq,if_pos hk]
 have hk:k=true:=by simpa using h
 iterate 3 (refine xgq ?_)
 refine QAE (s:=.slice) (x:=so) (hv:=rfl) (h:=QAE (s:=.slice) (x:=ss) (hv:=rfl) (h:=QAE (s:=.slice) (x:=sp) (hv:=rfl) (h:=?_)));refine QAU [Ar BL so a.on,Ar W16 ss a.set,Ar PaE sp a.parts] (QCm (E:=BL) (xs:=a.on) so fun ho _=>?_);refine QAU [Ar W16 ss a.set] (QCm (E:=W16) (xs:=a.set) ss fun hs _=>?_);refine xd1 (QGl a.code a.addr a.count so ss sp a.parts) ?_;rw[←ho,←hs,show askE a.code a.addr a.count a.on.length a.set.length a.parts=a.e from rfl];refine xif (fun h=>?_) (fun h=>?_)
 ·have he:a.e≠0:=by simpa using h
  refine QAU [Blk b1 [.I 0,.I 0,.I 0,.slice none 0 0,.slice none 0 0,.slice none 0 0]] (bad (cs:=[0,0,0,0,0,0].map fun k=>Value.int .i64 k) rfl ?_);unfold QAX;rw[if_neg h0,if_neg (by rw[hco];decide),if_neg (by rw[hz];decide),hq];simp only;rw[if_neg (by rw[hk];decide),if_pos he]
 have he:a.e=0:=by simpa using h
 have hg:QAX xs=(a,0):=by
  unfold QAX;rw[if_neg h0,if_neg (by rw[hco];decide),if_neg (by rw[hz];decide),hq];simp only;rw[if_neg (by rw[hk];decide),if_neg (by rw[he];decide)]
 rw[hg];iterate 3 (refine xgq ?_)
 refine QAE (s:=.slice) (x:=so) (hv:=rfl) (h:=QAE (s:=.slice) (x:=ss) (hv:=rfl) (h:=QAE (s:=.slice) (x:=sp) (hv:=rfl) (h:=?_)));iterate 6 (refine xsq ?_)
 iterate 3 (refine xgq ?_)
 refine QAE (s:=.slice) (x:=so) (hv:=rfl) (h:=QAE (s:=.slice) (x:=ss) (hv:=rfl) (h:=QAE (s:=.slice) (x:=sp) (hv:=rfl) (h:=?_)));exact QAK [Ar BL so a.on,Ar W16 ss a.set,Ar PaE sp a.parts] (QAD ⟨rfl,rfl,rfl,rfl,rfl⟩)
theorem Qes:Pr.underlying 34=some (.slice 5)∧Pr.underlying 5=some (.int .u8)∧Pr.underlying 9=some .string:=⟨by kernel_rfl,by kernel_rfl,by kernel_rfl⟩
theorem Qgb{s:Sl}{xs:List UInt8}[r:RdA B As s U8 xs](hx:0<xs.length){K:ByteArray→WP}(h:Ent B As (K (strOfNums (xs.map fun x=>(x.toNat:Int))))):Ent B As (QKt Pr (convert 34 9 s.v) .str K):=by
 intro w hw;obtain⟨u1,u2,u3⟩:=Qes;have hr:=r.rd w hw;obtain⟨p,n,c⟩:=s;have hn:xs.length=n:=hr.1;refine⟨_,w,?_,h w hw⟩;obtain⟨b,o,hp,_⟩:=hr.cell (List.getElem?_eq_getElem hx) U8.pos;simp only at hp;subst hp;refine run_convert_bytes_arg (P:=Pr) w 34 5 u1 u2 b o n c _ (by simpa using hn) (fun i hi=>?_) 9 u3
 have hi':i<xs.length:=by omega
 obtain⟨b',o',hp,_,hc⟩:=hr.cell (List.getElem?_eq_getElem hi') U8.pos;simp only[Option.some.injEq,Addr.mk.injEq]at hp;obtain⟨rfl,rfl,_⟩:=hp;simp only[show U8.sz=1 from rfl,Nat.mul_one,Nat.add_zero]at hc;rw[hc];simp[U8,List.getD_eq_getElem?_getD,hi']
def eqM(xs ys:List UInt8):Bool:=(strOfNums (xs.map fun x=>(x.toNat:Int))).toList == (strOfNums (ys.map fun x=>(x.toNat:Int))).toList
theorem QW6(a b:Sl)(xs ys:List UInt8)(hx:0<xs.length)(hy:0<ys.length):Ct Pr 428 [a.v,b.v] .one [.bool] [] ((RAr U8 a xs).and (RAr U8 b ys)) (fun t Bs=>t.1=eqM xs ys∧Bs=[]):=by
 refine QGr QPq fun B hr=>?_;haveI fa:Fro B a U8 xs:=⟨hr.1⟩;haveI fb:Fro B b U8 ys:=⟨hr.2⟩;unfold QLI;exact Qgb (s:=a) (xs:=xs) hx (Qgb (s:=b) (xs:=ys) hy (QAD ⟨rfl,rfl⟩))
theorem QT5(l:Sl)(xs:List UInt8)(hm:xs.length≤140737488351232)[fa:Fro B l U8 xs]{K:Sl→WP}(h:∀s,Ent B (Ar U8 s xs::As) (K s)) :
  Ent B As (XIf (QDF l.p) (K ⟨none,0,0⟩) (QDE [] 5 fun b=>QSR Pr 34 34 34 (.slice (some ⟨b,0,none⟩) 0 0) l.v fun s=>K s)):=by
 have ha:=fa.rd.1;refine xif (fun hp=>?_) (fun hp=>?_)
 ·have:xs=[]:=by
   refine List.eq_nil_of_length_eq_zero ?_;rw[ha];rcases Nat.eq_zero_or_pos l.n with h0|h0
   ·exact h0
   ·obtain⟨b,o,_,_,_,_,hq,_⟩:=fa.rd.2.2 h0;rw[hq]at hp;simp[QDF]at hp
  subst this;exact QAd U8 (h _)
 ·refine QAL fun b=>QAe (Q:=Ar U8 ⟨some ⟨b,0,none⟩,0,0⟩ []) 0 (fun g hg=>⟨[],QAm [] 0 rfl rfl hg⟩) ?_;refine QHb (E:=U8) (s:=⟨some ⟨b,0,none⟩,0,0⟩) (xs:=[]) (y:=l) (ys:=xs) (hb:=by simp;omega) (h:=fun s'=>?_);exact h s'
theorem QSV(l:Sl)(xs:List UInt8)(hm:xs.length≤140737488351232):Ct Pr 167 [l.v] .one [.slice] [] (RAr U8 l xs) (fun t Bs=>Bs=[Ar U8 t.1 xs]):=by
 refine sp1 (QMe _) fun B hr=>?_;haveI:Fro B l U8 xs:=⟨hr⟩;unfold QMe mf;dsimp only;show Ent B [] (XIf (QDF l.p) _ _);refine QT5 (B:=B) (As:=[]) (K:=fun s=>Ret B (ss:=[.slice]) (fun t Bs=>Bs=[Ar U8 t.1 xs]) (s,())) l xs hm fun s=>?_;exact QAD rfl
theorem QMO(l:Sl)(xs:List UInt8)(hm:xs.length≤140737488351232):Ct Pr 52 [l.v] .one [.slice] [] (RAr U8 l xs) (fun t Bs=>Bs=[Ar U8 t.1 xs]):=by
 refine sp1 (QBL _) fun B hr=>?_;haveI:Fro B l U8 xs:=⟨hr⟩;unfold QBL mf;dsimp only;show Ent B [] (XIf (QDF l.p) _ _);refine QT5 (B:=B) (As:=[]) (K:=fun s=>Ret B (ss:=[.slice]) (fun t Bs=>Bs=[Ar U8 t.1 xs]) (s,())) l xs hm fun s=>?_;exact QAD rfl
structure RepV where
 exc:Int
 on:List Bool
 set:List Int
 files:List (List Int)
abbrev QP9:RepV:=⟨0,[],[],[]⟩
abbrev Qdp(exc:Int)(ro rs rf:Sl):Value:=.agg #[.I exc,ro.v,rs.v,rf.v]
def QKu(c:Int)(no ns nf:Nat):Bool:=
 if c=1∨c=2 then decide ((ns:Int)>0)||decide ((nf:Int)>0)
 else if c=3∨c=4 then decide ((no:Int)>0)||decide ((nf:Int)>0)
 else if c=20 then decide ((no:Int)>0)||decide ((ns:Int)>0)
 else (decide ((no:Int)>0)||decide ((ns:Int)>0))||decide ((nf:Int)>0)
theorem QXP{c a b:Int}{K:Bool→WP}(h1:c=a∨c=b→Ent B As (K true))(h2:¬(c=a∨c=b)→Ent B As (K false)):Ent B As (QBc [.bool] (fun(K':Bool→WP)=>XIf (c == a) (K' (c == a)) (K' (c == b))) K):=by
 refine QAJ (xif (fun h=>?_) (fun h=>?_))
 ·rw[h];exact h1 (.inl (eq_of_beq h))
 ·have n1:=ne_of_beq_false h;by_cases hb:c=b
  ·rw[show (c == b)=true from by rw[hb];exact beq_self_eq_true b];exact h1 (.inr hb)
  ·rw[Qcy hb];exact h2 (by omega)
theorem QGv(c exc:Int)(ro rs rf:Sl):Ct Pr 253 [.I c,Qdp exc ro rs rf] .one [.bool] [] emp (fun t Bs=>t.1=QKu c ro.n rs.n rf.n∧Bs=[]):=by
 refine sp1 (QD7 _ _ _ _ _) fun B _=>?_;unfold QD7 mf;dsimp only;refine QAL fun b=>QAO (QAE (s:=.slice) (x:=ro) (hv:=rfl) (h:=QAE (s:=.slice) (x:=rs) (hv:=rfl) (h:=QAE (s:=.slice) (x:=rf) (hv:=rfl) (h:=?_))));unfold QKu;refine QXP (fun h1=>QBz rfl (QAa (l:=[]) (QAD ⟨by rw[if_pos h1],rfl⟩))) fun h1=>QBF rfl ?_;refine QXP (fun h2=>QBz rfl (QAa (l:=[]) (QAD ⟨by rw[if_neg h1,if_pos h2],rfl⟩))) fun h2=>QBF rfl ?_;refine xif (fun h=>QAa (l:=[]) (QAD ⟨by rw[if_neg h1,if_neg h2,if_pos (eq_of_beq h)],rfl⟩)) (fun h=>QAa (l:=[]) (QAD ⟨by rw[if_neg h1,if_neg h2,if_neg (ne_of_beq_false h)],rfl⟩))
def QKE:List P3→List Nat→Bool
 | [],_=>true
 | _::_,[]=>false
 | p::ps,f::fs=>if (f:Int)≠p.2.2 then false else QKE ps fs
def QHZ(c count:Int)(ps:List P3)(no ns:Nat)(fl:List Nat):Bool:=
 if c=1∨c=2 then (no:Int) == count
 else if c=3∨c=4 then (ns:Int) == count
 else if fl.length≠ps.length then false else QKE ps fl
theorem QG5(code addr count exc:Int)(so ss sp ro rs rf:Sl)(ps:List P3)(hps:ps.length≤1000000)(frs:List Sl):Ct Pr 254 [.agg #[.I code,.I addr,.I count,so.v,ss.v,sp.v],Qdp exc ro rs rf] .one [.bool] [] ((RAr PaE sp ps).and (RAr SL rf frs)) (fun t Bs=>t.1=QHZ code count ps ro.n rs.n (frs.map Sl.n)∧Bs=[]):=by
 refine sp1 (QEE _ _ _ _ _ _ _ _ _ _) fun B hr=>?_;haveI:Fro B sp PaE ps:=⟨hr.1⟩;haveI:Fro B rf SL frs:=⟨hr.2⟩;have hp:=hr.1.1;have hf:=hr.2.1;unfold QEE mf QHZ;dsimp only;refine QAL fun b=>QAL fun b1=>xgq ?_;refine QXP (fun h1=>QBz rfl (QAE (s:=.slice) (x:=ro) (hv:=rfl) (h:=QAE (h:=QAa (l:=[]) (QAD ⟨by rw[if_pos h1],rfl⟩))))) fun h1=>QBF rfl ?_;rw[if_neg h1];refine QXP (fun h2=>QBz rfl (QAE (s:=.slice) (x:=rs) (hv:=rfl) (h:=QAE (h:=QAa (l:=[]) (QAD ⟨by rw[if_pos h2],rfl⟩))))) fun h2=>QBF rfl ?_;rw[if_neg h2];refine QAE (s:=.slice) (x:=rf) (hv:=rfl) (h:=QAE (s:=.slice) (x:=sp) (hv:=rfl) (h:=xif (fun h=>?_) (fun h=>?_)))
 ·refine QAa (l:=[]) (QAD ⟨?_,rfl⟩)
  have:¬((rf.n:Int)=sp.n):=by simpa using h
  rw[if_pos (by simp;omega)]
 have hfp:frs.length=ps.length:=by have:=eq_of_beq (show ((rf.n:Int) == (sp.n:Int))=true by simpa using h);omega
 rw[if_neg (by simp;omega)];refine QAE (s:=.slice) (x:=sp) (hv:=rfl) (h:=?_);refine QBP (fun n (x:Int) As'=>∃k:Nat,x=(k:Int)∧n=ps.length - k∧k≤ps.length∧QKE ps (frs.map Sl.n)=QKE (ps.drop k) ((frs.map Sl.n).drop k)∧As'=[Blk b1 [.I exc,ro.v,rs.v,rf.v],Blk b [.I code,.I addr,.I count,so.v,ss.v,sp.v]]) ps.length ⟨0,rfl,rfl,by omega,rfl,rfl⟩ ?_;rintro n x As' K ⟨k,rfl,rfl,hk,hg,rfl⟩ hK;refine QAA (fun hlt=>?_) (fun hlt=>?_)
 ·have hkl:k<ps.length:=by omega
  obtain⟨⟨a,f,c⟩,hy⟩:∃y,ps[k]? = some y:=⟨_,List.getElem?_eq_getElem hkl⟩;obtain⟨sf,hsf⟩:∃y,frs[k]? = some y:=⟨_,List.getElem?_eq_getElem (by omega)⟩
  have hdrop:ps.drop k=(a,f,c)::ps.drop (k+1):=by rw[List.drop_eq_getElem_cons hkl];congr 1;exact (List.getElem?_eq_some_iff.1 hy).2
  have hdrop2:(frs.map Sl.n).drop k=sf.n::(frs.map Sl.n).drop (k+1):=by
   rw[List.drop_eq_getElem_cons (by simp;omega)];congr 1;rw[List.getElem_map];congr 1;exact (List.getElem?_eq_some_iff.1 hsf).2
  rw[hdrop,hdrop2,QKE]at hg;refine QAH (E:=PaE) (xs:=ps) (s:=sp) (h1:=hkl) (h:=fun _ _=>?_);refine QAN (E:=PaE) (xs:=ps) hy (h:=?_);refine QAZ (E:=PaE) (xs:=ps) hy (h:=?_);refine QAZ (E:=PaE) (xs:=ps) hy (h:=?_)
  (try dsimp only)
  refine QAL fun b2=>xsq (xsq (xsq (QAO (QAE (s:=.slice) (x:=rf) (hv:=rfl) (h:=?_)))));refine QAH (E:=SL) (xs:=frs) (s:=rf) (h1:=by omega) (h:=fun _ _=>?_);refine QAN (E:=SL) (xs:=frs) hsf (h:=xgq (xif (fun h=>?_) (fun h=>?_)))
  ·refine QAa (l:=[]) (QAD ⟨?_,rfl⟩);rw[hg,if_pos];simpa using h
  ·rw[if_neg (by simpa using h)]at hg;rw[QAF k (by omega)];exact QB5 0 (hK (ps.length - (k+1)) _ _ (by omega) ⟨k+1,rfl,rfl,by omega,hg,rfl⟩)
 ·refine QAa (l:=[]) (QAD ⟨?_,rfl⟩);rw[hg,List.drop_of_length_le (by omega)];rfl
def Qck(a:AskV)(exc:Int)(no ns:Nat)(fl:List Nat):Int:=
 if a.e≠0 then a.e else
 if exc≠0 then (if exc<1∨exc≥128 then 3 else if (no:Int)>0∨(ns:Int)>0∨(fl.length:Int)>0 then 23 else 0) else
 if QKu a.code no ns fl.length=true then 23 else if QHZ a.code a.count a.parts no ns fl=true then 0 else 22
def RepV.e(a:AskV)(r:RepV):Int:=Qck a r.exc r.on.length r.set.length (r.files.map List.length)
theorem QO2(a:AskV)(so ss sp:Sl)(ho:so.n=a.on.length)(hs:ss.n=a.set.length)(exc:Int)(ro rs rf:Sl)(frs:List Sl):Ct Pr 164 [Qc1 a so ss sp,Qdp exc ro rs rf] .one [.I] [] ((RAr PaE sp a.parts).and (RAr SL rf frs)) (fun t Bs=>t.1=Qck a exc ro.n rs.n (frs.map Sl.n)∧Bs=[]):=by
 refine sp1 (QFs _ _ _ _ _ _ _ _ _ _) fun B hr=>?_;haveI:Fro B sp PaE a.parts:=⟨hr.1⟩;haveI:Fro B rf SL frs:=⟨hr.2⟩;have hf:=hr.2.1;unfold QFs mf;dsimp only;refine QAL fun b=>QAL fun b1=>?_;iterate 3 (refine xgq ?_)
 refine QAE (s:=.slice) (x:=so) (hv:=rfl) (h:=QAE (s:=.slice) (x:=ss) (hv:=rfl) (h:=QAE (s:=.slice) (x:=sp) (hv:=rfl) (h:=?_)));refine xd1 (QGl a.code a.addr a.count so ss sp a.parts) ?_;rw[ho,hs,show askE a.code a.addr a.count a.on.length a.set.length a.parts=a.e from rfl];unfold Qck;refine xif (fun h=>QAa (l:=[]) (QAD ⟨?_,rfl⟩)) (fun h=>?_)
 ·rw[if_pos (by simpa using h)]
 have h0:a.e=0:=by simpa using h
 rw[if_neg (by rw[h0];decide)];refine xgq (xif (fun h=>?_) (fun h=>?_))
 ·rw[if_pos (by simpa using h)];refine xgq ?_;refine QAS (fun(x:Bool) As'=>x=decide (exc<1∨exc≥128)∧As'=[Blk b1 [.I exc,ro.v,rs.v,rf.v]]) (fun K hK=>QAA (fun h=>QB5 1 (hK _ _ ⟨by simp[h],rfl⟩)) (fun h=>QAE (h:=QB5 1 (hK _ _ ⟨by simp[h],rfl⟩)))) ?_;rintro _ _ ⟨rfl,rfl⟩;refine QAA (fun h=>QAa (l:=[]) (QAD ⟨by rw[if_pos h],rfl⟩)) (fun h=>?_);rw[if_neg h];refine QAE (s:=.slice) (x:=ro) (hv:=rfl) (h:=?_)
  have hl:(frs.map Sl.n).length=rf.n:=by simp;omega
  rw[hl];refine QAS (fun(x:Bool) As'=>(x=true↔((ro.n:Int)>0∨(rs.n:Int)>0))∧As'=[Blk b1 [.I exc,ro.v,rs.v,rf.v]]) (fun K hK=>QAA (fun h=>hK _ _ ⟨⟨fun _=>.inl h,fun _=>rfl⟩,rfl⟩) (fun h=>QAE (s:=.slice) (x:=rs) (hv:=rfl) (h:=hK _ _ ⟨by rw[decide_eq_true_iff];exact⟨.inr,fun q=>q.resolve_left h⟩,rfl⟩))) ?_;rintro x _ ⟨hx,rfl⟩
  refine QAS (fun(y:Bool) As'=>(y=true↔((ro.n:Int)>0∨(rs.n:Int)>0∨(rf.n:Int)>0))∧As'=[Blk b1 [.I exc,ro.v,rs.v,rf.v]]) (fun K hK=>xif (fun h=>hK _ _ ⟨⟨fun _=>by have:=hx.1 h;omega,fun _=>rfl⟩,rfl⟩) (fun h=>QAE (s:=.slice) (x:=rf) (hv:=rfl) (h:=hK _ _ ⟨by rw[decide_eq_true_iff];exact⟨fun q=>by omega,fun q=>by
   have:¬((ro.n:Int)>0∨(rs.n:Int)>0):=fun q=>by rw[hx.2 q]at h;cases h
   omega⟩,rfl⟩))) ?_
  rintro y _ ⟨hy,rfl⟩;exact xif (fun h=>QAa (l:=[]) (QAD ⟨by rw[if_pos (hy.1 h)],rfl⟩)) (fun h=>QAa (l:=[]) (QAD ⟨by rw[if_neg fun q=>by rw[hy.2 q]at h;cases h],rfl⟩))
 have hx:exc=0:=by simpa using h
 rw[if_neg (by rw[hx];decide)];refine xgq (xgq (QAE (s:=.slice) (x:=ro) (hv:=rfl) (h:=QAE (s:=.slice) (x:=rs) (hv:=rfl) (h:=QAE (s:=.slice) (x:=rf) (hv:=rfl) (h:=?_)))));refine xd1 (QGv a.code exc ro rs rf) ?_;rw[show (frs.map Sl.n).length=rf.n by simp;omega];refine xif (fun h=>QAa (l:=[]) (QAD ⟨by rw[if_pos h],rfl⟩)) (fun h=>?_);rw[if_neg (by rw[h];decide)];iterate 3 (refine xgq ?_)
 refine QAE (s:=.slice) (x:=so) (hv:=rfl) (h:=QAE (s:=.slice) (x:=ss) (hv:=rfl) (h:=QAE (s:=.slice) (x:=sp) (hv:=rfl) (h:=?_)));refine xgq (QAE (s:=.slice) (x:=ro) (hv:=rfl) (h:=QAE (s:=.slice) (x:=rs) (hv:=rfl) (h:=QAE (s:=.slice) (x:=rf) (hv:=rfl) (h:=?_))));refine xd1 (QG5 a.code a.addr a.count exc so ss sp ro rs rf a.parts (by rcases (QB3 h0).2 with⟨_,_,_,_,q⟩|⟨_,_,_,_,q⟩|⟨_,_,_,_,q⟩|⟨_,_,_,_,q⟩|⟨_,_,_,_,q⟩|⟨_,_,_,_,q⟩|⟨_,_,_,_,q,_⟩<;>first|(rw[q];decide)|omega) frs) ?_;refine xif (fun h=>QAa (l:=[]) (QAD ⟨?_,rfl⟩)) (fun h=>QAa (l:=[]) (QAD ⟨?_,rfl⟩))
 ·rw[if_neg];simpa using h
 ·rw[if_pos];simpa using h
theorem QYR{α:Type}{E:Enc α}{s:Sl}{xs:List α}{l r m:Nat}(h:Rds B F (RAr E s xs))(h1:l≤r)(h2:r≤m)(h3:r≤xs.length):Rds B F (RAr E (s.cut l r m E.sz) ((xs.take r).drop l)):=
 fun w a b c d e f g=>(h w a b c d e f g).cut l r m h1 h2 h3
def QZw(ws:List Int):List UInt8:=UInt8.ofNat (1+2*ws.length)::6::ws.flatMap QCr
def QSw(a:AskV)(r:RepV):Option (List UInt8):=
 if a.code=1∨a.code=2 then some (QEA r.on)
 else if a.code=3∨a.code=4 then some (r.set.flatMap QCr)
 else if a.code=20 then some (r.files.flatMap QZw)
 else none
def QfS(a:AskV)(r:RepV):List UInt8:=
 if r.exc≠0 then [UInt8.ofNat (a.code+128).toNat,UInt8.ofNat r.exc.toNat]
 else match QSw a r with
 | some l=>UInt8.ofNat a.code.toNat::UInt8.ofNat l.length::l
 | none=>(QGG a).take 5
def QHv(a:AskV)(r:RepV):List UInt8:=if r.e a=0 then QfS a r else []
theorem QUp(ws:List Int):(QZw ws).length=2+2*ws.length:=by
 show (ws.flatMap QCr).length+2=_;rw[QEe];omega
theorem QZF{a:AskV}{exc:Int}{no ns:Nat}{fl:List Nat}(h:Qck a exc no ns fl=0):a.e=0∧(exc≠0→1≤exc∧exc≤127)∧(exc=0→QKu a.code no ns fl.length=false∧QHZ a.code a.count a.parts no ns fl=true):=by
 unfold Qck at h;by_cases h0:a.e=0
 ·rw[if_neg (by rw[h0];decide)]at h;refine⟨h0,fun he=>?_,fun he=>?_⟩
  ·rw[if_pos he]at h;obtain⟨n1,_⟩:=QGR (by decide) h;omega
  ·rw[if_neg (by rw[he];decide)]at h;obtain⟨n1,h⟩:=QGR (by decide) h;refine⟨by simpa using n1,?_⟩;by_cases hc:QHZ a.code a.count a.parts no ns fl=true
   ·exact hc
   ·rw[if_neg hc]at h;cases h
 ·rw[if_pos h0]at h;exact absurd h h0
theorem QcR{a:AskV}(h:a.e=0)(hc:5≤a.code)(hc2:a.code≠20):5≤(QGG a).length∧(QGG a).length≤300:=by
 have hk:=(QB3 h).2;have h4:∀x y:Int,(QCr x++QCr y).length=4:=fun _ _=>rfl;unfold QGG QSN;rcases hk with⟨q,_⟩|⟨q,_⟩|⟨q,_⟩|⟨q,_⟩|⟨q,_,hl,_⟩|⟨q,_,_,hl,_⟩|⟨q,_⟩
 ·omega
 ·omega
 ·rw[if_pos q,List.length_cons,h4];omega
 ·rw[if_neg (by omega),if_pos q,List.length_cons,h4];omega
 ·have hb:=QE0 a.on;have:QHA a.on.length=(a.on.length+7) / 8:=rfl;rw[if_neg (by omega),if_neg (by omega),if_pos q];rw[List.length_cons,List.length_append,List.length_append,h4,List.length_singleton];omega
 ·rw[if_neg (by omega),if_neg (by omega),if_neg (by omega),if_pos q];rw[List.length_cons,List.length_append,List.length_append,h4,List.length_singleton,QEe];omega
 ·omega
theorem QNi:∀(ps:List P3) (fs:List Nat) (room:Int),QUD room ps=0→QKE ps fs=true→fs.length=ps.length→(((fs.map fun n=>2+2*n).sum:Nat):Int)≤room
 | [],[],room,h,_,_=>by
  rw[QUD]at h;obtain⟨n1,_⟩:=QGR (by decide) h;simp;omega
 | [],f::fs,room,_,_,hl=>by simp at hl
 | p::ps,[],room,_,hc,_=>by rw[QKE]at hc;cases hc
 | p::ps,f::fs,room,h,hc,hl=>by
  rw[QUD]at h;obtain⟨n1,h⟩:=QGR (by decide) h;rw[QKE]at hc;by_cases hf:(f:Int)=p.2.2
  ·rw[if_neg (by simpa using hf)]at hc;have:=QNi ps fs _ h hc (by simpa using hl);rw[List.map_cons,List.sum_cons]
   push_cast
   omega
  ·rw[if_pos hf]at hc;cases hc
theorem Qby(ws:List (List Int)):(ws.flatMap QZw).length=((ws.map List.length).map fun n=>2+2*n).sum:=by
 induction ws with
 | nil=>rfl
 | cons w ws ih=>rw[List.flatMap_cons,List.length_append,ih,QUp];rfl
abbrev QhN(r:RepV)(ro rs rf:Sl)(frs:List Sl):HP:=(RAr BL ro r.on).and ((RAr W16 rs r.set).and (Qfs rf frs r.files))
def QhJ(r:RepV):Prop:=QNP r.set∧∀ws∈r.files,QNP ws
theorem QTp(a:AskV)(hw:QNP a.set)(so ss sp:Sl)(r:RepV)(hwr:QhJ r)(ro rs rf:Sl)(frs:List Sl):Ct Pr 106 [Qc1 a so ss sp,Qdp r.exc ro rs rf] (.tup [none,none]) [.slice,.I] [] ((askR a so ss sp).and (QhN r ro rs rf frs)) (fun t Bs=>t.2.1=r.e a∧Bs=[Ar U8 t.1 (QHv a r)]):=by
 refine sp2 (QRW _ _ _ _ _ _ _ _ _ _) fun B hg=>?_;obtain⟨⟨ha1,ha2,ha3⟩,hr1,hr2,hr3,hfl,hrow⟩:=hg;haveI:Fro B so BL a.on:=⟨ha1⟩;haveI:Fro B ss W16 a.set:=⟨ha2⟩;haveI:Fro B sp PaE a.parts:=⟨ha3⟩;haveI:Fro B ro BL r.on:=⟨hr1⟩;haveI:Fro B rs W16 r.set:=⟨hr2⟩;haveI:Fro B rf SL frs:=⟨hr3⟩;have ho:a.on.length=so.n:=ha1.1;have hs:a.set.length=ss.n:=ha2.1;have hro:r.on.length=ro.n:=hr1.1;have hrs:r.set.length=rs.n:=hr2.1;have hrf:frs.length=rf.n:=hr3.1
 have hmap:frs.map Sl.n=r.files.map List.length:=by
  apply List.ext_getElem
  ·simpa using hfl
  ·intro i h1 h2;simp only[List.length_map]at h1 h2;rw[List.getElem_map,List.getElem_map];exact (hrow i frs[i] r.files[i] (List.getElem?_eq_getElem h1) (List.getElem?_eq_getElem h2)).1.symm
 unfold QRW mf;dsimp only;refine QAL fun b=>QAL fun b1=>?_;iterate 3 (refine xgq ?_)
 refine QAE (s:=.slice) (x:=so) (hv:=rfl) (h:=QAE (s:=.slice) (x:=ss) (hv:=rfl) (h:=QAE (s:=.slice) (x:=sp) (hv:=rfl) (h:=?_)));refine xgq (QAE (s:=.slice) (x:=ro) (hv:=rfl) (h:=QAE (s:=.slice) (x:=rs) (hv:=rfl) (h:=QAE (s:=.slice) (x:=rf) (hv:=rfl) (h:=?_))));refine xd1 (QO2 a so ss sp ho.symm hs.symm r.exc ro rs rf frs) ?_
 have hE:Qck a r.exc ro.n rs.n (frs.map Sl.n)=r.e a:=by rw[hmap,←hro,←hrs];rfl
 rw[hE];refine xif (fun h=>?_) (fun h=>?_)
 ·have h0:r.e a≠0:=by simpa using h
  refine QB5 0 (QB5 0 (QAd U8 (QAD ⟨rfl,?_⟩)));rw[show QHv a r=[] from if_neg h0]
 have h0:r.e a=0:=by simpa using h
 obtain⟨he,hx1,hx0⟩:=QZF (show Qck a r.exc r.on.length r.set.length (r.files.map List.length)=0 from h0);obtain⟨⟨hd0,hd1⟩,hk⟩:=QB3 he;rw[show QHv a r=QfS a r from if_pos h0]
 have hcode:1≤a.code∧a.code≤20:=by
  rcases hk with⟨q|q,_⟩|⟨q|q,_⟩|⟨q,_⟩|⟨q,_⟩|⟨q,_⟩|⟨q,_⟩|⟨q,_⟩<;>omega
 have u8i:∀x:Int,0≤x→IntKind.u8.wrap x=((UInt8.ofNat x.toNat).toNat:Int):=fun x hx=>by rw[←QAr x.toNat];congr 1;omega
 unfold QfS;refine xgq (xif (fun hx=>?_) (fun hx=>?_))
 ·have hx:r.exc≠0:=by simpa using hx
  have:=hx1 hx;rw[if_pos hx];refine xgq (xgq (QAL fun b2=>?_));rw[QAB (a.code+128) (by omega) (by omega),u8i _ (by omega),u8i _ (by omega)];refine QAe (Q:=Ar U8 ⟨some ⟨b2,0,none⟩,2,2⟩ [UInt8.ofNat (a.code+128).toNat,UInt8.ofNat r.exc.toNat]) 0 (fun g hg=>⟨[],QAm [UInt8.ofNat (a.code+128).toNat,UInt8.ofNat r.exc.toNat] 2 rfl rfl hg⟩) ?_;exact QAK [Ar U8 ⟨some ⟨b2,0,none⟩,2,2⟩ [UInt8.ofNat (a.code+128).toNat,UInt8.ofNat r.exc.toNat]] (QAD ⟨h0.symm,rfl⟩)
 have hx:r.exc=0:=by simpa using hx
 obtain⟨hfo,hco⟩:=hx0 hx;rw[if_neg (by rw[hx];decide)];refine xgq ?_
 have fin:∀{R:List HP}{s:Sl}{l:List UInt8},QSw a r=some l→l.length≤255→Ent B (Ar U8 s l::Blk b1 [.I r.exc,ro.v,rs.v,rf.v]::Blk b [.I a.code,.I a.addr,.I a.count,so.v,ss.v,sp.v]::R)
   (QAq (.I) ⟨b,0,none⟩ fun(n11:Int)=>QDE [.int .u8 (IntKind.u8.wrap n11),.int .u8 (IntKind.u8.wrap (s.n:Int))] 5 fun b4=>QSR Pr 34 34 34 (.slice (some ⟨b4,0,none⟩) 2 2) s.v fun s21=>
    Ret B (ss:=[.slice,.I]) (fun t Bs=>t.2.1=r.e a∧Bs=[Ar U8 t.1 (match QSw a r with|some l=>UInt8.ofNat a.code.toNat::UInt8.ofNat l.length::l|none=>(QGG a).take 5)]) (s21,0,())):=by
  intro R s l hl hle;rw[hl];refine QCm (E:=U8) (xs:=l) s fun hsn _=>?_;refine xgq (QAL fun b4=>?_);rw[u8i a.code (by omega),←hsn,QAr];refine QAe (Q:=Ar U8 ⟨some ⟨b4,0,none⟩,2,2⟩ [UInt8.ofNat a.code.toNat,UInt8.ofNat l.length]) 0 (fun g hg=>⟨[],QAm [UInt8.ofNat a.code.toNat,UInt8.ofNat l.length] 2 rfl rfl hg⟩) ?_;refine QHb (E:=U8) (s:=⟨some ⟨b4,0,none⟩,2,2⟩) (y:=s) (ys:=l) (hb:=by simp;omega) (h:=fun s1=>?_);exact QAK [Ar U8 s1 ([UInt8.ofNat a.code.toNat,UInt8.ofNat l.length]++l)] (QAD ⟨h0.symm,rfl⟩)
 have hcb:=hco;unfold QHZ at hcb;refine QXP (fun h1=>?_) fun h1=>?_
 ·rw[if_pos h1]at hcb;have hcn:(r.on.length:Int)=a.count:=eq_of_beq hcb
  have hbound:a.count≤2000:=by rcases hk with⟨q,hh,_⟩|⟨q,_⟩|⟨q,_⟩|⟨q,_⟩|⟨q,_⟩|⟨q,_⟩|⟨q,_⟩<;>omega
  have hb:=QE0 r.on;have hN:QHA r.on.length=(r.on.length+7) / 8:=rfl;refine QAJ (QBz rfl (QAE (s:=.slice) (x:=ro) (hv:=rfl) (h:=?_)));refine xn1 (L:=fun s=>[Ar U8 s (QEA r.on)]) (QJE ro r.on (by omega)) (fun t Bs hB=>hB) fun p=>?_;exact fin (if_pos h1) (by omega)
 rw[if_neg h1]at hcb;refine QAJ (QBF rfl (QXP (fun h2=>?_) fun h2=>?_))
 ·rw[if_pos h2]at hcb;have hcn:(r.set.length:Int)=a.count:=eq_of_beq hcb
  have hbound:a.count≤125:=by rcases hk with⟨q,_⟩|⟨q,hh,_⟩|⟨q,_⟩|⟨q,_⟩|⟨q,_⟩|⟨q,_⟩|⟨q,_⟩<;>omega
  refine QAJ (QBz rfl (QAE (s:=.slice) (x:=rs) (hv:=rfl) (h:=?_)));refine xn1 (L:=fun s=>[Ar U8 s (r.set.flatMap QCr)]) (QE9 rs r.set hwr.1 (by omega)) (fun t Bs hB=>hB) fun p=>?_;exact fin (by unfold QSw;rw[if_neg h1,if_pos h2]) (by rw[QEe];omega)
 rw[if_neg h2]at hcb;refine QAJ (QBF rfl (xif (fun h3=>?_) (fun h3=>?_)))
 ·have h3:a.code=20:=eq_of_beq h3
  have hch:QUD 245 a.parts=0:=by rcases hk with⟨q,_⟩|⟨q,_⟩|⟨q,_⟩|⟨q,_⟩|⟨q,_⟩|⟨q,_⟩|⟨q,_,_,_,_,hh⟩<;>first|omega|exact hh
  have hfp:(r.files.map List.length).length=a.parts.length:=by
   by_cases q:(r.files.map List.length).length=a.parts.length
   ·exact q
   ·rw[if_pos q]at hcb;cases hcb
  rw[if_neg (by simpa using hfp)]at hcb;have hsum:=QNi a.parts (r.files.map List.length) 245 hch hcb hfp;rw[←Qby]at hsum
  have hpar:a.parts.length≤35:=by rcases hk with⟨q,_⟩|⟨q,_⟩|⟨q,_⟩|⟨q,_⟩|⟨q,_⟩|⟨q,_⟩|⟨q,_,_,_,hh,_⟩<;>omega
  have hlf:r.files.length=a.parts.length:=by simpa using hfp
  refine QAE (s:=.slice) (x:=rf) (hv:=rfl) (h:=QAd U8 ?_);refine QBb (fun n (s:Sl) (x:Int) As'=>∃k:Nat,x=(k:Int)∧n=frs.length - k∧k≤frs.length∧As'=[Ar U8 s ((r.files.take k).flatMap QZw),Blk b1 [.I r.exc,ro.v,rs.v,rf.v],Blk b [.I a.code,.I a.addr,.I a.count,so.v,ss.v,sp.v]]) frs.length ⟨0,rfl,rfl,by omega,rfl⟩ ?_;rintro n s x As' K ⟨k,rfl,rfl,hk,rfl⟩ hK;refine QAA (fun hlt=>?_) (fun hlt=>?_)
  ·have hkl:k<frs.length:=by omega
   have hrl:=hfl;obtain⟨y,hy⟩:∃y,r.files[k]? = some y:=⟨_,List.getElem?_eq_getElem (by omega)⟩;have hmem:y∈r.files:=List.mem_of_getElem? hy
   have etake:(r.files.take (k+1)).flatMap QZw=(r.files.take k).flatMap QZw++QZw y:=by rw[List.take_add_one,hy,List.flatMap_append];simp
   have hle:((r.files.take (k+1)).flatMap QZw).length≤(r.files.flatMap QZw).length:=by
    conv=>rhs;rw[←List.take_append_drop (k+1) r.files,List.flatMap_append,List.length_append]
    omega
   rw[etake,List.length_append,QUp]at hle;refine QAH (E:=SL) (xs:=frs) (s:=rf) (h1:=hkl) (h:=fun q hq=>?_);haveI:Fro B q W16 y:=⟨hrow k q y hq hy⟩;have hqn:y.length=q.n:=(hrow k q y hq hy).1;refine QAN (E:=SL) (xs:=frs) hq (h:=QAL fun b3=>?_);rw[QAB (2*(q.n:Int)) (by omega) (by omega),QAB (1+2*(q.n:Int)) (by omega) (by omega)];rw[show 1+2*(q.n:Int)=((1+2*y.length:Nat):Int) by omega,QAr];refine QAe (Q:=Ar U8 ⟨some ⟨b3,0,none⟩,2,2⟩ [UInt8.ofNat (1+2*y.length),6]) 0 (fun g hg=>⟨[],QAm [UInt8.ofNat (1+2*y.length),6] 2 rfl rfl hg⟩) ?_;refine QHb (E:=U8) (s:=s) (y:=⟨some ⟨b3,0,none⟩,2,2⟩) (hb:=by simp only[List.length_cons,List.length_nil];omega) (h:=fun s1=>?_);refine xn1 (L:=fun s=>[Ar U8 s (y.flatMap QCr)]) (QE9 q y (hwr.2 y hmem) (by omega)) (fun t Bs hB=>hB) fun p=>?_;refine QHb (E:=U8) (s:=s1) (y:=p) (ys:=y.flatMap QCr) (hb:=by rw[List.length_append,QEe];simp only[List.length_cons,List.length_nil];omega) (h:=fun s2=>?_);rw[QAF k (by omega)];refine QAK [Ar U8 s2 ((r.files.take k).flatMap QZw++[UInt8.ofNat (1+2*y.length),6]++y.flatMap QCr),Blk b1 [.I r.exc,ro.v,rs.v,rf.v],Blk b [.I a.code,.I a.addr,.I a.count,so.v,ss.v,sp.v]] (hK (frs.length - (k+1)) _ _ _ (by omega) ⟨k+1,rfl,rfl,by omega,?_⟩);rw[etake,List.append_assoc];rfl
  ·rw[List.take_of_length_le (by omega)];exact fin (by unfold QSw;rw[if_neg h1,if_neg h2,if_pos h3]) (by omega)
 have h3:a.code≠20:=ne_of_beq_false h3
 have hnone:QSw a r=none:=by unfold QSw;rw[if_neg h1,if_neg h2,if_neg h3]
 rw[hnone];obtain⟨h5,h6⟩:=QcR he (by omega) h3;iterate 3 (refine xgq ?_)
 refine QAE (s:=.slice) (x:=so) (hv:=rfl) (h:=QAE (s:=.slice) (x:=ss) (hv:=rfl) (h:=QAE (s:=.slice) (x:=sp) (hv:=rfl) (h:=?_)));refine xn2 (L:=fun s=>[Ar U8 s (QDl a)]) (QFt a hw so ss sp) (fun x y Bs hB=>hB) fun s=>?_;rw[show QDl a=QGG a from if_pos he];refine QCm (E:=U8) (xs:=QGG a) s fun hsn hc=>?_;refine QEh (by omega) (by omega) (by omega) (by omega) ?_;have e5:((QGG a).take 5).drop 0=(QGG a).take 5:=rfl;refine xcl (QSV (s.cut 0 5 s.c 1) ((QGG a).take 5) (by simp;omega)) (QYR (E:=U8) (xs:=QGG a) (l:=0) (r:=5) rdb (by omega) (by omega) (by omega)) ?_;rintro⟨s2,_⟩ _ rfl;refine QA5 (ca1 ?_);exact QAK [Ar U8 s2 ((QGG a).take 5)] (QAD ⟨h0.symm,rfl⟩)
def QZ1(a:AskV):Int:=if a.code=1∨a.code=2 then 2+(a.count+7) / 8 else if a.code=3∨a.code=4 then 2+2*a.count else 5
theorem QMA(a:AskV)(h:a.e=0)(h20:a.code≠20)(so ss sp:Sl):Ct Pr 336 [Qc1 a so ss sp] .one [.I] [] emp (fun t Bs=>t.1=QZ1 a∧Bs=[]):=by
 refine sp1 (QKR _ _ _ _ _ _) fun B _=>?_;obtain⟨_,hk⟩:=QB3 h;unfold QKR mf QZ1;dsimp only;refine QAL fun b=>xgq ?_;refine QXP (fun h1=>QBz rfl (QAE (h:=QA6 (by decide) (QAa (l:=[]) (QAD ⟨?_,rfl⟩))))) fun h1=>QBF rfl ?_
 ·have hb:1≤a.count∧a.count≤2000:=by rcases hk with⟨q,hh,_⟩|⟨q,_⟩|⟨q,_⟩|⟨q,_⟩|⟨q,_⟩|⟨q,_⟩|⟨q,_⟩<;>omega
  rw[if_pos h1,QAB (a.count+7) (by omega) (by omega),Int.tdiv_eq_ediv_of_nonneg (by omega),QAB ((a.count+7) / 8) (by omega) (by omega),QAB _ (by omega) (by omega)]
 rw[if_neg h1];refine QXP (fun h2=>QBz rfl (xgq (QAa (l:=[]) (QAD ⟨?_,rfl⟩)))) fun h2=>QBF rfl (QBF (Qcy h20) (QAa (l:=[]) (QAD ⟨by rw[if_neg h2],rfl⟩)))
 have hb:1≤a.count∧a.count≤125:=by rcases hk with⟨q,_⟩|⟨q,hh,_⟩|⟨q,_⟩|⟨q,_⟩|⟨q,_⟩|⟨q,_⟩|⟨q,_⟩<;>omega
 rw[if_pos h2,QAB (2*a.count) (by omega) (by omega),QAB _ (by omega) (by omega)]
theorem QYd(a:AskV)(h:a.e=0):2≤QZ1 a∧QZ1 a≤500:=by
 obtain⟨_,hk⟩:=QB3 h;unfold QZ1;rcases hk with⟨q,hh,_⟩|⟨q,hh,_⟩|⟨q,_⟩|⟨q,_⟩|⟨q,_⟩|⟨q,_⟩|⟨q,_⟩
 ·rw[if_pos q];omega
 ·rw[if_neg (by omega),if_pos q];omega
 all_goals rw[if_neg (by omega),if_neg (by omega)];omega
abbrev QTo(s:Sh):List Sh:=[.I,.slice,.slice,.slice,s]
def QF9{s:Sh}(r:RepV)(e:s.ty)(t:Tup (QTo s))(Bs:List HP):Prop:=
 t.1=r.exc∧t.2.2.2.1=nilS∧r.files=[]∧t.2.2.2.2.1=e∧Bs=[Ar BL t.2.1 r.on,Ar W16 t.2.2.1 r.set]
def QQo(xs:List UInt8):RepV×Int:=
 if xs.length<2 then (QP9,1) else if xs.length>2 then (QP9,2)
 else if (xs.getD 1 0).toNat=0∨(xs.getD 1 0).toNat≥128 then (QP9,3) else (⟨(xs.getD 1 0).toNat,[],[],[]⟩,0)
theorem QSe{b:Nat}{R:List HP}{e:Int}{v:Int}{post:Tup (QTo (.I))→List HP→Prop}{cs:List Value}(hp:post (v,nilS,nilS,nilS,e,()) [Ar BL nilS [],Ar W16 nilS []])(hc:cs=[.I 0,.slice none 0 0,.slice none 0 0,.slice none 0 0]) :
  Ent B (Blk b cs::R) (QBG ⟨b,0,none⟩ (.I v)<|QBG ⟨b,1,none⟩ (.slice none 0 0)<|QBG ⟨b,2,none⟩ (.slice none 0 0)<|QBG ⟨b,3,none⟩ (.slice none 0 0)<|QAq (.I) ⟨b,0,none⟩ fun(v4:Int)=>QAq .slice ⟨b,1,none⟩ fun v5=>QAq .slice ⟨b,2,none⟩ fun v6=>QAq .slice ⟨b,3,none⟩ fun v7=>Ret B (ss:=QTo (.I)) post (v4,v5,v6,v7,e,())):=by
 subst hc;iterate 4 (refine xsq ?_)
 refine xgq (xgS (h:=xgS (h:=xgS (h:=?_))));exact QAd W16 (QAd BL (QAK [Ar BL nilS [],Ar W16 nilS []] (QAD hp)))
theorem QND(b:Sl)(xs:List UInt8):Ct Pr 335 [b.v] (.tup [some 4,none]) (QTo (.I)) [] (RAr U8 b xs) (QF9 (QQo xs).1 (QQo xs).2):=by
 refine QAg (ss:=QTo (.I)) (φ:=fun K=>(QEP _ K).1) (fun h=>cf _ rfl (by kernel_rfl) h) fun B hg=>?_;show Ent B [] (QEP b fun x0 x1 x2 x3 x4=>Ret B (ss:=QTo (.I)) (QF9 (QQo xs).1 (QQo xs).2) (x0,x1,x2,x3,x4,()));haveI:Fro B b U8 xs:=⟨hg⟩;have hn:=hg.1;unfold QEP mf;dsimp only
 have bad:∀{b1:Nat}{R:List HP}{e:Int},QQo xs=(QP9,e)→Ent B (Blk b1 [.I 0,.slice none 0 0,.slice none 0 0,.slice none 0 0]::R) (QBG ⟨b1,0,none⟩ (.I 0)<|QBG ⟨b1,1,none⟩ (.slice none 0 0)<|QBG ⟨b1,2,none⟩ (.slice none 0 0)<|QBG ⟨b1,3,none⟩ (.slice none 0 0)<|QAq (.I) ⟨b1,0,none⟩ fun(v4:Int)=>QAq .slice ⟨b1,1,none⟩ fun v5=>QAq .slice ⟨b1,2,none⟩ fun v6=>QAq .slice ⟨b1,3,none⟩ fun v7=>Ret B (ss:=QTo (.I)) (QF9 (QQo xs).1 (QQo xs).2) (v4,v5,v6,v7,e,())):=by
  intro b1 R e he;rw[he];exact QSe ⟨rfl,rfl,rfl,rfl,rfl⟩ rfl
 refine QAL fun b1=>QAA (fun h=>bad (by unfold QQo;rw[if_pos (by omega)])) (fun h=>QAA (fun h2=>bad (by unfold QQo;rw[if_neg (by omega),if_pos (by omega)])) (fun h2=>?_))
 have hl:xs.length=2:=by omega
 refine QAH (E:=U8) (xs:=xs) (s:=b) (k:=1) (h1:=by omega) (h:=fun _ _=>?_);refine QAN (E:=U8) (xs:=xs) (i:=1) (gdE (d:=0) (by omega)) (h:=?_);have hcl:=(xs.getD 1 0).toNat_lt;refine QAS (fun(x:Bool) As'=>(x=true↔((xs.getD 1 0).toNat=0∨(xs.getD 1 0).toNat≥128))∧As'=[Blk b1 [.I 0,.slice none 0 0,.slice none 0 0,.slice none 0 0]]) (fun K hK=>xif (fun h=>hK _ _ ⟨⟨fun _=>.inl (by have:=eq_of_beq h;omega),fun _=>rfl⟩,rfl⟩) (fun h=>?_)) ?_
 ·refine QAH (E:=U8) (xs:=xs) (s:=b) (k:=1) (h1:=by omega) (h:=fun _ _=>?_);refine QAN (E:=U8) (xs:=xs) (i:=1) (gdE (d:=0) (by omega)) (h:=hK _ _ ⟨?_,rfl⟩);have:=ne_of_beq_false h;rw[decide_eq_true_iff];omega
 rintro x _ ⟨hx,rfl⟩;refine xif (fun h=>bad (by unfold QQo;rw[if_neg (by omega),if_neg (by omega),if_pos (hx.1 h)])) (fun h=>?_);refine QAH (E:=U8) (xs:=xs) (s:=b) (k:=1) (h1:=by omega) (h:=fun _ _=>?_);refine QAN (E:=U8) (xs:=xs) (i:=1) (gdE (d:=0) (by omega)) (h:=?_);rw[QWK ((xs.getD 1 0).toNat:Int) (by omega) (by omega)]
 have he:QQo xs=(⟨(xs.getD 1 0).toNat,[],[],[]⟩,0):=by unfold QQo;rw[if_neg (by omega),if_neg (by omega),if_neg fun q=>by rw[hx.2 q]at h;cases h]
 rw[he];exact QSe ⟨rfl,rfl,rfl,rfl,rfl⟩ rfl
theorem QGj(n k:Nat)(b4 b2:Nat)(s:Sl)(h:k+n≤s.n)(hc:s.n≤s.c)(hm:s.n≤1000):Ct Pr 427 [.I (n:Int),.pointer (some ⟨b4,0,none⟩),.pointer (some ⟨b2,0,none⟩)] .one [.slice] [Blk b4 [.I (k:Int)],Blk b2 [s.v]] emp
  (fun t Bs=>t.1=s.cut k (k+n) s.c 1∧Bs=[Blk b4 [.I ((k+n:Nat):Int)],Blk b2 [s.v]]):=by
 refine sp1 (QJ3 _ _ _) fun B _=>?_;unfold QJ3 mf;dsimp only;refine xgq ?_;rw[QAB ((k:Int)+n) (by omega) (by omega),show (k:Int)+n=((k+n:Nat):Int) by omega];refine xsq (QAE (s:=.slice) (x:=s) (hv:=rfl) (h:=xgq (xgq ?_)));rw[show IntKind.i64.wrap (((k+n:Nat):Int) - n)=(k:Int) by rw[QAB _ (by omega) (by omega)];omega];refine QEh (by omega) (by omega) (by omega) (by omega) ?_;exact QAD ⟨by simp only[Int.toNat_natCast],rfl⟩
def QBo(a:AskV)(xs:List UInt8):RepV×Bool:=
 if a.code≥5 then (QP9,eqM ((QGG a).take 5) xs)
 else if ((xs.getD 1 0).toNat:Int)≠(xs.length:Int) - 2 then (QP9,false)
 else if a.code=1∨a.code=2 then (⟨0,(QB9 (xs.drop 2) a.count.toNat).1,[],[]⟩,(QB9 (xs.drop 2) a.count.toNat).2 == 0)
 else (⟨0,[],(QCp (xs.drop 2)).1,[]⟩,(QCp (xs.drop 2)).2 == 0)
theorem QRA(a:AskV)(hw:QNP a.set)(h0:a.e=0)(h20:a.code≠20)(so ss sp:Sl)(b:Sl)(xs:List UInt8)(hl:(xs.length:Int)=QZ1 a)(hcap:b.n≤b.c):Ct Pr 337 [Qc1 a so ss sp,b.v] (.tup [some 4,none]) (QTo .bool) [] ((RAr U8 b xs).and (askR a so ss sp)) (QF9 (QBo a xs).1 (QBo a xs).2):=by
 refine QAg (ss:=QTo .bool) (φ:=fun K=>(QJr _ _ _ _ _ _ _ K).1) (fun h=>cf _ rfl (by kernel_rfl) h) fun B hg=>?_;show Ent B [] (QJr a.code a.addr a.count so ss sp b fun x0 x1 x2 x3 x4=>Ret B (ss:=QTo .bool) (QF9 (QBo a xs).1 (QBo a xs).2) (x0,x1,x2,x3,x4,()));obtain⟨hb,ha1,ha2,ha3⟩:=hg;haveI:Fro B b U8 xs:=⟨hb⟩;haveI:Fro B so BL a.on:=⟨ha1⟩;haveI:Fro B ss W16 a.set:=⟨ha2⟩;haveI:Fro B sp PaE a.parts:=⟨ha3⟩;have hn:=hb.1;have hbd:=QYd a h0;obtain⟨_,hk⟩:=QB3 h0;unfold QJr mf;dsimp only;refine QAL fun b1=>QAL fun b2=>QAL fun b3=>QAL fun b4=>xsq (QAL fun b5=>xgq ?_)
 refine QAS (fun(x:Bool) As'=>(x=true↔a.code≥5)∧As'=[Blk b5 [.I 0,.slice none 0 0,.slice none 0 0,.slice none 0 0],Blk b4 [.I 1],Blk b3 [.I 0,.slice none 0 0,.slice none 0 0,.slice none 0 0],Blk b2 [b.v],Blk b1 [.I a.code,.I a.addr,.I a.count,so.v,ss.v,sp.v]])
  (fun K hK=>QAA (fun h=>QAE (h:=hK _ _ ⟨by rw[bne_iff_ne];exact⟨fun _=>h,fun _=>h20⟩,rfl⟩)) (fun h=>hK _ _ ⟨by simp;omega,rfl⟩)) ?_
 rintro x _ ⟨hx,rfl⟩;refine xif (fun h=>?_) (fun h=>?_)
 ·have h5:a.code≥5:=hx.1 h;have hq:QBo a xs=(QP9,eqM ((QGG a).take 5) xs):=if_pos h5;rw[hq];have hbl:=QcR h0 h5 h20
  have hl5:QZ1 a=5:=by unfold QZ1;rw[if_neg (by omega),if_neg (by omega)]
  iterate 3 (refine xgq ?_)
  refine QAE (s:=.slice) (x:=so) (hv:=rfl) (h:=QAE (s:=.slice) (x:=ss) (hv:=rfl) (h:=QAE (s:=.slice) (x:=sp) (hv:=rfl) (h:=?_)));refine xn2 (L:=fun s=>[Ar U8 s (QDl a)]) (QFt a hw so ss sp) (fun x y Bs hB=>hB) fun s3=>?_;rw[show QDl a=QGG a from if_pos h0];refine QCm (E:=U8) (xs:=QGG a) s3 fun hsn hc=>?_;refine QAO (xgq (xgS (h:=xgS (h:=xgS (h:=?_)))));refine QEh (by omega) (by omega) (by omega) (by omega) ?_;refine QAE (s:=.slice) (x:=b) (hv:=rfl) (h:=?_);refine xcl (QW6 (s3.cut 0 5 s3.c 1) b ((QGG a).take 5) xs (by simp;omega) (by omega)) (QB1 (QYR (E:=U8) (xs:=QGG a) (l:=0) (r:=5) rdb (by omega) (by omega) (by omega)) rdb) ?_;rintro⟨c1,_⟩ _ ⟨h1,rfl⟩;simp only at h1;subst h1;refine QAy (ca1 ?_);iterate 4 (refine QC6 (h:=?_))
  iterate 4 (refine xsq ?_)
  refine xgq (xgS (h:=xgS (h:=xgS (h:=?_))));exact QAd W16 (QAd BL (QAK [Ar BL nilS [],Ar W16 nilS []] (QAD ⟨rfl,rfl,rfl,rfl,rfl⟩)))
 have h5:¬a.code≥5:=fun q=>by rw[hx.2 q]at h;cases h
 have hlx:2≤xs.length:=by omega
 refine QAO (QAE (s:=.slice) (x:=b) (hv:=rfl) (h:=?_));refine xd1 (QGj 1 1 b4 b2 b (by omega) hcap (by omega)) ?_;have hc1:=hb.cut 1 (1+1) b.c (by omega) (by omega) (by omega);haveI:Fro B (b.cut 1 (1+1) b.c 1) U8 ((xs.take (1+1)).drop 1):=⟨hc1⟩;refine QC6 (h:=?_);have hcl:=(xs.getD 1 0).toNat_lt;refine QAH (E:=U8) (xs:=(xs.take (1+1)).drop 1) (s:=b.cut 1 (1+1) b.c 1) (k:=0) (h1:=by simp;omega) (h:=fun _ _=>?_);refine QAN (E:=U8) (xs:=(xs.take (1+1)).drop 1) (i:=0) (x:=xs.getD 1 0) (by rw[List.getElem?_drop,List.getElem?_take,if_pos (by omega)];exact gdE (by omega)) (h:=?_);rw[QWK ((xs.getD 1 0).toNat:Int) (by omega) (by omega),QAB ((b.n:Int) - 2) (by omega) (by omega)];refine xif (fun h=>?_) (fun h=>?_)
 ·have hne:((xs.getD 1 0).toNat:Int)≠(xs.length:Int) - 2:=by have:¬((xs.getD 1 0).toNat:Int)=(b.n:Int) - 2:=bne_iff_ne.1 h;omega
  have hq:QBo a xs=(QP9,false):=by unfold QBo;rw[if_neg h5,if_pos hne]
  rw[hq];refine xgq (xgS (h:=xgS (h:=xgS (h:=?_))));iterate 4 (refine xsq ?_)
  refine xgq (xgS (h:=xgS (h:=xgS (h:=?_))));exact QAd W16 (QAd BL (QAK [Ar BL nilS [],Ar W16 nilS []] (QAD ⟨rfl,rfl,rfl,rfl,rfl⟩)))
 have heq:((xs.getD 1 0).toNat:Int)=(xs.length:Int) - 2:=by
  have:((xs.getD 1 0).toNat:Int)=(b.n:Int) - 2:=by
   by_cases q:((xs.getD 1 0).toNat:Int)=(b.n:Int) - 2
   ·exact q
   ·rw[bne_iff_ne.2 q]at h;cases h
  omega
 have hc2:=hb.cut (1+1) (1+1+(b.n - 2)) b.c (by omega) (by omega) (by omega);rw[show (xs.take (1+1+(b.n - 2))).drop (1+1)=xs.drop 2 by rw[List.take_of_length_le (by omega)]]at hc2
 have en:IntKind.i64.wrap ((b.n:Int) - 2)=((b.n - 2:Nat):Int):=by rw[QAB _ (by omega) (by omega)];omega
 obtain⟨r,hr⟩:∃r,QBo a xs=r:=⟨_,rfl⟩;rw[hr];refine xgq ?_
 have fin:∀{s1 s2:Sl}{c:Bool}{R:List HP},r.1.exc=0∧r.1.files=[]→c=r.2→Ent B (Ar BL s1 r.1.on::Ar W16 s2 r.1.set::Blk b5 [.I 0,s1.v,s2.v,.slice none 0 0]::Blk b3 [.I 0,.slice none 0 0,.slice none 0 0,.slice none 0 0]::R)
   (QAq (.I) ⟨b5,0,none⟩ fun(n12:Int)=>QAq .slice ⟨b5,1,none⟩ fun s24=>QAq .slice ⟨b5,2,none⟩ fun s25=>QAq .slice ⟨b5,3,none⟩ fun s26=>QBG ⟨b3,0,none⟩ (.I n12)<|QBG ⟨b3,1,none⟩ s24.v<|QBG ⟨b3,2,none⟩ s25.v<|QBG ⟨b3,3,none⟩ s26.v<|QAq (.I) ⟨b3,0,none⟩ fun(v8:Int)=>QAq .slice ⟨b3,1,none⟩ fun v9=>QAq .slice ⟨b3,2,none⟩ fun v10=>QAq .slice ⟨b3,3,none⟩ fun v11=>Ret B (ss:=QTo .bool) (QF9 r.1 r.2) (v8,v9,v10,v11,c,())):=by
  rintro s1 s2 c R ⟨e1,e2⟩ rfl;refine xgq (QAE (s:=.slice) (x:=s1) (hv:=rfl) (h:=QAE (s:=.slice) (x:=s2) (hv:=rfl) (h:=xgS (h:=?_))));iterate 4 (refine xsq ?_)
  refine xgq (QAE (s:=.slice) (x:=s1) (hv:=rfl) (h:=QAE (s:=.slice) (x:=s2) (hv:=rfl) (h:=xgS (h:=?_))));exact QAK [Ar BL s1 r.1.on,Ar W16 s2 r.1.set] (QAD ⟨e1.symm,rfl,e2,rfl,rfl⟩)
 haveI:Fro B (b.cut (1+1) (1+1+(b.n - 2)) b.c 1) U8 (xs.drop 2):=⟨hc2⟩;refine QXP (fun h1=>?_) fun h1=>?_
 ·have hbd2:1≤a.count∧a.count≤2000:=by rcases hk with⟨q,hh,_⟩|⟨q,_⟩|⟨q,_⟩|⟨q,_⟩|⟨q,_⟩|⟨q,_⟩|⟨q,_⟩<;>omega
  refine QAJ (QBz rfl (QAO (QAE (s:=.slice) (x:=b) (hv:=rfl) (h:=xgq ?_))));rw[en];refine xd1 (QGj (b.n - 2) (1+1) b4 b2 b (by omega) hcap (by omega)) (QC6 (h:=?_));obtain⟨c,hc⟩:∃c:Nat,a.count=(c:Int):=⟨a.count.toNat,by omega⟩
  obtain rfl:(⟨0,(QB9 (xs.drop 2) c).1,[],[]⟩,(QB9 (xs.drop 2) c).2 == 0)=r:=by
   rw[←hr];unfold QBo;rw[if_neg h5,if_neg (by rw[heq];simp),if_pos h1,hc];rfl
  rw[show (Value.int .i64 a.count)=.I (c:Int) by rw[hc]];refine xcl (QLv (b.cut (1+1) (1+1+(b.n - 2)) b.c 1) (xs.drop 2) c (by omega)) rdb ?_;rintro⟨s16,(r1:Int),_⟩ _ ⟨hr1,rfl⟩;simp only at hr1;subst hr1;refine QA5 (ca2 (xsq ?_));refine QAd W16 (QAU [Ar BL s16 (QB9 (xs.drop 2) c).1,Ar W16 nilS [],Blk b5 [.I 0,s16.v,nilS.v,.slice none 0 0],Blk b3 [.I 0,.slice none 0 0,.slice none 0 0,.slice none 0 0]] ?_);exact fin ⟨rfl,rfl⟩ (Bool.true_and _)
 refine QAJ (QBF rfl (QXP (fun h2=>?_) fun h2=>absurd h2 ?_))
 ·refine QAJ (QBz rfl (QAE (s:=.slice) (x:=b) (hv:=rfl) (h:=?_)));rw[en];refine xd1 (QGj (b.n - 2) (1+1) b4 b2 b (by omega) hcap (by omega)) ?_
  obtain rfl:(⟨0,[],(QCp (xs.drop 2)).1,[]⟩,(QCp (xs.drop 2)).2 == 0)=r:=by
   rw[←hr];unfold QBo;rw[if_neg h5,if_neg (by rw[heq];simp),if_neg h1]
  refine xcl (QGt (b.cut (1+1) (1+1+(b.n - 2)) b.c 1) (xs.drop 2) (by simp;omega)) rdb ?_;rintro⟨s16,(r1:Int),_⟩ _ ⟨hr1,rfl⟩;simp only at hr1;subst hr1;refine QA5 (ca2 (xsq ?_));refine QAd BL (QAU [Ar BL nilS [],Ar W16 s16 (QCp (xs.drop 2)).1,Blk b5 [.I 0,nilS.v,s16.v,.slice none 0 0],Blk b3 [.I 0,.slice none 0 0,.slice none 0 0,.slice none 0 0]] ?_);exact fin ⟨rfl,rfl⟩ (Bool.true_and _)
 ·rcases hk with⟨q,hh,_⟩|⟨q,hh,_⟩|⟨q,_⟩|⟨q,_⟩|⟨q,_⟩|⟨q,_⟩|⟨q,_⟩<;>omega
def QBp(a:AskV)(xs:List UInt8):RepV×Int:=
 if a.e≠0 then (QP9,a.e) else if xs.length=0 then (QP9,1)
 else if ((xs.getD 0 0).toNat:Int)=a.code+128 then QQo xs
 else if ((xs.getD 0 0).toNat:Int)≠a.code then (QP9,20)
 else if (xs.length:Int)<QZ1 a then (QP9,1) else if (xs.length:Int)>QZ1 a then (QP9,2)
 else if (QBo a xs).2=true then ((QBo a xs).1,0) else (QP9,4)
theorem QTG(a:AskV)(hw:QNP a.set)(h20:a.code≠20)(so ss sp:Sl)(b:Sl)(xs:List UInt8)(hcap:b.n≤b.c):Ct Pr 237 [Qc1 a so ss sp,b.v] (.tup [some 4,none]) (QTo (.I)) [] ((RAr U8 b xs).and (askR a so ss sp)) (QF9 (QBp a xs).1 (QBp a xs).2):=by
 refine QAg (ss:=QTo (.I)) (φ:=fun K=>(QLe _ _ _ _ _ _ _ K).1) (fun h=>cf _ rfl (by kernel_rfl) h) fun B hg=>?_;show Ent B [] (QLe a.code a.addr a.count so ss sp b fun x0 x1 x2 x3 x4=>Ret B (ss:=QTo (.I)) (QF9 (QBp a xs).1 (QBp a xs).2) (x0,x1,x2,x3,x4,()));obtain⟨hb,ha1,ha2,ha3⟩:=hg;haveI:Fro B b U8 xs:=⟨hb⟩;haveI:Fro B so BL a.on:=⟨ha1⟩;haveI:Fro B ss W16 a.set:=⟨ha2⟩;haveI:Fro B sp PaE a.parts:=⟨ha3⟩;have hn:=hb.1;have ho:a.on.length=so.n:=ha1.1;have hs:a.set.length=ss.n:=ha2.1
 have bad:∀{b1:Nat}{R:List HP}{e:Int},QBp a xs=(QP9,e)→Ent B (Blk b1 [.I 0,.slice none 0 0,.slice none 0 0,.slice none 0 0]::R) (QBG ⟨b1,0,none⟩ (.I 0)<|QBG ⟨b1,1,none⟩ (.slice none 0 0)<|QBG ⟨b1,2,none⟩ (.slice none 0 0)<|QBG ⟨b1,3,none⟩ (.slice none 0 0)<|QAq (.I) ⟨b1,0,none⟩ fun(v4:Int)=>QAq .slice ⟨b1,1,none⟩ fun v5=>QAq .slice ⟨b1,2,none⟩ fun v6=>QAq .slice ⟨b1,3,none⟩ fun v7=>Ret B (ss:=QTo (.I)) (QF9 (QBp a xs).1 (QBp a xs).2) (v4,v5,v6,v7,e,())):=by
  intro b1 R e he;rw[he];exact QSe ⟨rfl,rfl,rfl,rfl,rfl⟩ rfl
 unfold QLe mf;dsimp only;refine QAL fun b1=>QAL fun b2=>?_;iterate 3 (refine xgq ?_)
 refine QAE (s:=.slice) (x:=so) (hv:=rfl) (h:=QAE (s:=.slice) (x:=ss) (hv:=rfl) (h:=QAE (s:=.slice) (x:=sp) (hv:=rfl) (h:=?_)));refine xd1 (QGl a.code a.addr a.count so ss sp a.parts) ?_;rw[←ho,←hs,show askE a.code a.addr a.count a.on.length a.set.length a.parts=a.e from rfl];refine xif (fun h=>bad (if_pos (by simpa using h))) (fun h=>?_)
 have h0:a.e=0:=by simpa using h
 have hbd:=QYd a h0
 have hcode:1≤a.code∧a.code≤20:=by
  rcases (QB3 h0).2 with⟨q|q,_⟩|⟨q|q,_⟩|⟨q,_⟩|⟨q,_⟩|⟨q,_⟩|⟨q,_⟩|⟨q,_⟩<;>omega
 refine xif (fun h=>bad ?_) (fun h=>?_)
 ·have:=eq_of_beq h;unfold QBp;rw[if_neg (by rw[h0];decide),if_pos (by omega)]
 have hne:xs.length≠0:=by have:=ne_of_beq_false h;omega
 have hcl:=(xs.getD 0 0).toNat_lt;refine QAO ?_;refine QAH (E:=U8) (xs:=xs) (s:=b) (k:=0) (h1:=by omega) (h:=fun _ _=>?_);refine QAN (E:=U8) (xs:=xs) (i:=0) (gdE (d:=0) (by omega)) (h:=xgq ?_);rw[QWK ((xs.getD 0 0).toNat:Int) (by omega) (by omega),QAB (a.code+128) (by omega) (by omega)];refine xif (fun h=>?_) (fun h=>?_)
 ·have hq:QBp a xs=QQo xs:=by unfold QBp;rw[if_neg (by rw[h0];decide),if_neg hne,if_pos (eq_of_beq h)]
  rw[hq];refine xcl (QND b xs) rdb ?_;rintro⟨v0,s1,s2,v3,v4,_⟩ _ ⟨h1,h2,h3,h4,rfl⟩;simp only at h1 h2 h4;subst h1 h2 h4;refine QBM (ca5 ?_);iterate 4 (refine xsq ?_)
  refine xgq (QAE (s:=.slice) (x:=s1) (hv:=rfl) (h:=QAE (s:=.slice) (x:=s2) (hv:=rfl) (h:=xgS (h:=?_))));exact QAK [Ar BL s1 (QQo xs).1.on,Ar W16 s2 (QQo xs).1.set] (QAD ⟨rfl,rfl,h3,rfl,rfl⟩)
 have n1:=ne_of_beq_false h;refine QAO ?_;refine QAH (E:=U8) (xs:=xs) (s:=b) (k:=0) (h1:=by omega) (h:=fun _ _=>?_);refine QAN (E:=U8) (xs:=xs) (i:=0) (gdE (d:=0) (by omega)) (h:=xgq ?_);rw[QWK ((xs.getD 0 0).toNat:Int) (by omega) (by omega)];refine xif (fun h=>bad ?_) (fun h=>?_)
 ·unfold QBp;rw[if_neg (by rw[h0];decide),if_neg hne,if_neg n1,if_pos (bne_iff_ne.1 h)]
 have n2:((xs.getD 0 0).toNat:Int)=a.code:=by
  by_cases q:((xs.getD 0 0).toNat:Int)=a.code
  ·exact q
  ·rw[bne_iff_ne.2 q]at h;cases h
 iterate 3 (refine xgq ?_)
 refine QAE (s:=.slice) (x:=so) (hv:=rfl) (h:=QAE (s:=.slice) (x:=ss) (hv:=rfl) (h:=QAE (s:=.slice) (x:=sp) (hv:=rfl) (h:=?_)));refine xd1 (QMA a h0 h20 so ss sp) (QAA (fun h=>bad ?_) (fun h=>?_))
 ·unfold QBp;rw[if_neg (by rw[h0];decide),if_neg hne,if_neg n1,if_neg (by rw[n2];simp),if_pos (by omega)]
 iterate 3 (refine xgq ?_)
 refine QAE (s:=.slice) (x:=so) (hv:=rfl) (h:=QAE (s:=.slice) (x:=ss) (hv:=rfl) (h:=QAE (s:=.slice) (x:=sp) (hv:=rfl) (h:=?_)));refine xd1 (QMA a h0 h20 so ss sp) (QAA (fun h=>bad ?_) (fun h2=>?_))
 ·unfold QBp;rw[if_neg (by rw[h0];decide),if_neg hne,if_neg n1,if_neg (by rw[n2];simp),if_neg (by omega),if_pos (by omega)]
 iterate 3 (refine xgq ?_)
 refine QAE (s:=.slice) (x:=so) (hv:=rfl) (h:=QAE (s:=.slice) (x:=ss) (hv:=rfl) (h:=QAE (s:=.slice) (x:=sp) (hv:=rfl) (h:=?_)));refine xcl (QRA a hw h0 h20 so ss sp b xs (by omega) hcap) rdb ?_;rintro⟨v0,s1,s2,v3,v4,_⟩ _ ⟨h1,h2,h3,h4,rfl⟩;simp only at h1 h2 h4;subst h1 h2 h4;refine QBM (ca5 (QAL fun b3=>?_));iterate 4 (refine xsq ?_)
 refine xif (fun h=>?_) (fun h=>?_)
 ·have hq:QBp a xs=((QBo a xs).1,0):=by unfold QBp;rw[if_neg (by rw[h0];decide),if_neg hne,if_neg n1,if_neg (by rw[n2];simp),if_neg (by omega),if_neg (by omega),if_pos h]
  rw[hq];refine xgq (QAE (s:=.slice) (x:=s1) (hv:=rfl) (h:=QAE (s:=.slice) (x:=s2) (hv:=rfl) (h:=xgS (h:=?_))));iterate 4 (refine xsq ?_)
  refine xgq (QAE (s:=.slice) (x:=s1) (hv:=rfl) (h:=QAE (s:=.slice) (x:=s2) (hv:=rfl) (h:=xgS (h:=?_))));exact QAK [Ar BL s1 (QBo a xs).1.on,Ar W16 s2 (QBo a xs).1.set] (QAD ⟨rfl,rfl,h3,rfl,rfl⟩)
 ·refine QAU [Blk b2 [.I 0,.slice none 0 0,.slice none 0 0,.slice none 0 0]] (bad ?_);unfold QBp;rw[if_neg (by rw[h0];decide),if_neg hne,if_neg n1,if_neg (by rw[n2];simp),if_neg (by omega),if_neg (by omega),if_neg (by rw[h];decide)]
end Go.Cx
