import Derived.Test.YthbhbkjkclhkgaaGreatDoorP1
import Derived.Test.YthbhbkjkclhkgaaGreatDoorA3
namespace Go.Cx
open Go Go.Cf
set_option linter.unusedVariables false
set_option maxRecDepth 100000
variable {B:QBE}{As F:List HP}{α:Type}
structure PkV where
 kind:Int
 epoch:Int
 seq:Int
 id:Int
 code:Int
 body:List UInt8
abbrev pk0:PkV:=⟨0,0,0,0,0,[]⟩
def Qg8(p:PkV):Prop:=
 (p.kind=1∧p.id=0∧p.code=0∧(1≤p.epoch∧p.epoch≤1099511627776)∧(0≤p.seq∧p.seq<1099511627776)∧1≤p.body.length∧p.body.length≤1024) ∨
 (p.kind=2∧p.id=0∧p.code=0∧(1≤p.epoch∧p.epoch≤1099511627776)∧(0≤p.seq∧p.seq≤1099511627776)∧p.body=[]) ∨
 (p.kind=3∧p.epoch=0∧p.seq=0∧p.code=0∧(1≤p.id∧p.id≤1099511627776)∧2≤p.body.length∧p.body.length≤254) ∨
 (p.kind=4∧p.epoch=0∧p.seq=0∧(1≤p.id∧p.id≤1099511627776)∧(0≤p.code∧p.code≤255)∧p.body=[])
abbrev Qdv(p:PkV)(s:Sl):Value:=.agg #[.I p.kind,.I p.epoch,.I p.seq,.I p.id,.I p.code,s.v]
def pkE(p:PkV)(nb:Nat):Int:=
 if p.kind=1 then (if p.id≠0∨p.code≠0 then 23 else if p.epoch<1∨p.epoch>1099511627776∨p.seq<0∨p.seq>1099511627776∨p.seq=1099511627776 then 3 else if (nb:Int)<1 then 1 else if (nb:Int)>1024 then 2 else 0)
 else if p.kind=2 then (if p.id≠0∨p.code≠0∨(nb:Int)>0 then 23 else if p.epoch<1∨p.epoch>1099511627776∨p.seq<0∨p.seq>1099511627776 then 3 else 0)
 else if p.kind=3 then (if bits .or .i64 p.epoch p.seq≠0∨p.code≠0 then 23 else if p.id<1∨p.id>1099511627776∨p.code<0∨p.code>255 then 3 else if (nb:Int)<2 then 1 else if (nb:Int)>254 then 2 else 0)
 else if p.kind=4 then (if bits .or .i64 p.epoch p.seq≠0∨(nb:Int)>0 then 23 else if p.id<1∨p.id>1099511627776∨p.code<0∨p.code>255 then 3 else 0)
 else 28
theorem QF0(p:PkV)(s:Sl):Ct Pr 101 [Qdv p s] .one [.I] [] emp (fun t Bs=>t.1=pkE p s.n∧Bs=[]):=by
 refine QGr QM2 fun B _=>?_;obtain⟨kind,epoch,seq,id,code,body⟩:=p;unfold QKQ pkE
 (try simp only)
 refine QAL fun b=>xgq ?_;have fin:∀{As:List HP}{x y:Int},x=y→Ent B As (Ret B (ss:=[.I]) (fun t Bs=>t.1=y∧Bs=[]) (x,())):=fun h=>QAa (l:=[]) (QAD ⟨h,rfl⟩);by_cases h1:kind=1
 ·subst h1;rw[if_pos rfl]
  repeat' (first
   | refine QAJ ?_
   | refine xgq ?_
   | refine QAE (s:=.slice) (x:=s) (hv:=rfl) (h:=?_)
   | refine QQ3 ?_
   | refine QBz rfl ?_
   | refine QBF rfl ?_
   | refine QAA (fun _=>?_) (fun _=>?_)
   | refine xif (fun _=>?_) (fun _=>?_)
   | refine fin ?_)
  all_goals simp_all
  all_goals omega
 by_cases h2:kind=2
 ·subst h2;rw[if_neg (by decide),if_pos rfl]
  repeat' (first
   | refine QAJ ?_
   | refine xgq ?_
   | refine QAE (s:=.slice) (x:=s) (hv:=rfl) (h:=?_)
   | refine QQ3 ?_
   | refine QBz rfl ?_
   | refine QBF rfl ?_
   | refine QAA (fun _=>?_) (fun _=>?_)
   | refine xif (fun _=>?_) (fun _=>?_)
   | refine fin ?_)
  all_goals simp_all
  all_goals omega
 by_cases h3:kind=3
 ·subst h3;rw[if_neg (by decide),if_neg (by decide),if_pos rfl]
  repeat' (first
   | refine QAJ ?_
   | refine xgq ?_
   | refine QAE (s:=.slice) (x:=s) (hv:=rfl) (h:=?_)
   | refine QQ3 ?_
   | refine QBz rfl ?_
   | refine QBF rfl ?_
   | refine QAA (fun _=>?_) (fun _=>?_)
   | refine xif (fun _=>?_) (fun _=>?_)
   | refine fin ?_)
  all_goals simp_all
  all_goals omega
 by_cases h4:kind=4
 ·subst h4;rw[if_neg (by decide),if_neg (by decide),if_neg (by decide),if_pos rfl]
  repeat' (first
   | refine QAJ ?_
   | refine xgq ?_
   | refine QAE (s:=.slice) (x:=s) (hv:=rfl) (h:=?_)
   | refine QQ3 ?_
   | refine QBz rfl ?_
   | refine QBF rfl ?_
   | refine QAA (fun _=>?_) (fun _=>?_)
   | refine xif (fun _=>?_) (fun _=>?_)
   | refine fin ?_)
  all_goals simp_all
  all_goals omega
 rw[if_neg h1,if_neg h2,if_neg h3,if_neg h4];exact QAJ (QBF (Qcy h1) (QXP (fun q=>by omega) fun _=>QAJ (QBF rfl (QBF (Qcy h3) (fin rfl)))))
def QdH(p:PkV):List UInt8:=if p.kind=3 then QPg p.id.toNat else if p.kind=4 then QPg p.id.toNat++[UInt8.ofNat p.code.toNat] else QPg p.epoch.toNat++QPg p.seq.toNat
def QfU(p:PkV):List UInt8:=(UInt8.ofNat p.kind.toNat::QdH p)++p.body
def QXM(p:PkV):List UInt8:=QUF (QfU p)
theorem QO3(v:Nat):(QPg v).length=8:=QPv v 8
theorem QHL{R:List HP}{b1 b2:Nat}(k:UInt8)(vs:List Nat)(n:Nat)(hn:vs.length=n)(h2:n≤2){cells:List Value}(hc:QAf I64 (vs.map fun(v:Nat)=>(v:Int))=cells)[q:Split [Blk b1 [.int .u8 (k.toNat:Int)],Blk b2 cells] As R]{K:Sl→WP}
  (h:∀s1,Ent B (Ar U8 s1 (k::vs.flatMap QPg)::R) (K s1)):Ent B As (QAb Pr 155 [.slice (some ⟨b1,0,none⟩) 1 1,.slice (some ⟨b2,0,none⟩) n n] .one [.slice] K):=by
 refine Ent.perm q.perm (QBM ?_);refine QAe (Q:=Ar U8 ⟨some ⟨b1,0,none⟩,1,1⟩ [k]) 0 (fun g hg=>⟨[],QAm [k] 1 rfl rfl hg⟩) ?_;refine QAe (Q:=Ar I64 ⟨some ⟨b2,0,none⟩,n,n⟩ (vs.map fun(v:Nat)=>(v:Int))) 1 (fun g hg=>⟨[],QAm (vs.map fun(v:Nat)=>(v:Int)) n (by simpa using hn) hc hg (by omega)⟩) ?_;refine xn1 (L:=fun s=>[Ar U8 s (k::vs.flatMap QPg)]) (QP0 ⟨some ⟨b1,0,none⟩,1,1⟩ [k] ⟨some ⟨b2,0,none⟩,n,n⟩ vs (by simp) (by omega)) (fun x Bs hB=>hB) fun s=>?_;exact QB5 1 (h s)
theorem Qf5{p:PkV}(hz:p.kind=3∨p.kind=4→p.epoch=0∧p.seq=0)(h:pkE p p.body.length=0):Qg8 p:=by
 unfold pkE at h;by_cases h1:p.kind=1
 ·rw[if_pos h1]at h;obtain⟨n1,h⟩:=QGR (by decide) h;obtain⟨n2,h⟩:=QGR (by decide) h;obtain⟨n3,h⟩:=QGR (by decide) h;obtain⟨n4,_⟩:=QGR (by decide) h;exact .inl ⟨h1,by omega,by omega,by omega,by omega,by omega,by omega⟩
 rw[if_neg h1]at h;have nil:∀{l:List UInt8},¬(l.length:Int)>0→l=[]:=fun {l} h=>List.eq_nil_of_length_eq_zero (by omega);by_cases h2:p.kind=2
 ·rw[if_pos h2]at h;obtain⟨n1,h⟩:=QGR (by decide) h;obtain⟨n2,h⟩:=QGR (by decide) h;exact .inr (.inl ⟨h2,by omega,by omega,by omega,by omega,nil (by omega)⟩)
 rw[if_neg h2]at h;by_cases h3:p.kind=3
 ·rw[if_pos h3]at h;obtain⟨n1,h⟩:=QGR (by decide) h;obtain⟨n2,h⟩:=QGR (by decide) h;obtain⟨n3,h⟩:=QGR (by decide) h;obtain⟨n4,_⟩:=QGR (by decide) h;exact .inr (.inr (.inl ⟨h3,(hz (.inl h3)).1,(hz (.inl h3)).2,by omega,by omega,by omega,by omega⟩))
 rw[if_neg h3]at h;by_cases h4:p.kind=4
 ·rw[if_pos h4]at h;obtain⟨n1,h⟩:=QGR (by decide) h;obtain⟨n2,h⟩:=QGR (by decide) h;exact .inr (.inr (.inr ⟨h4,(hz (.inr h4)).1,(hz (.inr h4)).2,by omega,by omega,nil (by omega)⟩))
 rw[if_neg h4]at h;cases h
def QA8(p:PkV):List UInt8:=if pkE p p.body.length=0 then QXM p else []
theorem QMf(p:PkV)(hz:p.kind=3∨p.kind=4→p.epoch=0∧p.seq=0)(s:Sl):Ct Pr 97 [Qdv p s] (.tup [none,none]) [.slice,.I] [] (RAr U8 s p.body) (fun t Bs=>t.2.1=pkE p p.body.length∧Bs=[Ar U8 t.1 (QA8 p)]):=by
 refine sp2 (QNv _ _ _ _ _ _) fun B hr=>?_;haveI:Fro B s U8 p.body:=⟨hr⟩;have hs:=hr.1;unfold QNv mf;dsimp only;refine QAL fun b=>?_;iterate 5 (refine xgq ?_)
 refine QAE (s:=.slice) (x:=s) (hv:=rfl) (h:=?_);refine xd1 (QF0 p s) ?_;rw[←hs];refine xif (fun h0=>?_) (fun h0=>?_)
 ·have h0:pkE p p.body.length≠0:=by simpa using h0
  refine QB5 0 (QAd U8 (QAD ⟨rfl,?_⟩));rw[show QA8 p=[] from if_neg h0]
 have h0:pkE p p.body.length=0:=by simpa using h0
 have h:=Qf5 hz h0;rw[show QA8 p=QXM p from if_pos h0];refine xgq (QAL fun b1=>xgq ?_)
 have hk:IntKind.u8.wrap p.kind=((UInt8.ofNat p.kind.toNat).toNat:Int):=by rcases h with⟨e,_⟩|⟨e,_⟩|⟨e,_⟩|⟨e,_⟩<;>rw[e] <;> rfl
 have hbl:p.body.length≤1024:=by rcases h with⟨_,_,_,_,_,_,e⟩|⟨_,_,_,_,_,e⟩|⟨_,_,_,_,_,_,e⟩|⟨_,_,_,_,_,e⟩<;>first|omega|(rw[e];decide)
 have hhl:(QdH p).length≤16:=by unfold QdH;split <;> (try split)<;>simp[QO3]
 have nat:∀{x:Int},0≤x→((x.toNat:Nat):Int)=x:=fun h=>by omega
 rw[hk];refine QAS (fun(x:Bool) As'=>x=((p.kind == 1)||(p.kind == 2))∧As'=[Blk b1 [.int .u8 ((UInt8.ofNat p.kind.toNat).toNat:Int)],Blk b [.I p.kind,.I p.epoch,.I p.seq,.I p.id,.I p.code,s.v]]) (fun K hK=>?_) ?_
 ·refine xif (fun e=>hK _ _ ⟨by rw[e];rfl,rfl⟩) (fun e=>hK _ _ ⟨by rw[e];rfl,rfl⟩)
 rintro _ _ ⟨rfl,rfl⟩;refine QAS (fun(s1:Sl) As'=>As'=[Ar U8 s1 (UInt8.ofNat p.kind.toNat::QdH p),Blk b [.I p.kind,.I p.epoch,.I p.seq,.I p.id,.I p.code,s.v]]) (fun K hK=>?_) ?_
 ·unfold QdH at hK;rcases h with⟨e,h1,h2,h3,h4,h5⟩|⟨e,h1,h2,h3,h4,h5⟩|⟨e,h1,h2,h3,h4,h5⟩|⟨e,h1,h2,h3,h4,h5⟩
  ·rw[if_neg (by omega),if_neg (by omega)]at hK;refine QBz (by rw[e];rfl) (xgq (xgq (QAL fun b2=>?_)));refine QHL (UInt8.ofNat p.kind.toNat) [p.epoch.toNat,p.seq.toNat] 2 rfl (by decide) (cells:=[.I p.epoch,.I p.seq]) (by show [Value.int .i64 ((p.epoch.toNat:Nat):Int),Value.int .i64 ((p.seq.toNat:Nat):Int)]=_;rw[nat (by omega),nat (by omega)]) fun s1=>?_;exact hK _ _ (by simp only[List.flatMap_cons,List.flatMap_nil,List.append_nil])
  ·rw[if_neg (by omega),if_neg (by omega)]at hK;refine QBz (by rw[e];rfl) (xgq (xgq (QAL fun b2=>?_)));refine QHL (UInt8.ofNat p.kind.toNat) [p.epoch.toNat,p.seq.toNat] 2 rfl (by decide) (cells:=[.I p.epoch,.I p.seq]) (by show [Value.int .i64 ((p.epoch.toNat:Nat):Int),Value.int .i64 ((p.seq.toNat:Nat):Int)]=_;rw[nat (by omega),nat (by omega)]) fun s1=>?_;exact hK _ _ (by simp only[List.flatMap_cons,List.flatMap_nil,List.append_nil])
  ·rw[if_pos e]at hK;refine QBF (by rw[e];rfl) (QAJ (QBz (by rw[e];rfl) (xgq (QAL fun b2=>?_))));refine QHL (UInt8.ofNat p.kind.toNat) [p.id.toNat] 1 rfl (by decide) (cells:=[.I p.id]) (by show [Value.int .i64 ((p.id.toNat:Nat):Int)]=_;rw[nat (by omega)]) fun s1=>?_;exact hK _ _ (by simp only[List.flatMap_cons,List.flatMap_nil,List.append_nil])
  ·rw[if_neg (by omega),if_pos e]at hK;refine QBF (by rw[e];rfl) (QAJ (QBF (by rw[e];rfl) (QAO (QAJ (xgq (xgq ?_))))));rw[show IntKind.u8.wrap p.code=((UInt8.ofNat p.code.toNat).toNat:Int) by rw[←QAr p.code.toNat];congr 1;omega]
   have hc64:QAf I64 ([p.id.toNat].map fun(v:Nat)=>(v:Int))=[.I p.id]:=by show [Value.int .i64 ((p.id.toNat:Nat):Int)]=_;rw[nat (by omega)]
   have leaf:∀{R:List HP}{As:List HP}(b6:Nat) (s3:Sl),[Split [Ar U8 s3 (UInt8.ofNat p.kind.toNat::[p.id.toNat].flatMap QPg),Blk b6 [.int .u8 ((UInt8.ofNat p.code.toNat).toNat:Int)],Blk b [.I p.kind,.I p.epoch,.I p.seq,.I p.id,.I p.code,s.v]] As R] →
     Ent B As (QSR Pr 34 34 34 s3.v (.slice (some ⟨b6,0,none⟩) 1 1) fun s4=>K s4):=by
    intro R As b6 s3 q;refine Ent.perm q.perm (QQA ?_);refine QAe (Q:=Ar U8 ⟨some ⟨b6,0,none⟩,1,1⟩ [UInt8.ofNat p.code.toNat]) 1 (fun g hg=>⟨[],QAm [UInt8.ofNat p.code.toNat] 1 rfl rfl hg⟩) ?_;refine QHb (E:=U8) (s:=s3) (y:=⟨some ⟨b6,0,none⟩,1,1⟩) (ys:=[UInt8.ofNat p.code.toNat]) (hb:=by simp[QO3]) (h:=fun s4=>?_);exact QAK [Ar U8 s4 ((UInt8.ofNat p.kind.toNat::[p.id.toNat].flatMap QPg)++[UInt8.ofNat p.code.toNat]),Blk b [.I p.kind,.I p.epoch,.I p.seq,.I p.id,.I p.code,s.v]] (hK _ _ (by simp))
   refine QXT (QAL fun b5=>QXT ?_ ?_) (QAL fun b8=>QAL fun b9=>?_)
   ·exact QHL (UInt8.ofNat p.kind.toNat) [p.id.toNat] 1 rfl (by decide) hc64 fun s3=>QC6 (h:=QAL fun b6=>leaf b6 s3)
   ·exact QAL fun b7=>QHL (UInt8.ofNat p.kind.toNat) [p.id.toNat] 1 rfl (by decide) hc64 fun s3=>QC6 (h:=leaf b7 s3)
   ·exact QHL (UInt8.ofNat p.kind.toNat) [p.id.toNat] 1 rfl (by decide) hc64 fun s3=>QC6 (h:=leaf b8 s3)
 rintro s1 _ rfl;refine QAE (s:=.slice) (x:=s) (hv:=rfl) (h:=?_);refine QHb (E:=U8) (s:=s1) (y:=s) (ys:=p.body) (hb:=by simp;omega) (h:=fun s2=>?_);refine xn1 (L:=fun s=>[Ar U8 s (QXM p)]) (QS4 s2 ((UInt8.ofNat p.kind.toNat::QdH p)++p.body) (by simp;omega)) (fun x Bs hB=>hB) fun s3=>?_;exact QAK [Ar U8 s3 (QXM p)] (QAD ⟨h0.symm,rfl⟩)
theorem rdc{E:Enc α}{s:Sl}{xs:List α}{G:List HP}(h:Rds B G (RAr E s xs))(l r m:Nat)(h1:l≤r)(h2:r≤m)(h3:r≤xs.length):Rds B G (RAr E (s.cut l r m E.sz) ((xs.take r).drop l)):=
 fun w hp hF a b c d e=>(h w hp hF a b c d e).cut l r m h1 h2 h3
def QNI(xs:List UInt8):Int:=IntKind.i64.wrap (beV (xs.take 8):Int)
theorem QQg(b:Sl)(xs:List UInt8)(hx:8≤xs.length)(hcap:b.n≤b.c):Ct Pr 100 [b.v] .one [.I] [] (RAr U8 b xs) (fun t Bs=>t.1=QNI xs∧Bs=[]):=by
 refine sp1 (QIh _) fun B hr=>?_;have hn:=hr.1;unfold QIh mf;dsimp only;refine QX3 rfl (by omega) (by omega) ?_;have hc:=hr.cut 0 8 b.c (by omega) (by omega) hx;rw[QHM]at hc;haveI fc:Fro B ⟨b.p,8,b.c⟩ U8 (xs.take 8):=⟨by simpa using hc⟩
 have hq:(xs.take 8).length=8:=by simp;omega
 refine QBb (fun(n:Nat) (v:Int) (i:Int) As=>∃k:Nat,i=(k:Int)∧v=((beV ((xs.take 8).take k):Nat):Int)∧n=8 - k∧k≤8∧As=[]) 8 ⟨0,rfl,rfl,rfl,by omega,rfl⟩ ?_;rintro n _ _ _ K ⟨k,rfl,rfl,rfl,hk,rfl⟩ hK;refine QAA (fun h=>?_) (fun h=>?_)
 ·have hk8:k<8:=by have h:(k:Int)<((8:Nat):Int):=h;omega
  have hy:=List.getElem?_eq_getElem (l:=xs.take 8) (i:=k) (by omega);refine QAH (E:=U8) (xs:=xs.take 8) (s:=⟨b.p,8,b.c⟩) (k:=k) (h1:=by omega) (h:=fun _ _=>?_);refine QAN (E:=U8) (xs:=xs.take 8) (i:=k) hy (h:=QA6 (by decide) ?_);rw[QfW _ _ (QJH hq hk8),QAF k (by omega)];exact hK (8 - (k+1)) _ _ _ (by omega) ⟨k+1,rfl,by rw[QKp hy],rfl,by omega,rfl⟩
 ·have hk8:k=8:=by have h:¬(k:Int)<((8:Nat):Int):=h;omega
  subst hk8;rw[show (xs.take 8).take 8=xs.take 8 from List.take_of_length_le (by omega)];exact QAD ⟨rfl,rfl⟩
theorem Qek{cs:List Value}{s:Sh}{x:s.ty}{n k:Nat}{K:s.ty→WP}(hk:k<n)(hx:cs[k]? = some (s.mk x))(h:Ent B As (K x)):Ent B As (QRs cs (k:Int) n s K):=
 fun w hw=>⟨by omega,by omega,x,by rw[Int.toNat_natCast];exact hx,h w hw⟩
abbrev PkT:List Sh:=[.I,.I,.I,.I,.I,.slice,.I]
def QMJ(p:PkV)(e:Int)(t:Tup PkT)(Bs:List HP):Prop:=
 t.1=p.kind∧t.2.1=p.epoch∧t.2.2.1=p.seq∧t.2.2.2.1=p.id∧t.2.2.2.2.1=p.code∧t.2.2.2.2.2.2.1=e∧Bs=[Ar U8 t.2.2.2.2.2.1 p.body]
abbrev pkC(k e q i c:Int)(s:Sl):List Value:=[.I k,.I e,.I q,.I i,.I c,s.v]
def QHz(k:Nat):Nat:=if k=1∨k=2 then 17 else if k=3 then 9 else 10
def pkF(k:Nat)(ys:List UInt8):PkV:=
 if k=1∨k=2 then ⟨k,QNI (ys.drop 1),QNI (ys.drop 9),0,0,if k=1 then ys.drop 17 else []⟩
 else if k=4 then ⟨4,0,0,QNI (ys.drop 1),(ys.getD 9 0).toNat,[]⟩
 else ⟨3,0,0,QNI (ys.drop 1),0,ys.drop 9⟩
def QAi(xs:List UInt8):PkV×Int:=
 if xs.length<5 then (pk0,1) else if (QEU xs).1≠0 then (pk0,(QEU xs).1) else
 let ys:=(QEU xs).2
 let k:=(ys.getD 0 0).toNat
 if k<1∨k>4 then (pk0,28) else if ys.length<QHz k then (pk0,1)
 else if (k=2∨k=4)∧ys.length>QHz k then (pk0,2)
 else if pkE (pkF k ys) (pkF k ys).body.length≠0 then (pk0,pkE (pkF k ys) (pkF k ys).body.length) else (pkF k ys,0)
theorem QX9{xs:List UInt8}(h5:5≤xs.length)(h:(QEU xs).1=0):(QEU xs).2=xs.take (xs.length - 4):=by
 unfold QEU at h⊢;rw[if_neg (by omega)]at h⊢;split
 ·rfl
 ·rename_i q
  rw[if_neg q]at h;cases h
theorem QFz(xs:List UInt8)(hm:xs.length≤1000000)(b:Sl)(hcap:b.n≤b.c):Ct Pr 35 [b.v] (.tup [some 6,none]) PkT [] (RAr U8 b xs) (QMJ (QAi xs).1 (QAi xs).2):=by
 refine QAg (ss:=PkT) (φ:=fun K=>(QJ0 _ K).1) (fun h=>cf _ rfl (by kernel_rfl) h) fun B hr=>?_;show Ent B [] (QJ0 b fun x0 x1 x2 x3 x4 x5 x6=>Ret B (ss:=PkT) (QMJ (QAi xs).1 (QAi xs).2) (x0,x1,x2,x3,x4,x5,x6,()));haveI:Fro B b U8 xs:=⟨hr⟩;have hn:=hr.1;obtain⟨g,hg⟩:∃g,QAi xs=g:=⟨_,rfl⟩;rw[hg]
 have bad:∀{b1:Nat}{R:List HP}{e:Int},g=(pk0,e)→Ent B (Blk b1 (pkC 0 0 0 0 0 nilS)::R) (QBG ⟨b1,0,none⟩ (.I 0)<|QBG ⟨b1,1,none⟩ (.I 0)<|QBG ⟨b1,2,none⟩ (.I 0)<|QBG ⟨b1,3,none⟩ (.I 0)<|QBG ⟨b1,4,none⟩ (.I 0)<|QBG ⟨b1,5,none⟩ (.slice none 0 0)<|QAq (.I) ⟨b1,0,none⟩ fun(v:Int)=>QAq (.I) ⟨b1,1,none⟩ fun(v1:Int)=>QAq (.I) ⟨b1,2,none⟩ fun(v2:Int)=>QAq (.I) ⟨b1,3,none⟩ fun(v3:Int)=>QAq (.I) ⟨b1,4,none⟩ fun(v4:Int)=>QAq .slice ⟨b1,5,none⟩ fun v5=>Ret B (ss:=PkT) (QMJ g.1 g.2) (v,v1,v2,v3,v4,v5,e,())):=by
  rintro b1 R e rfl;iterate 6 (refine xsq ?_)
  iterate 5 (refine xgq ?_)
  refine xgS (h:=?_);exact QAd U8 (QAK [Ar U8 nilS []] (QAD ⟨rfl,rfl,rfl,rfl,rfl,rfl,rfl⟩))
 unfold QJ0 mf;dsimp only;unfold QAi at hg;refine QAL fun b1=>QAA (fun h=>bad (by rw[←hg,if_pos (by omega)])) (fun h=>?_)
 have h5:5≤xs.length:=by omega
 rw[if_neg (by omega)]at hg;refine xcl (QTS b xs hm hcap) rdb ?_;rintro⟨s,(r:Int),_⟩ _ ⟨hr1,rfl⟩;simp only at hr1;subst hr1;refine QA5 (ca2 (xif (fun h=>QB5 0 (bad ?_)) (fun h=>?_)))
 ·rw[←hg,if_pos (by simpa using h)]
 have ho:(QEU xs).1=0:=by simpa using h
 rw[if_neg (by rw[ho];decide)]at hg;have hys:=QX9 h5 ho
 generalize (QEU xs).2=ys at *
 have hyl:ys.length=xs.length - 4:=by rw[hys,List.length_take];omega
 clear hys;simp only at hg;have hcl:=(ys.getD 0 0).toNat_lt
 generalize hk:(ys.getD 0 0).toNat=k at *
 refine QCm (E:=U8) (xs:=ys) s fun hsn hsc=>?_;refine QAH (E:=U8) (xs:=ys) (s:=s) (k:=0) (h1:=by omega) (h:=fun _ _=>?_);refine QAN (E:=U8) (xs:=ys) (i:=0) (gdE (d:=0) (by omega)) (h:=QAL fun b2=>?_);rw[hk,QWK (k:Int) (by omega) (by omega)];iterate 6 (refine xsq ?_)
 refine xgq (QQ3 (xif (fun h=>?_) (fun h=>?_)))
 ·refine QAU [Blk b1 (pkC 0 0 0 0 0 nilS)] (bad ?_);rw[←hg,if_pos (by simp at h;omega)]
 have hk4:1≤k∧k≤4:=by simp at h;omega
 rw[if_neg (by omega)]at hg;refine xgq ?_;refine Qek (s:=.I) (x:=((QHz k:Nat):Int)) (by omega) ?_ ?_
 ·obtain e|e|e|e:k=1∨k=2∨k=3∨k=4:=by omega
  all_goals subst e;rfl
 refine QAA (fun h=>?_) (fun h=>?_)
 ·refine QAU [Blk b1 (pkC 0 0 0 0 0 nilS)] (bad ?_);rw[←hg,if_pos (by omega)]
 rw[if_neg (by omega)]at hg
 have hh9:9≤QHz k∧(k=1∨k=2→QHz k=17)∧(k=4→QHz k=10)∧(k=3→QHz k=9):=by
  obtain e|e|e|e:k=1∨k=2∨k=3∨k=4:=by omega
  all_goals subst e;decide
 obtain⟨hh9,hh17,hh10,hh3⟩:=hh9;refine xgq ?_
 have hcut:∀i:Nat,(ys.take s.n).drop i=ys.drop i:=fun i=>by rw[List.take_of_length_le (by omega)]
 have num:∀{As:List HP}{K:Int→WP}(i:Nat),i+8≤ys.length→[Rdb B As (RAr U8 s ys)]→Ent B As (K (QNI (ys.drop i)))→Ent B As (QAb Pr 100 [(s.cut i s.n s.c 1).v] .one [.I] K):=by
  intro As K i hl _ hK
  have hdl:8≤((ys.take s.n).drop i).length:=by rw[hcut i,List.length_drop];omega
  refine QAR (QQg (s.cut i s.n s.c 1) ((ys.take s.n).drop i) hdl (by unfold Sl.cut;split<;>simp only<;>omega)) (rdc rdb i s.n s.c (by omega) hsc (by omega)) ?_;rintro⟨t,_⟩ _ ⟨ht,rfl⟩;rw[hcut i]at ht;simp only at ht;subst ht;exact QAy (ca1 hK)
 have slc:∀{As:List HP}{K:Sl→WP}(i:Nat),i≤s.n→Ent B As (K (s.cut i s.n s.c 1))→Ent B As (QQU s (i:Int) (s.n:Int) (s.c:Int) 1 K):=fun i hi hK=>by
  refine QEh (by omega) (by omega) (by omega) (by omega) ?_;simpa only[Int.toNat_natCast]using hK
 have hkd:(pkF k ys).kind=(k:Int):=by
  unfold pkF;split
  ·rfl
  ·split
   ·simp only;omega
   ·simp only;omega
 refine QAU [Blk b2 (pkC k 0 0 0 0 nilS),Blk b1 (pkC 0 0 0 0 0 nilS),Ar U8 s ys] ?_;refine QAK [Blk b2 (pkC k 0 0 0 0 nilS),Blk b1 (pkC 0 0 0 0 0 nilS),Ar U8 s ys] ?_
 have J:∀{As:List HP}{K:Bool→WP},Ent B As (K (decide (k=1∨k=2)))→Ent B As (QBc [.bool] (fun(K':Bool→WP)=>XIf ((k:Int) == 1) (K' ((k:Int) == 1)) (K' ((k:Int) == 2))) K):=by
  intro As K hK;refine QXP (fun h=>?_) (fun h=>?_)
  ·rw[decide_eq_true (by omega)]at hK;exact hK
  ·rw[decide_eq_false (by omega)]at hK;exact hK
 refine J ?_
 generalize hP:pkF k ys=P at *
 refine QBu (fun As'=>As'=[Blk b2 (pkC P.kind P.epoch P.seq P.id P.code nilS),Blk b1 (pkC 0 0 0 0 0 nilS),Ar U8 s ys]) (fun K hK=>?_) ?_
 ·refine QAA (fun e=>?_) (fun e=>?_)
  ·have hl:=hh17 e
   obtain rfl:(⟨k,QNI (ys.drop 1),QNI (ys.drop 9),0,0,if k=1 then ys.drop 17 else []⟩:PkV)=P:=by rw[←hP];unfold pkF;rw[if_pos e]
   exact QAO (slc 1 (by omega) (slc 9 (by omega) (num 1 (by omega) (num 9 (by omega) (xsq (xsq (hK _ rfl)))))))
  ·refine QAJ (xif (fun e4=>?_) (fun e4=>?_))
   ·have e4:k=4:=by have:=eq_of_beq e4;omega
    have hl:=hh10 e4
    obtain rfl:(⟨4,0,0,QNI (ys.drop 1),(ys.getD 9 0).toNat,[]⟩:PkV)=P:=by rw[←hP];unfold pkF;rw[if_neg e,if_pos e4]
    subst e4;have c9:ys[9]? = some (ys.getD 9 0):=gdE (by omega);refine QAO (slc 1 (by omega) ?_);refine QAH (E:=U8) (xs:=ys) (s:=s) (k:=9) (h1:=by omega) (h:=fun _ _=>?_);refine QAN (E:=U8) (xs:=ys) (i:=9) c9 (h:=?_);have:=(ys.getD 9 0).toNat_lt;rw[QWK ((ys.getD 9 0).toNat:Int) (by omega) (by omega)];refine num 1 (by omega) (QM1 (E:=U8) (xs:=ys) (i:=9) c9 (h:=xsq ?_));exact QM1 (E:=U8) (xs:=ys) (i:=9) c9 (h:=xsq (hK _ rfl))
   ·have e4:k≠4:=by have:=ne_of_beq_false e4;omega
    obtain rfl:(⟨3,0,0,QNI (ys.drop 1),0,ys.drop 9⟩:PkV)=P:=by rw[←hP];unfold pkF;rw[if_neg e,if_neg e4]
    have:=hh3 (by omega);refine slc 1 (by omega) (num 1 (by omega) (xsq (hK _ ?_)));rw[show (k:Int)=3 by omega]
 rintro _ rfl;rw[hkd];refine xgq (QAS (fun(x:Bool) As'=>(x=true↔(k=1∨k=3))∧As'=[Blk b2 (pkC k P.epoch P.seq P.id P.code nilS),Blk b1 (pkC 0 0 0 0 0 nilS),Ar U8 s ys]) (fun K hK=>?_) ?_)
 ·exact xif (fun e=>hK _ _ ⟨⟨fun _=>.inl (by have:=eq_of_beq e;omega),fun _=>rfl⟩,rfl⟩) (fun e=>QAE (h:=hK _ _ ⟨by have:=ne_of_beq_false e;rw[beq_iff_eq];omega,rfl⟩))
 rintro c1 _ ⟨hc1,rfl⟩
 have hbody:(k=1∨k=3→P.body=ys.drop (QHz k))∧(¬(k=1∨k=3)→P.body=[]):=by
  rw[←hP]
  obtain e|e|e|e:k=1∨k=2∨k=3∨k=4:=by omega
  all_goals subst e;exact⟨fun h=>by first|rfl|omega,fun h=>by first|rfl|omega⟩
 refine QBu (fun As'=>¬((k=2∨k=4)∧ys.length>QHz k)∧∃s':Sl,As'=[Blk b2 (pkC k P.epoch P.seq P.id P.code s'),Blk b1 (pkC 0 0 0 0 0 nilS),Ar U8 s' P.body]) (fun K hK=>?_) ?_
 ·refine xif (fun e=>?_) (fun e=>?_)
  ·have e:=hc1.1 e;refine slc (QHz k) (by omega) (xsq ?_);refine QAU [Ar U8 s ys] (QAe (Q:=Ar U8 (s.cut (QHz k) s.n s.c 1) P.body) 0 (fun g hg=>?_) ?_)
   ·obtain⟨z,hz⟩:=hg;have:=Ars.dropc hz (QHz k) (by omega);rw[←hbody.1 e]at this;exact⟨z,this⟩
   ·exact QAU [Blk b2 _,Blk b1 _,Ar U8 (s.cut (QHz k) s.n s.c 1) P.body] (hK _ ⟨by omega,_,rfl⟩)
  ·have e:¬(k=1∨k=3):=fun q=>by rw[hc1.2 q]at e;cases e
   refine QAA (fun h2=>?_) (fun h2=>?_)
   ·refine QAU [Blk b1 (pkC 0 0 0 0 0 nilS)] (bad ?_);rw[←hg,if_pos (by omega)]
   ·refine QB5 2 (QAd U8 (QAU [Blk b2 _,Blk b1 _,Ar U8 nilS []] (hK _ ⟨by omega,nilS,by rw[hbody.2 e]⟩)))
 rintro _ ⟨hno,s',rfl⟩;rw[if_neg hno]at hg;iterate 5 (refine xgq ?_)
 refine QAE (s:=.slice) (x:=s') (hv:=rfl) (h:=?_);refine QAU [Ar U8 s' P.body] (QCm (E:=U8) (xs:=P.body) s' fun hs' _=>?_);rw[←hkd];refine xd1 (QF0 P s') ?_;rw[←hs'];refine xif (fun h=>?_) (fun h=>?_)
 ·refine QAU [Blk b1 (pkC 0 0 0 0 0 nilS)] (bad ?_);rw[←hg,if_pos (by simpa using h)]
 rw[if_neg (by simpa using h)]at hg;iterate 5 (refine xgq ?_)
 refine QAE (s:=.slice) (x:=s') (hv:=rfl) (h:=?_);iterate 6 (refine xsq ?_)
 iterate 5 (refine xgq ?_)
 refine QAE (s:=.slice) (x:=s') (hv:=rfl) (h:=?_);subst hg;exact QAK [Ar U8 s' P.body] (QAD ⟨rfl,rfl,rfl,rfl,rfl,rfl,rfl⟩)
end Go.Cx
namespace Go.Cx
open Go Go.Cf
set_option linter.unusedVariables false
set_option maxRecDepth 100000
variable {B:QBE}{As F:List HP}
structure QKZ where
 id:Int
 unit:Int
 a:AskV
abbrev QZ7:QKZ:=⟨0,0,Qb6⟩
abbrev cmC(c:QKZ)(so ss sp:Sl):List Value:=[.I c.id,.I c.unit,.I c.a.code,.I c.a.addr,.I c.a.count,so.v,ss.v,sp.v]
def QCU(c:QKZ):PkV×Int:=
 if c.id<1∨c.id>1099511627776 then (pk0,3) else if c.unit<1∨c.unit>247 then (pk0,24)
 else if c.a.e≠0 then (pk0,c.a.e) else if QOz c.a.code=false then (pk0,20)
 else (⟨3,0,0,c.id,0,UInt8.ofNat c.unit.toNat::QGG c.a⟩,0)
theorem QUb(a:AskV)(h:a.e=0):(QGG a).length≤300:=by
 have hk:=(QB3 h).2;have h4:∀x y:Int,(QCr x++QCr y).length=4:=fun _ _=>rfl;unfold QGG QSN;rcases hk with⟨q,_⟩|⟨q,_⟩|⟨q,_⟩|⟨q,_⟩|⟨q,_,hl,_⟩|⟨q,_,_,hl,_⟩|⟨q,_,_,_,hl,_⟩
 ·rw[if_neg (by omega),if_neg (by omega),if_neg (by omega),if_neg (by omega),if_neg (by omega),List.length_cons,h4];omega
 ·rw[if_neg (by omega),if_neg (by omega),if_neg (by omega),if_neg (by omega),if_neg (by omega),List.length_cons,h4];omega
 ·rw[if_pos q,List.length_cons,h4];omega
 ·rw[if_neg (by omega),if_pos q,List.length_cons,h4];omega
 ·have hb:=QE0 a.on;have:QHA a.on.length=(a.on.length+7) / 8:=rfl;rw[if_neg (by omega),if_neg (by omega),if_pos q];rw[List.length_cons,List.length_append,List.length_append,h4,List.length_singleton];omega
 ·rw[if_neg (by omega),if_neg (by omega),if_neg (by omega),if_pos q];rw[List.length_cons,List.length_append,List.length_append,h4,List.length_singleton,QEe];omega
 ·rw[if_neg (by omega),if_neg (by omega),if_neg (by omega),if_neg (by omega),if_pos q];rw[List.length_cons,List.length_cons,QNw];omega
theorem QMU(c:QKZ)(hw:QNP c.a.set)(so ss sp:Sl):Ct Pr 45 [.agg (cmC c so ss sp).toArray] (.tup [some 6,none]) PkT [] (askR c.a so ss sp) (QMJ (QCU c).1 (QCU c).2):=by
 refine QAg (ss:=PkT) (φ:=fun K=>(QDJ _ _ _ _ _ _ _ _ K).1) (fun h=>cf _ rfl (by kernel_rfl) h) fun B hr=>?_;show Ent B [] (QDJ c.id c.unit c.a.code c.a.addr c.a.count so ss sp fun x0 x1 x2 x3 x4 x5 x6=>Ret B (ss:=PkT) (QMJ (QCU c).1 (QCU c).2) (x0,x1,x2,x3,x4,x5,x6,()));obtain⟨ha1,ha2,ha3⟩:=hr;haveI:Fro B so BL c.a.on:=⟨ha1⟩;haveI:Fro B ss W16 c.a.set:=⟨ha2⟩;haveI:Fro B sp PaE c.a.parts:=⟨ha3⟩;obtain⟨g,hg⟩:∃g,QCU c=g:=⟨_,rfl⟩;rw[hg]
 have bad:∀{b1:Nat}{R:List HP}{e:Int},g=(pk0,e)→Ent B (Blk b1 (pkC 0 0 0 0 0 nilS)::R) (QBG ⟨b1,0,none⟩ (.I 0)<|QBG ⟨b1,1,none⟩ (.I 0)<|QBG ⟨b1,2,none⟩ (.I 0)<|QBG ⟨b1,3,none⟩ (.I 0)<|QBG ⟨b1,4,none⟩ (.I 0)<|QBG ⟨b1,5,none⟩ (.slice none 0 0)<|QAq (.I) ⟨b1,0,none⟩ fun(v:Int)=>QAq (.I) ⟨b1,1,none⟩ fun(v1:Int)=>QAq (.I) ⟨b1,2,none⟩ fun(v2:Int)=>QAq (.I) ⟨b1,3,none⟩ fun(v3:Int)=>QAq (.I) ⟨b1,4,none⟩ fun(v4:Int)=>QAq .slice ⟨b1,5,none⟩ fun v5=>Ret B (ss:=PkT) (QMJ g.1 g.2) (v,v1,v2,v3,v4,v5,e,())):=by
  rintro b1 R e rfl;iterate 6 (refine xsq ?_)
  iterate 5 (refine xgq ?_)
  refine xgS (h:=?_);exact QAd U8 (QAK [Ar U8 nilS []] (QAD ⟨rfl,rfl,rfl,rfl,rfl,rfl,rfl⟩))
 unfold QDJ mf;dsimp only;unfold QCU at hg;refine QAL fun b=>QAL fun b1=>xgq (QQ3 (xif (fun h=>bad ?_) (fun h=>?_)))
 ·rw[←hg,if_pos (by simp at h;omega)]
 have hid:1≤c.id∧c.id≤1099511627776:=by simp at h;omega
 rw[if_neg (by omega)]at hg;refine xgq (QQ3 (xif (fun h=>bad ?_) (fun h=>?_)))
 ·rw[←hg,if_pos (by simp at h;omega)]
 have hu:1≤c.unit∧c.unit≤247:=by simp at h;omega
 rw[if_neg (by omega)]at hg;iterate 3 (refine xgq ?_)
 refine QAE (s:=.slice) (x:=so) (hv:=rfl) (h:=QAE (s:=.slice) (x:=ss) (hv:=rfl) (h:=QAE (s:=.slice) (x:=sp) (hv:=rfl) (h:=?_)));refine xn2 (L:=fun s=>[Ar U8 s (QDl c.a)]) (QFt c.a hw so ss sp) (fun x y Bs hB=>hB) fun s3=>?_;refine xif (fun h=>QB5 0 (bad ?_)) (fun h=>?_)
 ·rw[←hg,if_pos (by simpa using h)]
 have h0:c.a.e=0:=by simpa using h
 rw[if_neg (by rw[h0];decide)]at hg;rw[show QDl c.a=QGG c.a from if_pos h0];have hl:=QUb c.a h0;iterate 3 (refine xgq ?_)
 refine QAE (s:=.slice) (x:=so) (hv:=rfl) (h:=QAE (s:=.slice) (x:=ss) (hv:=rfl) (h:=QAE (s:=.slice) (x:=sp) (hv:=rfl) (h:=?_)));refine xd1 (QLJ c.a.code c.a.addr c.a.count so ss sp) (xif (fun h=>QB5 0 (bad ?_)) (fun h=>?_))
 ·rw[←hg,if_pos (by simpa using h)]
 rw[if_neg (by simpa using h)]at hg;refine QAO (xgq (xgq (QAL fun b2=>?_)));rw[show IntKind.u8.wrap c.unit=((UInt8.ofNat c.unit.toNat).toNat:Int) by rw[←QAr c.unit.toNat];congr 1;omega];refine QAe (Q:=Ar U8 ⟨some ⟨b2,0,none⟩,1,1⟩ [UInt8.ofNat c.unit.toNat]) 0 (fun g hg=>⟨[],QAm [UInt8.ofNat c.unit.toNat] 1 rfl rfl hg⟩) ?_;refine QHb (E:=U8) (s:=⟨some ⟨b2,0,none⟩,1,1⟩) (y:=s3) (ys:=QGG c.a) (hb:=by simp only[List.length_cons,List.length_nil];omega) (h:=fun s7=>QC6 (h:=?_));iterate 6 (refine xsq ?_)
 iterate 5 (refine xgq ?_)
 refine QAE (s:=.slice) (x:=s7) (hv:=rfl) (h:=?_);subst hg;exact QAK [Ar U8 s7 ([UInt8.ofNat c.unit.toNat]++QGG c.a)] (QAD ⟨rfl,rfl,rfl,rfl,rfl,rfl,rfl⟩)
abbrev CmT:List Sh:=[.I,.I,.I,.I,.I,.slice,.slice,.slice,.I]
def QYC(c:QKZ)(e:Int)(t:Tup CmT)(Bs:List HP):Prop:=
 t.1=c.id∧t.2.1=c.unit∧t.2.2.1=c.a.code∧t.2.2.2.1=c.a.addr∧t.2.2.2.2.1=c.a.count∧t.2.2.2.2.2.2.2.2.1=e∧Bs=[Ar BL t.2.2.2.2.2.1 c.a.on,Ar W16 t.2.2.2.2.2.2.1 c.a.set,Ar PaE t.2.2.2.2.2.2.2.1 c.a.parts]
def QDj(p:PkV):QKZ×Int:=
 if pkE p p.body.length≠0 then (QZ7,pkE p p.body.length) else if p.kind≠3 then (QZ7,28)
 else if (p.body.getD 0 0).toNat<1∨(p.body.getD 0 0).toNat>247 then (QZ7,24)
 else if (QAX (p.body.drop 1)).2≠0 then (QZ7,(QAX (p.body.drop 1)).2)
 else if QOz (QAX (p.body.drop 1)).1.code=false then (QZ7,20)
 else (⟨p.id,(p.body.getD 0 0).toNat,(QAX (p.body.drop 1)).1⟩,0)
theorem QY7{p:PkV}{n:Nat}(h:pkE p n=0)(h3:p.kind=3):2≤n∧n≤254:=by
 unfold pkE at h;rw[if_neg (by omega),if_neg (by omega),if_pos h3]at h;obtain⟨n1,h⟩:=QGR (by decide) h;obtain⟨n2,h⟩:=QGR (by decide) h;obtain⟨n3,h⟩:=QGR (by decide) h;obtain⟨n4,_⟩:=QGR (by decide) h;omega
theorem QTF(p:PkV)(s:Sl)(hc:s.n≤s.c):Ct Pr 342 [Qdv p s] (.tup [some 8,none]) CmT [] (RAr U8 s p.body) (QYC (QDj p).1 (QDj p).2):=by
 refine QAg (ss:=CmT) (φ:=fun K=>(QDK _ _ _ _ _ _ K).1) (fun h=>cf _ rfl (by kernel_rfl) h) fun B hr=>?_;show Ent B [] (QDK p.kind p.epoch p.seq p.id p.code s fun x0 x1 x2 x3 x4 x5 x6 x7 x8=>Ret B (ss:=CmT) (QYC (QDj p).1 (QDj p).2) (x0,x1,x2,x3,x4,x5,x6,x7,x8,()));have hn:p.body.length=s.n:=hr.1;haveI:Fro B s U8 p.body:=⟨hr⟩;obtain⟨g,hg⟩:∃g,QDj p=g:=⟨_,rfl⟩;rw[hg]
 have bad:∀{b1:Nat}{R:List HP}{e:Int},g=(QZ7,e)→Ent B (Blk b1 (cmC QZ7 nilS nilS nilS)::R) (QBG ⟨b1,0,none⟩ (.I 0)<|QBG ⟨b1,1,none⟩ (.I 0)<|QBG ⟨b1,2,none⟩ (.I 0)<|QBG ⟨b1,3,none⟩ (.I 0)<|QBG ⟨b1,4,none⟩ (.I 0)<|QBG ⟨b1,5,none⟩ (.slice none 0 0)<|QBG ⟨b1,6,none⟩ (.slice none 0 0)<|QBG ⟨b1,7,none⟩ (.slice none 0 0) <|
   QAq (.I) ⟨b1,0,none⟩ fun(v:Int)=>QAq (.I) ⟨b1,1,none⟩ fun(v1:Int)=>QAq (.I) ⟨b1,2,none⟩ fun(v2:Int)=>QAq (.I) ⟨b1,3,none⟩ fun(v3:Int)=>QAq (.I) ⟨b1,4,none⟩ fun(v4:Int)=>QAq .slice ⟨b1,5,none⟩ fun v5=>QAq .slice ⟨b1,6,none⟩ fun v6=>QAq .slice ⟨b1,7,none⟩ fun v7=>Ret B (ss:=CmT) (QYC g.1 g.2) (v,v1,v2,v3,v4,v5,v6,v7,e,())):=by
  rintro b1 R e rfl;iterate 8 (refine xsq ?_)
  iterate 5 (refine xgq ?_)
  iterate 3 (refine xgS (h:=?_))
  exact QAd W16 (QAd BL (QAd PaE (QAK [Ar BL nilS [],Ar W16 nilS [],Ar PaE nilS []] (QAD ⟨rfl,rfl,rfl,rfl,rfl,rfl,rfl⟩))))
 unfold QDK mf;dsimp only;unfold QDj at hg;refine QAL fun b=>QAL fun b1=>?_;iterate 5 (refine xgq ?_)
 refine QAE (s:=.slice) (x:=s) (hv:=rfl) (h:=xd1 (QF0 p s) ?_);rw[←hn];refine xif (fun h=>bad ?_) (fun h=>?_)
 ·rw[←hg,if_pos (by simpa using h)]
 have hE:pkE p p.body.length=0:=by simpa using h
 rw[if_neg (by rw[hE];decide)]at hg;refine xgq (xif (fun h=>bad ?_) (fun h=>?_))
 ·rw[←hg,if_pos (by simpa using h)]
 have h3:p.kind=3:=by simpa using h
 rw[if_neg (by omega)]at hg;obtain⟨hb1,hb2⟩:=QY7 hE h3;have hcl:=(p.body.getD 0 0).toNat_lt;have c0:p.body[0]? = some (p.body.getD 0 0):=gdE (by omega);refine QAE (s:=.slice) (x:=s) (hv:=rfl) (h:=?_);refine QAH (E:=U8) (xs:=p.body) (s:=s) (k:=0) (h1:=by omega) (h:=fun _ _=>?_);refine QAN (E:=U8) (xs:=p.body) (i:=0) c0 (h:=?_);rw[QWK ((p.body.getD 0 0).toNat:Int) (by omega) (by omega)];refine QQ3 (xif (fun h=>bad ?_) (fun h=>?_))
 ·rw[←hg,if_pos (by rw[Bool.or_eq_true,decide_eq_true_iff,decide_eq_true_iff]at h;omega)]
 have hu:¬((p.body.getD 0 0).toNat<1∨(p.body.getD 0 0).toNat>247):=by rw[Bool.or_eq_false_iff,decide_eq_false_iff_not,decide_eq_false_iff_not]at h;omega
 rw[if_neg hu]at hg;refine QAE (s:=.slice) (x:=s) (hv:=rfl) (h:=?_);refine QEh (by omega) (by omega) (by omega) (by omega) ?_;simp only[Int.toNat_natCast];have hcut:=hr.cut 1 s.n s.c (by omega) hc (by omega)
 have e:(p.body.take s.n).drop 1=p.body.drop 1:=by rw[List.take_of_length_le (by omega)]
 haveI:Fro B (s.cut (Int.toNat 1) s.n s.c 1) U8 (p.body.drop 1):=⟨e ▸ hcut⟩;refine xcl (QF1 (p.body.drop 1) (by simp;omega) (s.cut (Int.toNat 1) s.n s.c 1) (by show s.n - 1≤s.c - 1;omega)) rdb ?_
 generalize QAX (p.body.drop 1)=q at *
 obtain⟨a,ea⟩:=q;rintro⟨v0,v1,v2,so,ss,sp,v6,_⟩ _ ⟨rfl,rfl,rfl,h5,rfl⟩;simp only at h5 hg;subst h5;refine QQA (ca7 (QAL fun b2=>?_));iterate 6 (refine xsq ?_)
 refine xif (fun h=>?_) (fun h=>?_)
 ·refine QAU [Blk b1 (cmC QZ7 nilS nilS nilS)] (bad ?_);rw[←hg,if_pos (by simpa using h)]
 rw[if_neg (by simpa using h)]at hg;iterate 3 (refine xgq ?_)
 refine QAE (s:=.slice) (x:=so) (hv:=rfl) (h:=QAE (s:=.slice) (x:=ss) (hv:=rfl) (h:=QAE (s:=.slice) (x:=sp) (hv:=rfl) (h:=?_)));refine xd1 (QLJ a.code a.addr a.count so ss sp) (xif (fun h=>?_) (fun h=>?_))
 ·refine QAU [Blk b1 (cmC QZ7 nilS nilS nilS)] (bad ?_);rw[←hg,if_pos (by simpa using h)]
 rw[if_neg (by simpa using h)]at hg;subst hg;refine QAO (xgq (QAE (s:=.slice) (x:=s) (hv:=rfl) (h:=?_)));refine QAH (E:=U8) (xs:=p.body) (s:=s) (k:=0) (h1:=by omega) (h:=fun _ _=>?_);refine QAN (E:=U8) (xs:=p.body) (i:=0) c0 (h:=?_);rw[QWK ((p.body.getD 0 0).toNat:Int) (by omega) (by omega)];iterate 3 (refine xgq ?_)
 refine QAE (s:=.slice) (x:=so) (hv:=rfl) (h:=QAE (s:=.slice) (x:=ss) (hv:=rfl) (h:=QAE (s:=.slice) (x:=sp) (hv:=rfl) (h:=?_)));iterate 8 (refine xsq ?_)
 iterate 5 (refine xgq ?_)
 refine QAE (s:=.slice) (x:=so) (hv:=rfl) (h:=QAE (s:=.slice) (x:=ss) (hv:=rfl) (h:=QAE (s:=.slice) (x:=sp) (hv:=rfl) (h:=?_)));exact QAK [Ar BL so a.on,Ar W16 ss a.set,Ar PaE sp a.parts] (QAD ⟨rfl,rfl,rfl,rfl,rfl,rfl,rfl⟩)
theorem QMa:∀(xs:List UInt8),QNP (QGz xs)
 | []=>fun v h=>by simp[QGz]at h
 | [_]=>fun v h=>by simp[QGz]at h
 | a::b::xs=>fun v h=>by
  have:=a.toNat_lt;have:=b.toNat_lt;rcases List.mem_cons.1 (show v∈((a.toNat*256+b.toNat:Nat):Int)::QGz xs from h) with rfl|h
  ·omega
  ·exact QMa xs v h
theorem QHW(xs:List UInt8):QNP (QAX xs).1.set:=by
 have nil:QNP []:=fun v h=>by cases h
 unfold QAX;repeat' split
 all_goals try exact nil
 unfold QBU
 (try simp only)
 repeat' split
 all_goals try exact nil
 ·intro v h;simp only[List.mem_singleton]at h;have:=Qb8 xs 3;omega
 ·unfold QCp;split
  ·exact QMa _
  ·exact nil
theorem QSZ(xs:List UInt8)(h:(xs.getD 0 0).toNat≠20):(QAX xs).1.code≠20:=by
 unfold QAX;repeat' split
 all_goals try (show (0:Int)≠20;decide)
 unfold QBU
 (try simp only)
 repeat' split
 all_goals try (first|(show (5:Int)≠20;decide)|(show (6:Int)≠20;decide)|(show (15:Int)≠20;decide)|(show (16:Int)≠20;decide))
 ·contradiction
 ·simp only;omega
structure MaM where
 timeout:Int
 retries:Int
 tries:Int
 at_:Int
 unit:Int
 a:AskV
 fr:List UInt8
structure Qcs(m:MaM):Prop where
 timeout:1≤m.timeout∧m.timeout≤1048576
 retries:0≤m.retries∧m.retries≤5
 tries:0≤m.tries∧m.tries≤m.retries+1
 at_:0≤m.at_∧m.at_≤1099511627776
 ask:QNP m.a.set∧m.a.code≠20
 fr:m.fr.length≤1000
abbrev MaM.cells(m:MaM)(so ss sp fr:Sl):List Value:=[.I m.timeout,.I m.retries,.I m.tries,.I m.at_,.I m.unit,.I m.a.code,.I m.a.addr,.I m.a.count,so.v,ss.v,sp.v,fr.v]
abbrev MaM.ps(m:MaM)(so ss sp fr:Sl):List HP:=[Ar BL so m.a.on,Ar W16 ss m.a.set,Ar PaE sp m.a.parts,Ar U8 fr m.fr]
def QA3(q:Option Addr)(m:MaM):HP:=fun h=>Qcs m∧∃(b:Nat) (so ss sp fr:Sl),q=some ⟨b,0,none⟩∧QBl (Blk b (m.cells so ss sp fr)::m.ps so ss sp fr) h
theorem Qfc(j:Nat){q:Option Addr}{m:MaM}{φ:WP}[p:Pick j As (QA3 q m) F](h:∀b so ss sp fr,q=some ⟨b,0,none⟩→Qcs m→Ent B (Blk b (m.cells so ss sp fr)::Ar BL so m.a.on::Ar W16 ss m.a.set::Ar PaE sp m.a.parts::Ar U8 fr m.fr::F) φ):Ent B As φ:=by
 refine QFI j (fun Bs=>∃b so ss sp fr,q=some ⟨b,0,none⟩∧Qcs m∧Bs=Blk b (m.cells so ss sp fr)::m.ps so ss sp fr) (fun g hg=>?_) ?_
 ·obtain⟨ho,b,so,ss,sp,fr,e,hb⟩:=hg;exact⟨_,⟨b,so,ss,sp,fr,e,ho,rfl⟩,hb⟩
 ·rintro _ ⟨b,so,ss,sp,fr,e,ho,rfl⟩;exact h b so ss sp fr e ho
theorem QP5(b:Nat)(so ss sp fr:Sl)(m:MaM){G:List HP}[s:Split [Blk b (m.cells so ss sp fr),Ar BL so m.a.on,Ar W16 ss m.a.set,Ar PaE sp m.a.parts,Ar U8 fr m.fr] As G]{φ:WP}(ho:Qcs m)(k:Ent B (QA3 (some ⟨b,0,none⟩) m::G) φ):Ent B As φ:=
 QBQ [Blk b (m.cells so ss sp fr),Ar BL so m.a.on,Ar W16 ss m.a.set,Ar PaE sp m.a.parts,Ar U8 fr m.fr] (QA3 (some ⟨b,0,none⟩) m) (fun g hg=>⟨ho,b,so,ss,sp,fr,rfl,hg⟩) k
abbrev QPt(timeout retries:Int):MaM:=⟨timeout,retries,0,0,0,Qb6,[]⟩
theorem QTy(t r:Int)(h:(1≤t∧t≤1048576)∧0≤r∧r≤5):Ct Pr 59 [.I t,.I r] (.tup [none,none]) [.ptr,.I] [] emp (fun x Bs=>x.2.1=0∧Bs=[QA3 x.1 (QPt t r)]):=by
 refine sp2 (QOC _ _) fun B _=>?_;unfold QOC mf;dsimp only;refine QBF (by simp;omega) (QAL fun b=>?_);refine QAd BL (QAd W16 (QAd PaE (QAd U8 (QP5 b nilS nilS nilS nilS (QPt t r) ⟨h.1,h.2,⟨Int.le_refl 0,by show (0:Int)≤r+1;omega⟩,⟨Int.le_refl 0,show (0:Int)≤1099511627776 by decide⟩,⟨(fun v h=>by cases h),show (0:Int)≠20 by decide⟩,Nat.zero_le _⟩ ?_))));exact QAD ⟨rfl,rfl⟩
theorem QKr(b:Nat)(m:MaM)(so ss sp fr:Sl):Ct Pr 42 [.pointer (some ⟨b,0,none⟩)] .one [.bool] [Blk b (m.cells so ss sp fr)] emp (fun x Bs=>x.1=decide (m.tries>0)∧Bs=[Blk b (m.cells so ss sp fr)]):=by
 refine sp1 (QEp _) fun B _=>?_;unfold QEp mf;dsimp only;exact QAQ (xgq (QAD ⟨rfl,rfl⟩))
theorem QRz(q:Option Addr)(m:MaM):Ct Pr 42 [.pointer q] .one [.bool] [QA3 q m] emp (fun x Bs=>x.1=decide (m.tries>0)∧Bs=[QA3 q m]):=by
 refine QGr (φ:=QAb Pr 42 [.pointer q] .one [.bool]) id fun B _=>?_;refine Qfc 0 fun b so ss sp fr hq ho=>?_;subst hq;exact xd1 (QKr b m so ss sp fr) (QP5 b so ss sp fr m ho (QAD ⟨rfl,rfl⟩))
theorem QLQ(now:Int):Ct Pr 323 [.I now] .one [.bool] [] emp (fun x Bs=>x.1=(decide (now≥0)&&decide (now≤1099511627776))∧Bs=[]):=by
 refine sp1 (QIS _) fun B _=>?_;unfold QIS mf;dsimp only;exact QAD ⟨rfl,rfl⟩
def QLn(m:MaM)(now unit:Int)(a:AskV):Int:=
 if m.tries>0 then 11 else if unit<1∨unit>247 then 24 else if a.e≠0 then a.e else if now<0∨now>1099511627776 then 3 else 0
abbrev QCG(m:MaM)(now unit:Int)(a:AskV):MaM:={ m with tries:=1,at_:=now,unit:=unit,a:=(QAX (QGG a)).1,fr:=(QWS (UInt8.ofNat unit.toNat) (QGG a)).2 }
def QQ1(q:Option Addr)(m:MaM)(now unit:Int)(a:AskV)(x:Tup [.slice,.I])(Bs:List HP):Prop:=
 x.2.1=QLn m now unit a∧((QLn m now unit a=0∧Bs=[QA3 q (QCG m now unit a),Ar U8 x.1 (QCG m now unit a).fr])∨(QLn m now unit a≠0∧x.1=nilS∧Bs=[QA3 q m]))
theorem QXv(u:UInt8)(l:List UInt8)(h:l.length≤300):(QWS u l).2.length≤1000:=by
 unfold QWS QVX;repeat' split
 all_goals simp[QYE]
 all_goals omega
theorem QIl(q:Option Addr)(m:MaM)(now unit:Int)(a:AskV)(hw:QNP a.set)(h20:a.code≠20)(so ss sp:Sl) :
  Ct Pr 327 [.pointer q,.I now,.I unit,Qc1 a so ss sp] (.tup [none,none]) [.slice,.I] [QA3 q m] (askR a so ss sp) (QQ1 q m now unit a):=by
 refine sp2 (QEY _ _ _ _ _ _ _ _ _) fun B hr=>?_;obtain⟨ha1,ha2,ha3⟩:=hr;haveI:Fro B so BL a.on:=⟨ha1⟩;haveI:Fro B ss W16 a.set:=⟨ha2⟩;haveI:Fro B sp PaE a.parts:=⟨ha3⟩;unfold QEY mf QQ1;dsimp only;obtain⟨e,he⟩:∃e,QLn m now unit a=e:=⟨_,rfl⟩;rw[he];unfold QLn at he;refine Qfc 0 fun b so0 ss0 sp0 fr hq ho=>?_;subst hq
 have bad:∀{R:List HP}{k:Int},k≠0→k=e→Ent B (Blk b (m.cells so0 ss0 sp0 fr)::Ar BL so0 m.a.on::Ar W16 ss0 m.a.set::Ar PaE sp0 m.a.parts::Ar U8 fr m.fr::R) (Ret B (ss:=[.slice,.I]) (fun x Bs=>x.2.1=e∧((e=0∧Bs=[QA3 (some ⟨b,0,none⟩) (QCG m now unit a),Ar U8 x.1 (QCG m now unit a).fr])∨(e≠0∧x.1=nilS∧Bs=[QA3 (some ⟨b,0,none⟩) m]))) (nilS,k,())):=by
  rintro R k hk rfl;exact QP5 b so0 ss0 sp0 fr m ho (QAa (l:=[QA3 (some ⟨b,0,none⟩) m]) (QAD ⟨rfl,.inr ⟨hk,rfl,rfl⟩⟩))
 refine QAL fun b1=>xd1 (QKr b m so0 ss0 sp0 fr) (QAA (fun h=>QAU [Blk b _,Ar BL so0 m.a.on,Ar W16 ss0 m.a.set,Ar PaE sp0 m.a.parts,Ar U8 fr m.fr] (bad (by decide) (by rw[←he,if_pos h]))) (fun h=>?_));rw[if_neg h]at he;refine xif (fun hu=>QAU [Blk b _,Ar BL so0 m.a.on,Ar W16 ss0 m.a.set,Ar PaE sp0 m.a.parts,Ar U8 fr m.fr] (bad (by decide) ?_)) (fun hu=>?_)
 ·rw[←he,if_pos (by simpa using hu)]
 have hu:¬(unit<1∨unit>247):=by simpa using hu
 rw[if_neg hu]at he;iterate 3 (refine xgq ?_)
 refine QAE (s:=.slice) (x:=so) (hv:=rfl) (h:=QAE (s:=.slice) (x:=ss) (hv:=rfl) (h:=QAE (s:=.slice) (x:=sp) (hv:=rfl) (h:=?_)));refine xn2 (L:=fun s=>[Ar U8 s (QDl a)]) (QFt a hw so ss sp) (fun x y Bs hB=>hB) fun s3=>?_;refine xif (fun h0=>QAU [Blk b _,Ar BL so0 m.a.on,Ar W16 ss0 m.a.set,Ar PaE sp0 m.a.parts,Ar U8 fr m.fr] (bad (by simpa using h0) ?_)) (fun h0=>?_)
 ·rw[←he,if_pos (by simpa using h0)]
 have h0:a.e=0:=by simpa using h0
 rw[if_neg (by rw[h0];decide)]at he;rw[show QDl a=QGG a from if_pos h0];refine xd1 (QLQ now) (xif (fun ht=>QAU [Blk b _,Ar BL so0 m.a.on,Ar W16 ss0 m.a.set,Ar PaE sp0 m.a.parts,Ar U8 fr m.fr] (bad (by decide) ?_)) (fun ht=>?_))
 ·rw[←he,if_pos (by simp at ht;omega)]
 have ht:0≤now∧now≤1099511627776:=by simp at ht;omega
 rw[if_neg (by omega)]at he;subst he;have hl:=QUb a h0
 have hc0:((QGG a).getD 0 0).toNat≠20:=by
  show (UInt8.ofNat a.code.toNat).toNat≠20;rw[UInt8.toNat_ofNat'];rcases (QB3 h0).2 with⟨q|q,_⟩|⟨q|q,_⟩|⟨q,_⟩|⟨q,_⟩|⟨q,_⟩|⟨q,_⟩|⟨q,_⟩<;>omega
 rw[show IntKind.u8.wrap unit=((UInt8.ofNat unit.toNat).toNat:Int) by rw[←QAr unit.toNat];congr 1;omega];refine xcl (QVC (UInt8.ofNat unit.toNat) s3 (QGG a)) rdb ?_;rintro⟨s4,(r1:Int),_⟩ _ ⟨_,rfl⟩;refine QA5 (ca2 ?_);refine QAQ (xsq (QAQ (xsq (QAQ (xsq (QAQ (xsq ?_)))))));refine QAU [Ar U8 s3 (QGG a)] (QCm (E:=U8) (xs:=QGG a) s3 fun _ hc3=>?_);refine xcl (QF1 (QGG a) (by omega) s3 hc3) rdb ?_;rintro⟨v0,v1,v2,t0,t1,t2,v6,_⟩ _ ⟨rfl,rfl,rfl,h3,rfl⟩;simp only at h3;subst h3;refine QQA (ca7 (QAQ ?_));iterate 6 (refine xsq ?_)
 refine QAQ (QAE (s:=.slice) (x:=s4) (hv:=rfl) (h:=?_));have hrl:=QXv (UInt8.ofNat unit.toNat) (QGG a) hl;refine xn1 (L:=fun s=>[Ar U8 s (QWS (UInt8.ofNat unit.toNat) (QGG a)).2]) (QMO s4 (QWS (UInt8.ofNat unit.toNat) (QGG a)).2 (by omega)) (fun x Bs hB=>hB) fun s5=>?_;refine QP5 b t0 t1 t2 s4 (QCG m now unit a) ⟨ho.timeout,ho.retries,⟨show (0:Int)≤1 by decide,by have:=ho.retries;show (1:Int)≤m.retries+1;omega⟩,ht,⟨QHW _,QSZ _ hc0⟩,hrl⟩ ?_;exact QAK [QA3 (some ⟨b,0,none⟩) (QCG m now unit a),Ar U8 s5 (QCG m now unit a).fr] (QAD ⟨rfl,.inl ⟨rfl,rfl⟩⟩)
structure QXR where
 what:Int
 r:RepV
 tries:Int
 is:Bool
abbrev Qdq:QXR:=⟨0,QP9,0,false⟩
abbrev QYU:List Sh:=[.I,.I,.slice,.slice,.slice,.I,.bool]
def QJV(o:QXR)(t:Tup QYU)(L Bs:List HP):Prop:=t.1=o.what∧t.2.1=o.r.exc∧t.2.2.2.2.1=nilS∧o.r.files=[]∧t.2.2.2.2.2.1=o.tries∧t.2.2.2.2.2.2.1=o.is∧Bs=Ar BL t.2.2.1 o.r.on::Ar W16 t.2.2.2.1 o.r.set::L
abbrev QDB(m:MaM):MaM:={ m with tries:=0 }
theorem QZG{m:MaM}(h:Qcs m):Qcs (QDB m):=⟨h.timeout,h.retries,⟨Int.le_refl 0,by have:=h.retries;show (0:Int)≤m.retries+1;omega⟩,h.at_,h.ask,h.fr⟩
theorem QZS(b:Nat)(m:MaM)(so ss sp fr:Sl)(what exc:Int)(r1 r2:Sl):Ct Pr 238 [.pointer (some ⟨b,0,none⟩),.I what,Qdp exc r1 r2 nilS] (.tup [some 6,none]) QYU [Blk b (m.cells so ss sp fr)] emp
  (fun t Bs=>(t.1=what∧t.2.1=exc∧t.2.2.1=r1∧t.2.2.2.1=r2∧t.2.2.2.2.1=nilS∧t.2.2.2.2.2.1=m.tries∧t.2.2.2.2.2.2.1=true)∧Bs=[Blk b ((QDB m).cells so ss sp fr)]):=by
 refine QAg (ss:=QYU) (φ:=fun K=>(QDD _ _ _ _ _ _ K).1) (fun h=>cf _ rfl (by kernel_rfl) h) fun B _=>?_;show Ent B [Blk b (m.cells so ss sp fr)] (QDD (some ⟨b,0,none⟩) what exc r1 r2 nilS fun x0 x1 x2 x3 x4 x5 x6=>Ret B (ss:=QYU) (fun t Bs=>(t.1=what∧t.2.1=exc∧t.2.2.1=r1∧t.2.2.2.1=r2∧t.2.2.2.2.1=nilS∧t.2.2.2.2.2.1=m.tries∧t.2.2.2.2.2.2.1=true)∧Bs=[Blk b ((QDB m).cells so ss sp fr)]) (x0,x1,x2,x3,x4,x5,x6,()));unfold QDD mf;dsimp only;refine QAL fun b1=>QAL fun b2=>QAO (xgq (QAE (s:=.slice) (x:=r1) (hv:=rfl) (h:=QAE (s:=.slice) (x:=r2) (hv:=rfl) (h:=xgS (h:=QAQ (xgq (QAL fun b3=>?_)))))));iterate 6 (refine xsq ?_)
 refine QAQ (xsq (xgq (xgq (QAE (s:=.slice) (x:=r1) (hv:=rfl) (h:=QAE (s:=.slice) (x:=r2) (hv:=rfl) (h:=xgS (h:=xgq ?_)))))));iterate 6 (refine xsq ?_)
 refine xgq (xgq (QAE (s:=.slice) (x:=r1) (hv:=rfl) (h:=QAE (s:=.slice) (x:=r2) (hv:=rfl) (h:=xgS (h:=xgq ?_)))));exact QAK [Blk b ((QDB m).cells so ss sp fr)] (QAD ⟨⟨rfl,rfl,rfl,rfl,rfl,rfl,rfl⟩,rfl⟩)
def QFr(m:MaM)(xs:List UInt8):QXR×MaM:=
 if m.tries≤0 then (Qdq,m) else
 let o:=QAo xs
 if o.1≠0∨(o.2.1.toNat:Int)≠m.unit then (Qdq,m) else
 let r:=QBp m.a o.2.2
 if r.2≠0 then (Qdq,m) else (⟨if r.1.exc≠0 then 2 else 1,r.1,m.tries,true⟩,QDB m)
theorem QRf(q:Option Addr)(m:MaM)(b:Sl)(xs:List UInt8)(hcap:b.n≤b.c) :
  Ct Pr 150 [.pointer q,b.v] (.tup [some 6,none]) QYU [QA3 q m] (RAr U8 b xs) (fun t Bs=>QJV (QFr m xs).1 t [QA3 q (QFr m xs).2] Bs):=by
 refine QAg (ss:=QYU) (φ:=fun K=>(QCu _ _ K).1) (fun h=>cf _ rfl (by kernel_rfl) h) fun B hr=>?_;show Ent B [QA3 q m] (QCu q b fun x0 x1 x2 x3 x4 x5 x6=>Ret B (ss:=QYU) (fun t Bs=>QJV (QFr m xs).1 t [QA3 q (QFr m xs).2] Bs) (x0,x1,x2,x3,x4,x5,x6,()));haveI:Fro B b U8 xs:=⟨hr⟩;obtain⟨g,hg⟩:∃g,QFr m xs=g:=⟨_,rfl⟩;rw[hg];unfold QCu mf;dsimp only;unfold QFr at hg;refine Qfc 0 fun b0 so ss sp fr hq ho=>?_;subst hq
 have bad:∀{b1:Nat}{R:List HP},(Qdq,m)=g→Ent B (Blk b1 [.I 0,.I 0,.slice none 0 0,.slice none 0 0,.slice none 0 0,.I 0]::Blk b0 (m.cells so ss sp fr)::Ar BL so m.a.on::Ar W16 ss m.a.set::Ar PaE sp m.a.parts::Ar U8 fr m.fr::R)
   (QBG ⟨b1,0,none⟩ (.I 0)<|QBG ⟨b1,1,none⟩ (.I 0)<|QBG ⟨b1,2,none⟩ (.slice none 0 0)<|QBG ⟨b1,3,none⟩ (.slice none 0 0)<|QBG ⟨b1,4,none⟩ (.slice none 0 0)<|QBG ⟨b1,5,none⟩ (.I 0)<|QAq (.I) ⟨b1,0,none⟩ fun(v:Int)=>QAq (.I) ⟨b1,1,none⟩ fun(v1:Int)=>QAq .slice ⟨b1,2,none⟩ fun v2=>QAq .slice ⟨b1,3,none⟩ fun v3=>QAq .slice ⟨b1,4,none⟩ fun v4=>QAq (.I) ⟨b1,5,none⟩ fun(v5:Int)=>Ret B (ss:=QYU) (fun t Bs=>QJV g.1 t [QA3 (some ⟨b0,0,none⟩) g.2] Bs) (v,v1,v2,v3,v4,v5,false,())):=by
  rintro b1 R rfl;iterate 6 (refine xsq ?_)
  refine xgq (xgq (xgS (h:=xgS (h:=xgS (h:=xgq ?_)))));refine QP5 b0 so ss sp fr m ho (QAd W16 (QAd BL ?_));exact QAK [Ar BL nilS [],Ar W16 nilS [],QA3 (some ⟨b0,0,none⟩) m] (QAD ⟨rfl,rfl,rfl,rfl,rfl,rfl,rfl⟩)
 refine QAL fun b1=>xd1 (QKr b0 m so ss sp fr) (xif (fun h=>?_) (fun h=>?_))
 ·exact QAU [Blk b1 _,Blk b0 (m.cells so ss sp fr),Ar BL so m.a.on,Ar W16 ss m.a.set,Ar PaE sp m.a.parts,Ar U8 fr m.fr] (bad (by rw[←hg,if_pos (by simp at h;omega)]))
 have h0:0<m.tries:=by simp at h;omega
 rw[if_neg (by omega)]at hg;refine xcl (QGc b xs hcap) rdb ?_
 generalize QAo xs=o at *
 obtain⟨e,u,pdu⟩:=o;simp only at hg;rintro⟨y,s,(e':Int),_⟩ _ ⟨h1,h2,rfl⟩;simp only at h1 h2;subst h1 h2;have hul:=u.toNat_lt;refine QA5 (ca3 ?_);refine QAS (fun(x:Bool) As'=>(x=true↔(e'≠0∨(u.toNat:Int)≠m.unit))∧As'=[Blk b0 (m.cells so ss sp fr),Ar U8 s pdu,Blk b1 [.I 0,.I 0,.slice none 0 0,.slice none 0 0,.slice none 0 0,.I 0],Ar BL so m.a.on,Ar W16 ss m.a.set,Ar PaE sp m.a.parts,Ar U8 fr m.fr]) (fun K hK=>?_) ?_
 ·refine xif (fun h=>QAU [Blk b0 (m.cells so ss sp fr)] (hK _ _ ⟨⟨fun _=>.inl (bne_iff_ne.1 h),fun _=>rfl⟩,rfl⟩)) (fun h=>QAQ (xgq (QAU [Blk b0 (m.cells so ss sp fr)] (hK _ _ ⟨?_,rfl⟩))))
  have:e'=0:=by simpa using h
  rw[QWK (u.toNat:Int) (by omega) (by omega),bne_iff_ne];exact⟨.inr,fun q=>q.resolve_left (fun z=>z this)⟩
 rintro x _ ⟨hx,rfl⟩;refine xif (fun h=>?_) (fun h=>?_)
 ·exact QAU [Blk b1 _,Blk b0 (m.cells so ss sp fr),Ar BL so m.a.on,Ar W16 ss m.a.set,Ar PaE sp m.a.parts,Ar U8 fr m.fr] (bad (by rw[←hg,if_pos (hx.1 h)]))
 rw[if_neg (fun q=>by rw[hx.2 q]at h;cases h)]at hg;refine QAQ (xgq (xgq (xgq (QAE (s:=.slice) (x:=so) (hv:=rfl) (h:=QAE (s:=.slice) (x:=ss) (hv:=rfl) (h:=QAE (s:=.slice) (x:=sp) (hv:=rfl) (h:=?_)))))));refine QAU [Ar U8 s pdu] (QCm (E:=U8) (xs:=pdu) s fun hsn hsc=>?_);refine xcl (QTG m.a ho.ask.1 ho.ask.2 so ss sp s pdu hsc) rdb ?_
 generalize QBp m.a pdu=r at *
 obtain⟨rv,re⟩:=r;simp only at hg;rintro⟨v0,s1,s2,v3,(v4:Int),_⟩ _ ⟨h1,h2,h3,h4,rfl⟩;simp only at h1 h2 h4;subst h1 h2 h4;refine QBM (ca5 (QAL fun b2=>?_));iterate 4 (refine xsq ?_)
 refine xif (fun h=>?_) (fun h=>?_)
 ·exact QAU [Blk b1 _,Blk b0 (m.cells so ss sp fr),Ar BL so m.a.on,Ar W16 ss m.a.set,Ar PaE sp m.a.parts,Ar U8 fr m.fr] (bad (by rw[←hg,if_pos (bne_iff_ne.1 h)]))
 rw[if_neg (by simpa using h)]at hg;refine xgq ?_
 have fin:∀{what:Int}{R:List HP},(if rv.exc≠0 then 2 else 1)=what→Ent B (Blk b0 ((QDB m).cells so ss sp fr)::Ar BL so m.a.on::Ar W16 ss m.a.set::Ar PaE sp m.a.parts::Ar U8 fr m.fr::Ar BL s1 rv.on::Ar W16 s2 rv.set::R)
   (Ret B (ss:=QYU) (fun t Bs=>QJV g.1 t [QA3 (some ⟨b0,0,none⟩) g.2] Bs) (what,rv.exc,s1,s2,nilS,m.tries,true,())):=by
  rintro what R rfl;subst hg;refine QP5 b0 so ss sp fr (QDB m) (QZG ho) ?_;exact QAK [Ar BL s1 rv.on,Ar W16 s2 rv.set,QA3 (some ⟨b0,0,none⟩) (QDB m)] (QAD ⟨rfl,rfl,rfl,h3,rfl,rfl,rfl⟩)
 have tail:∀{what:Int}{R:List HP},(if rv.exc≠0 then 2 else 1)=what→Ent B (Blk b2 [.I rv.exc,s1.v,s2.v,.slice none 0 0]::Blk b0 (m.cells so ss sp fr)::Ar BL so m.a.on::Ar W16 ss m.a.set::Ar PaE sp m.a.parts::Ar U8 fr m.fr::Ar BL s1 rv.on::Ar W16 s2 rv.set::Blk b1 [.I 0,.I 0,.slice none 0 0,.slice none 0 0,.slice none 0 0,.I 0]::R)
   (QAq (.I) ⟨b2,0,none⟩ fun(n5:Int)=>QAq .slice ⟨b2,1,none⟩ fun s7=>QAq .slice ⟨b2,2,none⟩ fun s8=>QAq .slice ⟨b2,3,none⟩ fun s9=>QAb Pr 238 [.pointer (some ⟨b0,0,none⟩),.I what,.agg #[.I n5,s7.v,s8.v,s9.v]] (.tup [some 6,none]) [.I,.I,.slice,.slice,.slice,.I,.bool]<|fun(r4:Int) (r5:Int) s10 s11 s12 (r6:Int) (c2:Bool)=>QBG ⟨b1,0,none⟩ (.I r4)<|QBG ⟨b1,1,none⟩ (.I r5)<|QBG ⟨b1,2,none⟩ s10.v<|QBG ⟨b1,3,none⟩ s11.v<|QBG ⟨b1,4,none⟩ s12.v<|QBG ⟨b1,5,none⟩ (.I r6)<|QAq (.I) ⟨b1,0,none⟩ fun(v18:Int)=>QAq (.I) ⟨b1,1,none⟩ fun(v19:Int)=>QAq .slice ⟨b1,2,none⟩ fun v20=>QAq .slice ⟨b1,3,none⟩ fun v21=>QAq .slice ⟨b1,4,none⟩ fun v22=>QAq (.I) ⟨b1,5,none⟩ fun(v23:Int)=>Ret B (ss:=QYU) (fun t Bs=>QJV g.1 t [QA3 (some ⟨b0,0,none⟩) g.2] Bs) (v18,v19,v20,v21,v22,v23,c2,())):=by
  intro what R hwh;refine xgq (QAE (s:=.slice) (x:=s1) (hv:=rfl) (h:=QAE (s:=.slice) (x:=s2) (hv:=rfl) (h:=xgS (h:=?_))));refine xcl (QZS b0 m so ss sp fr what rv.exc s1 s2) rdb ?_;rintro⟨w0,w1,w2,w3,w4,w5,w6,_⟩ _ ⟨⟨rfl,rfl,g2,g3,g4,rfl,rfl⟩,rfl⟩;simp only at g2 g3 g4;subst g2 g3 g4;refine QA5 (ca7 ?_);iterate 6 (refine xsq ?_)
  refine xgq (xgq (QAE (s:=.slice) (x:=w2) (hv:=rfl) (h:=QAE (s:=.slice) (x:=w3) (hv:=rfl) (h:=xgS (h:=xgq ?_)))));exact QAU [Blk b0 ((QDB m).cells so ss sp fr),Ar BL so m.a.on,Ar W16 ss m.a.set,Ar PaE sp m.a.parts,Ar U8 fr m.fr,Ar BL w2 rv.on,Ar W16 w3 rv.set] (fin hwh)
 have ordq:∀{φ:WP},Ent B (Blk b2 [.I rv.exc,s1.v,s2.v,.slice none 0 0]::Blk b0 (m.cells so ss sp fr)::Ar BL so m.a.on::Ar W16 ss m.a.set::Ar PaE sp m.a.parts::Ar U8 fr m.fr::Ar BL s1 rv.on::Ar W16 s2 rv.set::Blk b1 [.I 0,.I 0,.slice none 0 0,.slice none 0 0,.slice none 0 0,.I 0]::[Ar U8 s pdu]) φ→Ent B [Blk b2 [.I rv.exc,s1.v,s2.v,.slice none 0 0],Ar BL s1 rv.on,Ar W16 s2 rv.set,Ar U8 s pdu,Blk b0 (m.cells so ss sp fr),Blk b1 [.I 0,.I 0,.slice none 0 0,.slice none 0 0,.slice none 0 0,.I 0],Ar BL so m.a.on,Ar W16 ss m.a.set,Ar PaE sp m.a.parts,Ar U8 fr m.fr] φ:=fun hφ=>
  QAU [Blk b2 [.I rv.exc,s1.v,s2.v,.slice none 0 0],Blk b0 (m.cells so ss sp fr),Ar BL so m.a.on,Ar W16 ss m.a.set,Ar PaE sp m.a.parts,Ar U8 fr m.fr,Ar BL s1 rv.on,Ar W16 s2 rv.set,Blk b1 [.I 0,.I 0,.slice none 0 0,.slice none 0 0,.slice none 0 0,.I 0]] hφ
 refine xif (fun h=>ordq (tail ?_)) (fun h=>ordq (tail ?_))
 ·rw[if_pos (bne_iff_ne.1 h)]
 ·rw[if_neg (by simpa using h)]
abbrev QNF:List Sh:=.slice::QYU
abbrev QJe(m:MaM)(now:Int):MaM:={ m with tries:=m.tries+1,at_:=now }
def QDf(m:MaM)(now:Int):List UInt8×QXR×MaM:=
 if ¬(0<m.tries∧m.at_+m.timeout≤now) then ([],Qdq,m)
 else if m.retries<m.tries then ([],⟨3,QP9,m.tries,true⟩,QDB m) else (m.fr,Qdq,QJe m now)
def QKz(q:Option Addr)(m:MaM)(now:Int)(t:Tup QNF)(Bs:List HP):Prop:=QJV (QDf m now).2.1 t.2 [QA3 q (QDf m now).2.2,Ar U8 t.1 (QDf m now).1] Bs
theorem QVw(b:Nat)(m:MaM)(so ss sp fr:Sl)(x:Int):Ct Pr 325 [.pointer (some ⟨b,0,none⟩),.I x] (.tup [none,some 6,none]) QNF [Blk b (m.cells so ss sp fr)] emp (fun t Bs=>(t.1=nilS∧t.2.1=3∧t.2.2.1=0∧t.2.2.2.1=nilS∧t.2.2.2.2.1=nilS∧t.2.2.2.2.2.1=nilS∧t.2.2.2.2.2.2.1=m.tries∧t.2.2.2.2.2.2.2.1=true)∧Bs=[Blk b ((QDB m).cells so ss sp fr)]):=by
 refine QAg (ss:=QNF) (φ:=fun K=>(QCY _ _ K).1) (fun h=>cf _ rfl (by kernel_rfl) h) fun B _=>?_;show Ent B [Blk b (m.cells so ss sp fr)] (QCY (some ⟨b,0,none⟩) x fun x0 x1 x2 x3 x4 x5 x6 x7=>Ret B (ss:=QNF) (fun t Bs=>(t.1=nilS∧t.2.1=3∧t.2.2.1=0∧t.2.2.2.1=nilS∧t.2.2.2.2.1=nilS∧t.2.2.2.2.2.1=nilS∧t.2.2.2.2.2.2.1=m.tries∧t.2.2.2.2.2.2.2.1=true)∧Bs=[Blk b ((QDB m).cells so ss sp fr)]) (x0,x1,x2,x3,x4,x5,x6,x7,()));unfold QCY mf;dsimp only;refine QAL fun b1=>xcl (QZS b m so ss sp fr 3 0 nilS nilS) rdb ?_;rintro⟨w0,w1,w2,w3,w4,w5,w6,_⟩ _ ⟨⟨rfl,rfl,g2,g3,g4,rfl,rfl⟩,rfl⟩;simp only at g2 g3 g4;subst g2 g3 g4;refine QA5 (ca7 (QAL fun b2=>?_));iterate 6 (refine xsq ?_)
 refine QAO (xgq (xgq (xgS (h:=xgS (h:=xgS (h:=xgq ?_))))));iterate 6 (refine xsq ?_)
 refine xgq (xgq (xgS (h:=xgS (h:=xgS (h:=xgq ?_)))));exact QAK [Blk b ((QDB m).cells so ss sp fr)] (QAD ⟨⟨rfl,rfl,rfl,rfl,rfl,rfl,rfl,rfl⟩,rfl⟩)
theorem QZq(b:Nat)(m:MaM)(so ss sp fr:Sl)(now:Int)(hm:m.tries≤5)(h0:0≤m.tries)(hl:m.fr.length≤1000):Ct Pr 324 [.pointer (some ⟨b,0,none⟩),.I now] (.tup [none,some 6,none]) QNF [Blk b (m.cells so ss sp fr),Ar U8 fr m.fr] emp
  (fun t Bs=>(t.2.1=0∧t.2.2.1=0∧t.2.2.2.1=nilS∧t.2.2.2.2.1=nilS∧t.2.2.2.2.2.1=nilS∧t.2.2.2.2.2.2.1=0∧t.2.2.2.2.2.2.2.1=false)∧Bs=[Blk b ((QJe m now).cells so ss sp fr),Ar U8 fr m.fr,Ar U8 t.1 m.fr]):=by
 refine QAg (ss:=QNF) (φ:=fun K=>(QCi _ _ K).1) (fun h=>cf _ rfl (by kernel_rfl) h) fun B _=>?_;show Ent B [Blk b (m.cells so ss sp fr),Ar U8 fr m.fr] (QCi (some ⟨b,0,none⟩) now fun x0 x1 x2 x3 x4 x5 x6 x7=>Ret B (ss:=QNF) (fun t Bs=>(t.2.1=0∧t.2.2.1=0∧t.2.2.2.1=nilS∧t.2.2.2.2.1=nilS∧t.2.2.2.2.2.1=nilS∧t.2.2.2.2.2.2.1=0∧t.2.2.2.2.2.2.2.1=false)∧Bs=[Blk b ((QJe m now).cells so ss sp fr),Ar U8 fr m.fr,Ar U8 t.1 m.fr]) (x0,x1,x2,x3,x4,x5,x6,x7,()));unfold QCi mf;dsimp only;refine QAL fun b1=>QAQ (xgq ?_);rw[QAB (m.tries+1) (by omega) (by omega)];refine QAQ (xsq (QAQ (xsq (QAQ (QAE (s:=.slice) (x:=fr) (hv:=rfl) (h:=?_))))));refine xn1 (L:=fun s=>[Ar U8 s m.fr]) (QMO fr m.fr (by omega)) (fun x Bs hB=>hB) fun s5=>?_;iterate 6 (refine xsq ?_)
 refine xgq (xgq (xgS (h:=xgS (h:=xgS (h:=xgq ?_)))));exact QAK [Blk b ((QJe m now).cells so ss sp fr),Ar U8 fr m.fr,Ar U8 s5 m.fr] (QAD ⟨⟨rfl,rfl,rfl,rfl,rfl,rfl,rfl⟩,rfl⟩)
theorem QOO:QB8 Pr 325=true∧QB8 Pr 324=true:=⟨by kernel_rfl,by kernel_rfl⟩
theorem ca8{s1 s2 s3 s4 s5 s6 s7 s8:Sh}{K:s1.ty→s2.ty→s3.ty→s4.ty→s5.ty→s6.ty→s7.ty→s8.ty→WP}{a b c d e f g i}{v:Unit}(h:Ent B As (K a b c d e f g i)):Ent B As (Cur.app [s1,s2,s3,s4,s5,s6,s7,s8] K (a,b,c,d,e,f,g,i,v)):=h
theorem QSM(q:Option Addr)(m:MaM)(now:Int)(hn:0≤now∧now≤1099511627776):Ct Pr 231 [.pointer q,.I now] (.tup [none,some 6,none]) QNF [QA3 q m] emp (QKz q m now):=by
 refine QAg (ss:=QNF) (φ:=fun K=>(QCt _ _ K).1) (fun h=>cf _ rfl (by kernel_rfl) h) fun B _=>?_;show Ent B [QA3 q m] (QCt q now fun x0 x1 x2 x3 x4 x5 x6 x7=>Ret B (ss:=QNF) (QKz q m now) (x0,x1,x2,x3,x4,x5,x6,x7,()));unfold QKz;obtain⟨g,hg⟩:∃g,QDf m now=g:=⟨_,rfl⟩;rw[hg];unfold QDf at hg;unfold QCt mf;dsimp only;refine Qfc 0 fun b0 so ss sp fr hq ho=>?_;subst hq;have hat:=ho.at_;have hto:=ho.timeout;have hw:IntKind.i64.wrap (m.at_+m.timeout)=m.at_+m.timeout:=QAB _ (by omega) (by omega);refine QAL fun b1=>QAO (QAS (fun(c:Bool) As'=>c = !(decide (0<m.tries∧m.at_+m.timeout≤now))∧As'=[Blk b1 [.I 0,.I 0,.slice none 0 0,.slice none 0 0,.slice none 0 0,.I 0],Blk b0 (m.cells so ss sp fr),Ar BL so m.a.on,Ar W16 ss m.a.set,Ar PaE sp m.a.parts,Ar U8 fr m.fr]) (fun K hK=>?_) ?_)
 ·refine xd1 (QKr b0 m so ss sp fr) (xif (fun h=>?_) (fun h=>?_))
  ·refine QBz rfl (QAK [Blk b1 _,Blk b0 (m.cells so ss sp fr),Ar BL so m.a.on,Ar W16 ss m.a.set,Ar PaE sp m.a.parts,Ar U8 fr m.fr] (hK _ _ ⟨?_,rfl⟩))
   have h:¬0<m.tries:=by simpa using h
   rw[decide_eq_false (fun q=>h q.1)];rfl
  ·refine xd1 (QLQ now) (QBF (by simp;omega) (QAQ (xgq (QAQ (xgq ?_)))));rw[hw];refine QAK [Blk b1 _,Blk b0 (m.cells so ss sp fr),Ar BL so m.a.on,Ar W16 ss m.a.set,Ar PaE sp m.a.parts,Ar U8 fr m.fr] (hK _ _ ⟨?_,rfl⟩)
   have h:0<m.tries:=by simpa using h
   by_cases q:m.at_+m.timeout≤now
   ·rw[decide_eq_true (show 0<m.tries∧_ from⟨h,q⟩),decide_eq_false (show ¬now<m.at_+m.timeout by omega)];rfl
   ·rw[decide_eq_false (show ¬(0<m.tries∧_) from fun z=>q z.2),decide_eq_true (show now<m.at_+m.timeout by omega)];rfl
 rintro c _ ⟨rfl,rfl⟩;refine xif (fun h=>?_) (fun h=>?_)
 ·have h:¬(0<m.tries∧m.at_+m.timeout≤now):=fun q=>by rw[decide_eq_true q]at h;cases h
  rw[if_pos h]at hg;subst hg;iterate 6 (refine xsq ?_)
  refine xgq (xgq (xgS (h:=xgS (h:=xgS (h:=xgq ?_)))));refine QP5 b0 so ss sp fr m ho (QAd U8 (QAd W16 (QAd BL ?_)));exact QAK [Ar BL nilS [],Ar W16 nilS [],QA3 (some ⟨b0,0,none⟩) m,Ar U8 nilS []] (QAD ⟨rfl,rfl,rfl,rfl,rfl,rfl,rfl⟩)
 ·have h:0<m.tries∧m.at_+m.timeout≤now:=Classical.byContradiction fun q=>by rw[decide_eq_false q]at h;cases h
  rw[if_neg (fun q=>q h)]at hg;refine QAO (QAQ (xgq (QAQ (xgq (QAJ (xif (fun hr=>?_) (fun hr=>?_)))))))
  ·have hr:m.retries<m.tries:=by simpa using hr
   rw[if_pos hr]at hg;subst hg;refine Qel (g:=325) QOO.1 ?_;refine xcl (QVw b0 m so ss sp fr now) rdb ?_;rintro⟨w,w0,w1,w2,w3,w4,w5,w6,_⟩ _ ⟨⟨g,rfl,rfl,g2,g3,g4,rfl,rfl⟩,rfl⟩;simp only at g g2 g3 g4;subst g g2 g3 g4;refine QA5 (ca8 ?_);iterate 6 (refine xsq ?_)
   refine xgq (xgq (xgS (h:=xgS (h:=xgS (h:=xgq ?_)))));refine QP5 b0 so ss sp fr (QDB m) (QZG ho) (QAd U8 (QAd W16 (QAd BL ?_)));exact QAK [Ar BL nilS [],Ar W16 nilS [],QA3 (some ⟨b0,0,none⟩) (QDB m),Ar U8 nilS []] (QAD ⟨rfl,rfl,rfl,rfl,rfl,rfl,rfl⟩)
  ·have hr:m.tries≤m.retries:=by simpa using hr
   rw[if_neg (by omega)]at hg;subst hg;have htr:=ho.retries;refine Qel (g:=324) QOO.2 ?_;refine xcl (QZq b0 m so ss sp fr now (by omega) (by omega) ho.fr) rdb ?_;rintro⟨w,w0,w1,w2,w3,w4,w5,w6,_⟩ _ ⟨⟨rfl,rfl,g2,g3,g4,rfl,rfl⟩,rfl⟩;simp only at g2 g3 g4;subst g2 g3 g4;refine QQA (ca8 ?_);iterate 6 (refine xsq ?_)
   refine xgq (xgq (xgS (h:=xgS (h:=xgS (h:=xgq ?_)))));refine QP5 b0 so ss sp fr (QJe m now) ⟨ho.timeout,ho.retries,⟨by show (0:Int)≤m.tries+1;omega,by show m.tries+1≤m.retries+1;omega⟩,hn,ho.ask,ho.fr⟩ (QAd W16 (QAd BL ?_));exact QAK [Ar BL nilS [],Ar W16 nilS [],QA3 (some ⟨b0,0,none⟩) (QJe m now),Ar U8 w m.fr] (QAD ⟨rfl,rfl,rfl,rfl,rfl,rfl,rfl⟩)
end Go.Cx
