/-
Packets of every kind: what is wrong with them; as bytes; out of bytes.
-/
import Derived.Test.YthbhbkjkclhkgaaGreatDoorP1
import Derived.Test.YthbhbkjkclhkgaaGreatDoorA3
namespace Go.Cx
open Go Go.Cf
set_option linter.unusedVariables false
set_option maxRecDepth 100000
variable {B:QBG}{As F:List HP}{α:Type}
structure PkV where
 kind:Int
 epoch:Int
 seq:Int
 id:Int
 code:Int
 body:List UInt8
abbrev pk0:PkV:=⟨0,0,0,0,0,[]⟩
def QhC(p:PkV):Prop:=
 (p.kind=1∧p.id=0∧p.code=0∧(1≤p.epoch∧p.epoch≤1099511627776)∧(0≤p.seq∧p.seq<1099511627776)∧1≤p.body.length∧p.body.length≤1024) ∨
 (p.kind=2∧p.id=0∧p.code=0∧(1≤p.epoch∧p.epoch≤1099511627776)∧(0≤p.seq∧p.seq≤1099511627776)∧p.body=[]) ∨
 (p.kind=3∧p.epoch=0∧p.seq=0∧p.code=0∧(1≤p.id∧p.id≤1099511627776)∧2≤p.body.length∧p.body.length≤254) ∨
 (p.kind=4∧p.epoch=0∧p.seq=0∧(1≤p.id∧p.id≤1099511627776)∧(0≤p.code∧p.code≤255)∧p.body=[])
abbrev Qd2(p:PkV)(s:Sl):Value:=.agg #[.I p.kind,.I p.epoch,.I p.seq,.I p.id,.I p.code,s.v]
def pkE(p:PkV)(nb:Nat):Int:=
 if p.kind=1 then (if p.id≠0∨p.code≠0 then 23 else if p.epoch<1∨p.epoch>1099511627776∨p.seq<0∨p.seq>1099511627776∨p.seq=1099511627776 then 3 else if (nb:Int)<1 then 1 else if (nb:Int)>1024 then 2 else 0)
 else if p.kind=2 then (if p.id≠0∨p.code≠0∨(nb:Int)>0 then 23 else if p.epoch<1∨p.epoch>1099511627776∨p.seq<0∨p.seq>1099511627776 then 3 else 0)
 else if p.kind=3 then (if bits .or .i64 p.epoch p.seq≠0∨p.code≠0 then 23 else if p.id<1∨p.id>1099511627776∨p.code<0∨p.code>255 then 3 else if (nb:Int)<2 then 1 else if (nb:Int)>254 then 2 else 0)
 else if p.kind=4 then (if bits .or .i64 p.epoch p.seq≠0∨(nb:Int)>0 then 23 else if p.id<1∨p.id>1099511627776∨p.code<0∨p.code>255 then 3 else 0)
 else 28
theorem QFp(p:PkV)(s:Sl):Ct Pr 101 [Qd2 p s] .one [.I] [] emp (fun t Bs=>t.1=pkE p s.n∧Bs=[]):=by
 refine QGR QM1 fun B _=>?_;obtain⟨kind,epoch,seq,id,code,body⟩:=p;unfold QJ6 pkE
 (try simp only)
 refine QAL fun b=>xgq ?_;have fin:∀{As:List HP}{x y:Int},x=y→Ent B As (Ret B (ss:=[.I]) (fun t Bs=>t.1=y∧Bs=[]) (x,())):=fun h=>QAa (l:=[]) (QAE ⟨h,rfl⟩);by_cases h1:kind=1
 ·subst h1;rw[if_pos rfl]
  repeat' (first
   | refine QAJ ?_
   | refine xgq ?_
   | refine QAA (s:=.slice) (x:=s) (hv:=rfl) (h:=?_)
   | refine QQQ ?_
   | refine QBk rfl ?_
   | refine QBF rfl ?_
   | refine QAB (fun _=>?_) (fun _=>?_)
   | refine xif (fun _=>?_) (fun _=>?_)
   | refine fin ?_)
  all_goals simp_all
  all_goals omega
 by_cases h2:kind=2
 ·subst h2;rw[if_neg (by decide),if_pos rfl]
  repeat' (first
   | refine QAJ ?_
   | refine xgq ?_
   | refine QAA (s:=.slice) (x:=s) (hv:=rfl) (h:=?_)
   | refine QQQ ?_
   | refine QBk rfl ?_
   | refine QBF rfl ?_
   | refine QAB (fun _=>?_) (fun _=>?_)
   | refine xif (fun _=>?_) (fun _=>?_)
   | refine fin ?_)
  all_goals simp_all
  all_goals omega
 by_cases h3:kind=3
 ·subst h3;rw[if_neg (by decide),if_neg (by decide),if_pos rfl]
  repeat' (first
   | refine QAJ ?_
   | refine xgq ?_
   | refine QAA (s:=.slice) (x:=s) (hv:=rfl) (h:=?_)
   | refine QQQ ?_
   | refine QBk rfl ?_
   | refine QBF rfl ?_
   | refine QAB (fun _=>?_) (fun _=>?_)
   | refine xif (fun _=>?_) (fun _=>?_)
   | refine fin ?_)
  all_goals simp_all
  all_goals omega
 by_cases h4:kind=4
 ·subst h4;rw[if_neg (by decide),if_neg (by decide),if_neg (by decide),if_pos rfl]
  repeat' (first
   | refine QAJ ?_
   | refine xgq ?_
   | refine QAA (s:=.slice) (x:=s) (hv:=rfl) (h:=?_)
   | refine QQQ ?_
   | refine QBk rfl ?_
   | refine QBF rfl ?_
   | refine QAB (fun _=>?_) (fun _=>?_)
   | refine xif (fun _=>?_) (fun _=>?_)
   | refine fin ?_)
  all_goals simp_all
  all_goals omega
 rw[if_neg h1,if_neg h2,if_neg h3,if_neg h4];exact QAJ (QBF (Qdj h1) (QXS (fun q=>by omega) fun _=>QAJ (QBF rfl (QBF (Qdj h3) (fin rfl)))))
def Qc7(p:PkV):List UInt8:=if p.kind=3 then QPF p.id.toNat else if p.kind=4 then QPF p.id.toNat++[UInt8.ofNat p.code.toNat] else QPF p.epoch.toNat++QPF p.seq.toNat
def Qfh(p:PkV):List UInt8:=(UInt8.ofNat p.kind.toNat::Qc7 p)++p.body
def QXV(p:PkV):List UInt8:=QU7 (Qfh p)
theorem QP2(v:Nat):(QPF v).length=8:=QOd v 8
theorem QHM{R:List HP}{b1 b2:Nat}(k:UInt8)(vs:List Nat)(n:Nat)(hn:vs.length=n)(h2:n≤2){cells:List Value}(hc:QAg I64 (vs.map fun(v:Nat)=>(v:Int))=cells)[q:Split [Blk b1 [.int .u8 (k.toNat:Int)],Blk b2 cells] As R]{K:Sl→WP}
  (h:∀s1,Ent B (Ar U8 s1 (k::vs.flatMap QPF)::R) (K s1)):Ent B As (QAe Pr 155 [.slice (some ⟨b1,0,none⟩) 1 1,.slice (some ⟨b2,0,none⟩) n n] .one [.slice] K):=by
 refine Ent.perm q.perm (QBM ?_);refine QAf (Q:=Ar U8 ⟨some ⟨b1,0,none⟩,1,1⟩ [k]) 0 (fun g hg=>⟨[],QAm [k] 1 rfl rfl hg⟩) ?_;refine QAf (Q:=Ar I64 ⟨some ⟨b2,0,none⟩,n,n⟩ (vs.map fun(v:Nat)=>(v:Int))) 1 (fun g hg=>⟨[],QAm (vs.map fun(v:Nat)=>(v:Int)) n (by simpa using hn) hc hg (by omega)⟩) ?_;refine xn1 (L:=fun s=>[Ar U8 s (k::vs.flatMap QPF)]) (QPg ⟨some ⟨b1,0,none⟩,1,1⟩ [k] ⟨some ⟨b2,0,none⟩,n,n⟩ vs (by simp) (by omega)) (fun x Bs hB=>hB) fun s=>?_;exact QB1 1 (h s)
theorem Qf4{p:PkV}(hz:p.kind=3∨p.kind=4→p.epoch=0∧p.seq=0)(h:pkE p p.body.length=0):QhC p:=by
 unfold pkE at h;by_cases h1:p.kind=1
 ·rw[if_pos h1]at h;obtain⟨n1,h⟩:=QGU (by decide) h;obtain⟨n2,h⟩:=QGU (by decide) h;obtain⟨n3,h⟩:=QGU (by decide) h;obtain⟨n4,_⟩:=QGU (by decide) h;exact .inl ⟨h1,by omega,by omega,by omega,by omega,by omega,by omega⟩
 rw[if_neg h1]at h;have nil:∀{l:List UInt8},¬(l.length:Int)>0→l=[]:=fun {l} h=>List.eq_nil_of_length_eq_zero (by omega);by_cases h2:p.kind=2
 ·rw[if_pos h2]at h;obtain⟨n1,h⟩:=QGU (by decide) h;obtain⟨n2,h⟩:=QGU (by decide) h;exact .inr (.inl ⟨h2,by omega,by omega,by omega,by omega,nil (by omega)⟩)
 rw[if_neg h2]at h;by_cases h3:p.kind=3
 ·rw[if_pos h3]at h;obtain⟨n1,h⟩:=QGU (by decide) h;obtain⟨n2,h⟩:=QGU (by decide) h;obtain⟨n3,h⟩:=QGU (by decide) h;obtain⟨n4,_⟩:=QGU (by decide) h;exact .inr (.inr (.inl ⟨h3,(hz (.inl h3)).1,(hz (.inl h3)).2,by omega,by omega,by omega,by omega⟩))
 rw[if_neg h3]at h;by_cases h4:p.kind=4
 ·rw[if_pos h4]at h;obtain⟨n1,h⟩:=QGU (by decide) h;obtain⟨n2,h⟩:=QGU (by decide) h;exact .inr (.inr (.inr ⟨h4,(hz (.inr h4)).1,(hz (.inr h4)).2,by omega,by omega,nil (by omega)⟩))
 rw[if_neg h4]at h;cases h
def QBq(p:PkV):List UInt8:=if pkE p p.body.length=0 then QXV p else []
theorem QMC(p:PkV)(hz:p.kind=3∨p.kind=4→p.epoch=0∧p.seq=0)(s:Sl):Ct Pr 97 [Qd2 p s] (.tup [none,none]) [.slice,.I] [] (RAr U8 s p.body) (fun t Bs=>t.2.1=pkE p p.body.length∧Bs=[Ar U8 t.1 (QBq p)]):=by
 refine sp2 (QN4 _ _ _ _ _ _) fun B hr=>?_;haveI:Fro B s U8 p.body:=⟨hr⟩;have hs:=hr.1;unfold QN4 mf;dsimp only;refine QAL fun b=>?_;iterate 5 (refine xgq ?_)
 refine QAA (s:=.slice) (x:=s) (hv:=rfl) (h:=?_);refine xd1 (QFp p s) ?_;rw[←hs];refine xif (fun h0=>?_) (fun h0=>?_)
 ·have h0:pkE p p.body.length≠0:=by simpa using h0
  refine QB1 0 (QAd U8 (QAE ⟨rfl,?_⟩));rw[show QBq p=[] from if_neg h0]
 have h0:pkE p p.body.length=0:=by simpa using h0
 have h:=Qf4 hz h0;rw[show QBq p=QXV p from if_pos h0];refine xgq (QAL fun b1=>xgq ?_)
 have hk:IntKind.u8.wrap p.kind=((UInt8.ofNat p.kind.toNat).toNat:Int):=by rcases h with⟨e,_⟩|⟨e,_⟩|⟨e,_⟩|⟨e,_⟩<;>rw[e] <;> rfl
 have hbl:p.body.length≤1024:=by rcases h with⟨_,_,_,_,_,_,e⟩|⟨_,_,_,_,_,e⟩|⟨_,_,_,_,_,_,e⟩|⟨_,_,_,_,_,e⟩<;>first|omega|(rw[e];decide)
 have hhl:(Qc7 p).length≤16:=by unfold Qc7;split <;> (try split)<;>simp[QP2]
 have nat:∀{x:Int},0≤x→((x.toNat:Nat):Int)=x:=fun h=>by omega
 rw[hk];refine QAU (fun(x:Bool) As'=>x=((p.kind == 1)||(p.kind == 2))∧As'=[Blk b1 [.int .u8 ((UInt8.ofNat p.kind.toNat).toNat:Int)],Blk b [.I p.kind,.I p.epoch,.I p.seq,.I p.id,.I p.code,s.v]]) (fun K hK=>?_) ?_
 ·refine xif (fun e=>hK _ _ ⟨by rw[e];rfl,rfl⟩) (fun e=>hK _ _ ⟨by rw[e];rfl,rfl⟩)
 rintro _ _ ⟨rfl,rfl⟩;refine QAU (fun(s1:Sl) As'=>As'=[Ar U8 s1 (UInt8.ofNat p.kind.toNat::Qc7 p),Blk b [.I p.kind,.I p.epoch,.I p.seq,.I p.id,.I p.code,s.v]]) (fun K hK=>?_) ?_
 ·unfold Qc7 at hK;rcases h with⟨e,h1,h2,h3,h4,h5⟩|⟨e,h1,h2,h3,h4,h5⟩|⟨e,h1,h2,h3,h4,h5⟩|⟨e,h1,h2,h3,h4,h5⟩
  ·rw[if_neg (by omega),if_neg (by omega)]at hK;refine QBk (by rw[e];rfl) (xgq (xgq (QAL fun b2=>?_)));refine QHM (UInt8.ofNat p.kind.toNat) [p.epoch.toNat,p.seq.toNat] 2 rfl (by decide) (cells:=[.I p.epoch,.I p.seq]) (by show [Value.int .i64 ((p.epoch.toNat:Nat):Int),Value.int .i64 ((p.seq.toNat:Nat):Int)]=_;rw[nat (by omega),nat (by omega)]) fun s1=>?_;exact hK _ _ (by simp only[List.flatMap_cons,List.flatMap_nil,List.append_nil])
  ·rw[if_neg (by omega),if_neg (by omega)]at hK;refine QBk (by rw[e];rfl) (xgq (xgq (QAL fun b2=>?_)));refine QHM (UInt8.ofNat p.kind.toNat) [p.epoch.toNat,p.seq.toNat] 2 rfl (by decide) (cells:=[.I p.epoch,.I p.seq]) (by show [Value.int .i64 ((p.epoch.toNat:Nat):Int),Value.int .i64 ((p.seq.toNat:Nat):Int)]=_;rw[nat (by omega),nat (by omega)]) fun s1=>?_;exact hK _ _ (by simp only[List.flatMap_cons,List.flatMap_nil,List.append_nil])
  ·rw[if_pos e]at hK;refine QBF (by rw[e];rfl) (QAJ (QBk (by rw[e];rfl) (xgq (QAL fun b2=>?_))));refine QHM (UInt8.ofNat p.kind.toNat) [p.id.toNat] 1 rfl (by decide) (cells:=[.I p.id]) (by show [Value.int .i64 ((p.id.toNat:Nat):Int)]=_;rw[nat (by omega)]) fun s1=>?_;exact hK _ _ (by simp only[List.flatMap_cons,List.flatMap_nil,List.append_nil])
  ·rw[if_neg (by omega),if_pos e]at hK;refine QBF (by rw[e];rfl) (QAJ (QBF (by rw[e];rfl) (QAP (QAJ (xgq (xgq ?_))))));rw[show IntKind.u8.wrap p.code=((UInt8.ofNat p.code.toNat).toNat:Int) by rw[←QAr p.code.toNat];congr 1;omega]
   have hc64:QAg I64 ([p.id.toNat].map fun(v:Nat)=>(v:Int))=[.I p.id]:=by show [Value.int .i64 ((p.id.toNat:Nat):Int)]=_;rw[nat (by omega)]
   have leaf:∀{R:List HP}{As:List HP}(b6:Nat) (s3:Sl),[Split [Ar U8 s3 (UInt8.ofNat p.kind.toNat::[p.id.toNat].flatMap QPF),Blk b6 [.int .u8 ((UInt8.ofNat p.code.toNat).toNat:Int)],Blk b [.I p.kind,.I p.epoch,.I p.seq,.I p.id,.I p.code,s.v]] As R] →
     Ent B As (QSO Pr 34 34 34 s3.v (.slice (some ⟨b6,0,none⟩) 1 1) fun s4=>K s4):=by
    intro R As b6 s3 q;refine Ent.perm q.perm (QQC ?_);refine QAf (Q:=Ar U8 ⟨some ⟨b6,0,none⟩,1,1⟩ [UInt8.ofNat p.code.toNat]) 1 (fun g hg=>⟨[],QAm [UInt8.ofNat p.code.toNat] 1 rfl rfl hg⟩) ?_;refine QHX (E:=U8) (s:=s3) (y:=⟨some ⟨b6,0,none⟩,1,1⟩) (ys:=[UInt8.ofNat p.code.toNat]) (hb:=by simp[QP2]) (h:=fun s4=>?_);exact QAM [Ar U8 s4 ((UInt8.ofNat p.kind.toNat::[p.id.toNat].flatMap QPF)++[UInt8.ofNat p.code.toNat]),Blk b [.I p.kind,.I p.epoch,.I p.seq,.I p.id,.I p.code,s.v]] (hK _ _ (by simp))
   refine QXY (QAL fun b5=>QXY ?_ ?_) (QAL fun b8=>QAL fun b9=>?_)
   ·exact QHM (UInt8.ofNat p.kind.toNat) [p.id.toNat] 1 rfl (by decide) hc64 fun s3=>QC7 (h:=QAL fun b6=>leaf b6 s3)
   ·exact QAL fun b7=>QHM (UInt8.ofNat p.kind.toNat) [p.id.toNat] 1 rfl (by decide) hc64 fun s3=>QC7 (h:=leaf b7 s3)
   ·exact QHM (UInt8.ofNat p.kind.toNat) [p.id.toNat] 1 rfl (by decide) hc64 fun s3=>QC7 (h:=leaf b8 s3)
 rintro s1 _ rfl;refine QAA (s:=.slice) (x:=s) (hv:=rfl) (h:=?_);refine QHX (E:=U8) (s:=s1) (y:=s) (ys:=p.body) (hb:=by simp;omega) (h:=fun s2=>?_);refine xn1 (L:=fun s=>[Ar U8 s (QXV p)]) (QST s2 ((UInt8.ofNat p.kind.toNat::Qc7 p)++p.body) (by simp;omega)) (fun x Bs hB=>hB) fun s3=>?_;exact QAM [Ar U8 s3 (QXV p)] (QAE ⟨h0.symm,rfl⟩)
theorem rdc{E:Enc α}{s:Sl}{xs:List α}{G:List HP}(h:Rds B G (RAr E s xs))(l r m:Nat)(h1:l≤r)(h2:r≤m)(h3:r≤xs.length):Rds B G (RAr E (s.cut l r m E.sz) ((xs.take r).drop l)):=
 fun w hp hF a b c d e=>(h w hp hF a b c d e).cut l r m h1 h2 h3
def QM3(xs:List UInt8):Int:=IntKind.i64.wrap (beV (xs.take 8):Int)
theorem QQz(b:Sl)(xs:List UInt8)(hx:8≤xs.length)(hcap:b.n≤b.c):Ct Pr 100 [b.v] .one [.I] [] (RAr U8 b xs) (fun t Bs=>t.1=QM3 xs∧Bs=[]):=by
 refine sp1 (QJF _) fun B hr=>?_;have hn:=hr.1;unfold QJF mf;dsimp only;refine QZe rfl (by omega) (by omega) ?_;have hc:=hr.cut 0 8 b.c (by omega) (by omega) hx;rw[QHN]at hc;haveI fc:Fro B ⟨b.p,8,b.c⟩ U8 (xs.take 8):=⟨by simpa using hc⟩
 have hq:(xs.take 8).length=8:=by simp;omega
 refine QBb (fun(n:Nat) (v:Int) (i:Int) As=>∃k:Nat,i=(k:Int)∧v=((beV ((xs.take 8).take k):Nat):Int)∧n=8 - k∧k≤8∧As=[]) 8 ⟨0,rfl,rfl,rfl,by omega,rfl⟩ ?_;rintro n _ _ _ K ⟨k,rfl,rfl,rfl,hk,rfl⟩ hK;refine QAB (fun h=>?_) (fun h=>?_)
 ·have hk8:k<8:=by have h:(k:Int)<((8:Nat):Int):=h;omega
  have hy:=List.getElem?_eq_getElem (l:=xs.take 8) (i:=k) (by omega);refine QAI (E:=U8) (xs:=xs.take 8) (s:=⟨b.p,8,b.c⟩) (k:=k) (h1:=by omega) (h:=fun _ _=>?_);refine QAO (E:=U8) (xs:=xs.take 8) (i:=k) hy (h:=QA6 (by decide) ?_);rw[Qfi _ _ (QI7 hq hk8),QAF k (by omega)];exact hK (8 - (k+1)) _ _ _ (by omega) ⟨k+1,rfl,by rw[QK0 hy],rfl,by omega,rfl⟩
 ·have hk8:k=8:=by have h:¬(k:Int)<((8:Nat):Int):=h;omega
  subst hk8;rw[show (xs.take 8).take 8=xs.take 8 from List.take_of_length_le (by omega)];exact QAE ⟨rfl,rfl⟩
theorem QfI{cs:List Value}{s:Sh}{x:s.ty}{n k:Nat}{K:s.ty→WP}(hk:k<n)(hx:cs[k]? = some (s.mk x))(h:Ent B As (K x)):Ent B As (QMH cs (k:Int) n s K):=
 fun w hw=>⟨by omega,by omega,x,by rw[Int.toNat_natCast];exact hx,h w hw⟩
abbrev PkT:List Sh:=[.I,.I,.I,.I,.I,.slice,.I]
def QOP(p:PkV)(e:Int)(t:Tup PkT)(Bs:List HP):Prop:=
 t.1=p.kind∧t.2.1=p.epoch∧t.2.2.1=p.seq∧t.2.2.2.1=p.id∧t.2.2.2.2.1=p.code∧t.2.2.2.2.2.2.1=e∧Bs=[Ar U8 t.2.2.2.2.2.1 p.body]
abbrev pkC(k e q i c:Int)(s:Sl):List Value:=[.I k,.I e,.I q,.I i,.I c,s.v]
def QH7(k:Nat):Nat:=if k=1∨k=2 then 17 else if k=3 then 9 else 10
def pkF(k:Nat)(ys:List UInt8):PkV:=
 if k=1∨k=2 then ⟨k,QM3 (ys.drop 1),QM3 (ys.drop 9),0,0,if k=1 then ys.drop 17 else []⟩
 else if k=4 then ⟨4,0,0,QM3 (ys.drop 1),(ys.getD 9 0).toNat,[]⟩
 else ⟨3,0,0,QM3 (ys.drop 1),0,ys.drop 9⟩
def QA0(xs:List UInt8):PkV×Int:=
 if xs.length<5 then (pk0,1) else if (QER xs).1≠0 then (pk0,(QER xs).1) else
 let ys:=(QER xs).2
 let k:=(ys.getD 0 0).toNat
 if k<1∨k>4 then (pk0,28) else if ys.length<QH7 k then (pk0,1)
 else if (k=2∨k=4)∧ys.length>QH7 k then (pk0,2)
 else if pkE (pkF k ys) (pkF k ys).body.length≠0 then (pk0,pkE (pkF k ys) (pkF k ys).body.length) else (pkF k ys,0)
theorem QZC{xs:List UInt8}(h5:5≤xs.length)(h:(QER xs).1=0):(QER xs).2=xs.take (xs.length - 4):=by
 unfold QER at h⊢;rw[if_neg (by omega)]at h⊢;split
 ·rfl
 ·rename_i q
  rw[if_neg q]at h;cases h
theorem QL8(xs:List UInt8)(hm:xs.length≤1000000)(b:Sl)(hcap:b.n≤b.c):Ct Pr 35 [b.v] (.tup [some 6,none]) PkT [] (RAr U8 b xs) (QOP (QA0 xs).1 (QA0 xs).2):=by
 refine QAh (ss:=PkT) (φ:=fun K=>(QJe _ K).1) (fun h=>cf _ rfl (by kernel_rfl) h) fun B hr=>?_;show Ent B [] (QJe b fun x0 x1 x2 x3 x4 x5 x6=>Ret B (ss:=PkT) (QOP (QA0 xs).1 (QA0 xs).2) (x0,x1,x2,x3,x4,x5,x6,()));haveI:Fro B b U8 xs:=⟨hr⟩;have hn:=hr.1;obtain⟨g,hg⟩:∃g,QA0 xs=g:=⟨_,rfl⟩;rw[hg]
 have bad:∀{b1:Nat}{R:List HP}{e:Int},g=(pk0,e)→Ent B (Blk b1 (pkC 0 0 0 0 0 nilS)::R) (QBJ ⟨b1,0,none⟩ (.I 0)<|QBJ ⟨b1,1,none⟩ (.I 0)<|QBJ ⟨b1,2,none⟩ (.I 0)<|QBJ ⟨b1,3,none⟩ (.I 0)<|QBJ ⟨b1,4,none⟩ (.I 0)<|QBJ ⟨b1,5,none⟩ (.slice none 0 0)<|QAs (.I) ⟨b1,0,none⟩ fun(v:Int)=>QAs (.I) ⟨b1,1,none⟩ fun(v1:Int)=>QAs (.I) ⟨b1,2,none⟩ fun(v2:Int)=>QAs (.I) ⟨b1,3,none⟩ fun(v3:Int)=>QAs (.I) ⟨b1,4,none⟩ fun(v4:Int)=>QAs .slice ⟨b1,5,none⟩ fun v5=>Ret B (ss:=PkT) (QOP g.1 g.2) (v,v1,v2,v3,v4,v5,e,())):=by
  rintro b1 R e rfl;iterate 6 (refine xsq ?_)
  iterate 5 (refine xgq ?_)
  refine xgS (h:=?_);exact QAd U8 (QAM [Ar U8 nilS []] (QAE ⟨rfl,rfl,rfl,rfl,rfl,rfl,rfl⟩))
 unfold QJe mf;dsimp only;unfold QA0 at hg;refine QAL fun b1=>QAB (fun h=>bad (by rw[←hg,if_pos (by omega)])) (fun h=>?_)
 have h5:5≤xs.length:=by omega
 rw[if_neg (by omega)]at hg;refine xcl (QTU b xs hm hcap) rdb ?_;rintro⟨s,(r:Int),_⟩ _ ⟨hr1,rfl⟩;simp only at hr1;subst hr1;refine QA8 (ca2 (xif (fun h=>QB1 0 (bad ?_)) (fun h=>?_)))
 ·rw[←hg,if_pos (by simpa using h)]
 have ho:(QER xs).1=0:=by simpa using h
 rw[if_neg (by rw[ho];decide)]at hg;have hys:=QZC h5 ho
 generalize (QER xs).2=ys at *
 have hyl:ys.length=xs.length - 4:=by rw[hys,List.length_take];omega
 clear hys;simp only at hg;have hcl:=(ys.getD 0 0).toNat_lt
 generalize hk:(ys.getD 0 0).toNat=k at *
 refine QCn (E:=U8) (xs:=ys) s fun hsn hsc=>?_;refine QAI (E:=U8) (xs:=ys) (s:=s) (k:=0) (h1:=by omega) (h:=fun _ _=>?_);refine QAO (E:=U8) (xs:=ys) (i:=0) (gdE (d:=0) (by omega)) (h:=QAL fun b2=>?_);rw[hk,QXL (k:Int) (by omega) (by omega)];iterate 6 (refine xsq ?_)
 refine xgq (QQQ (xif (fun h=>?_) (fun h=>?_)))
 ·refine QAW [Blk b1 (pkC 0 0 0 0 0 nilS)] (bad ?_);rw[←hg,if_pos (by simp at h;omega)]
 have hk4:1≤k∧k≤4:=by simp at h;omega
 rw[if_neg (by omega)]at hg;refine xgq ?_;refine QfI (s:=.I) (x:=((QH7 k:Nat):Int)) (by omega) ?_ ?_
 ·obtain e|e|e|e:k=1∨k=2∨k=3∨k=4:=by omega
  all_goals subst e;rfl
 refine QAB (fun h=>?_) (fun h=>?_)
 ·refine QAW [Blk b1 (pkC 0 0 0 0 0 nilS)] (bad ?_);rw[←hg,if_pos (by omega)]
 rw[if_neg (by omega)]at hg
 have hh9:9≤QH7 k∧(k=1∨k=2→QH7 k=17)∧(k=4→QH7 k=10)∧(k=3→QH7 k=9):=by
  obtain e|e|e|e:k=1∨k=2∨k=3∨k=4:=by omega
  all_goals subst e;decide
 obtain⟨hh9,hh17,hh10,hh3⟩:=hh9;refine xgq ?_
 have hcut:∀i:Nat,(ys.take s.n).drop i=ys.drop i:=fun i=>by rw[List.take_of_length_le (by omega)]
 have num:∀{As:List HP}{K:Int→WP}(i:Nat),i+8≤ys.length→[Rdb B As (RAr U8 s ys)]→Ent B As (K (QM3 (ys.drop i)))→Ent B As (QAe Pr 100 [(s.cut i s.n s.c 1).v] .one [.I] K):=by
  intro As K i hl _ hK
  have hdl:8≤((ys.take s.n).drop i).length:=by rw[hcut i,List.length_drop];omega
  refine QAR (QQz (s.cut i s.n s.c 1) ((ys.take s.n).drop i) hdl (by unfold Sl.cut;split<;>simp only<;>omega)) (rdc rdb i s.n s.c (by omega) hsc (by omega)) ?_;rintro⟨t,_⟩ _ ⟨ht,rfl⟩;rw[hcut i]at ht;simp only at ht;subst ht;exact QAz (ca1 hK)
 have slc:∀{As:List HP}{K:Sl→WP}(i:Nat),i≤s.n→Ent B As (K (s.cut i s.n s.c 1))→Ent B As (QNS s (i:Int) (s.n:Int) (s.c:Int) 1 K):=fun i hi hK=>by
  refine QEf (by omega) (by omega) (by omega) (by omega) ?_;simpa only[Int.toNat_natCast]using hK
 have hkd:(pkF k ys).kind=(k:Int):=by
  unfold pkF;split
  ·rfl
  ·split
   ·simp only;omega
   ·simp only;omega
 refine QAW [Blk b2 (pkC k 0 0 0 0 nilS),Blk b1 (pkC 0 0 0 0 0 nilS),Ar U8 s ys] ?_;refine QAM [Blk b2 (pkC k 0 0 0 0 nilS),Blk b1 (pkC 0 0 0 0 0 nilS),Ar U8 s ys] ?_
 have J:∀{As:List HP}{K:Bool→WP},Ent B As (K (decide (k=1∨k=2)))→Ent B As (QBW [.bool] (fun(K':Bool→WP)=>XIf ((k:Int) == 1) (K' ((k:Int) == 1)) (K' ((k:Int) == 2))) K):=by
  intro As K hK;refine QXS (fun h=>?_) (fun h=>?_)
  ·rw[decide_eq_true (by omega)]at hK;exact hK
  ·rw[decide_eq_false (by omega)]at hK;exact hK
 refine J ?_
 generalize hP:pkF k ys=P at *
 refine QBx (fun As'=>As'=[Blk b2 (pkC P.kind P.epoch P.seq P.id P.code nilS),Blk b1 (pkC 0 0 0 0 0 nilS),Ar U8 s ys]) (fun K hK=>?_) ?_
 ·refine QAB (fun e=>?_) (fun e=>?_)
  ·have hl:=hh17 e
   obtain rfl:(⟨k,QM3 (ys.drop 1),QM3 (ys.drop 9),0,0,if k=1 then ys.drop 17 else []⟩:PkV)=P:=by rw[←hP];unfold pkF;rw[if_pos e]
   exact QAP (slc 1 (by omega) (slc 9 (by omega) (num 1 (by omega) (num 9 (by omega) (xsq (xsq (hK _ rfl)))))))
  ·refine QAJ (xif (fun e4=>?_) (fun e4=>?_))
   ·have e4:k=4:=by have:=eq_of_beq e4;omega
    have hl:=hh10 e4
    obtain rfl:(⟨4,0,0,QM3 (ys.drop 1),(ys.getD 9 0).toNat,[]⟩:PkV)=P:=by rw[←hP];unfold pkF;rw[if_neg e,if_pos e4]
    subst e4;have c9:ys[9]? = some (ys.getD 9 0):=gdE (by omega);refine QAP (slc 1 (by omega) ?_);refine QAI (E:=U8) (xs:=ys) (s:=s) (k:=9) (h1:=by omega) (h:=fun _ _=>?_);refine QAO (E:=U8) (xs:=ys) (i:=9) c9 (h:=?_);have:=(ys.getD 9 0).toNat_lt;rw[QXL ((ys.getD 9 0).toNat:Int) (by omega) (by omega)];refine num 1 (by omega) (QNL (E:=U8) (xs:=ys) (i:=9) c9 (h:=xsq ?_));exact QNL (E:=U8) (xs:=ys) (i:=9) c9 (h:=xsq (hK _ rfl))
   ·have e4:k≠4:=by have:=ne_of_beq_false e4;omega
    obtain rfl:(⟨3,0,0,QM3 (ys.drop 1),0,ys.drop 9⟩:PkV)=P:=by rw[←hP];unfold pkF;rw[if_neg e,if_neg e4]
    have:=hh3 (by omega);refine slc 1 (by omega) (num 1 (by omega) (xsq (hK _ ?_)));rw[show (k:Int)=3 by omega]
 rintro _ rfl;rw[hkd];refine xgq (QAU (fun(x:Bool) As'=>(x=true↔(k=1∨k=3))∧As'=[Blk b2 (pkC k P.epoch P.seq P.id P.code nilS),Blk b1 (pkC 0 0 0 0 0 nilS),Ar U8 s ys]) (fun K hK=>?_) ?_)
 ·exact xif (fun e=>hK _ _ ⟨⟨fun _=>.inl (by have:=eq_of_beq e;omega),fun _=>rfl⟩,rfl⟩) (fun e=>QAA (h:=hK _ _ ⟨by have:=ne_of_beq_false e;rw[beq_iff_eq];omega,rfl⟩))
 rintro c1 _ ⟨hc1,rfl⟩
 have hbody:(k=1∨k=3→P.body=ys.drop (QH7 k))∧(¬(k=1∨k=3)→P.body=[]):=by
  rw[←hP]
  obtain e|e|e|e:k=1∨k=2∨k=3∨k=4:=by omega
  all_goals subst e;exact⟨fun h=>by first|rfl|omega,fun h=>by first|rfl|omega⟩
 refine QBx (fun As'=>¬((k=2∨k=4)∧ys.length>QH7 k)∧∃s':Sl,As'=[Blk b2 (pkC k P.epoch P.seq P.id P.code s'),Blk b1 (pkC 0 0 0 0 0 nilS),Ar U8 s' P.body]) (fun K hK=>?_) ?_
 ·refine xif (fun e=>?_) (fun e=>?_)
  ·have e:=hc1.1 e;refine slc (QH7 k) (by omega) (xsq ?_);refine QAW [Ar U8 s ys] (QAf (Q:=Ar U8 (s.cut (QH7 k) s.n s.c 1) P.body) 0 (fun g hg=>?_) ?_)
   ·obtain⟨z,hz⟩:=hg;have:=Ars.dropc hz (QH7 k) (by omega);rw[←hbody.1 e]at this;exact⟨z,this⟩
   ·exact QAW [Blk b2 _,Blk b1 _,Ar U8 (s.cut (QH7 k) s.n s.c 1) P.body] (hK _ ⟨by omega,_,rfl⟩)
  ·have e:¬(k=1∨k=3):=fun q=>by rw[hc1.2 q]at e;cases e
   refine QAB (fun h2=>?_) (fun h2=>?_)
   ·refine QAW [Blk b1 (pkC 0 0 0 0 0 nilS)] (bad ?_);rw[←hg,if_pos (by omega)]
   ·refine QB1 2 (QAd U8 (QAW [Blk b2 _,Blk b1 _,Ar U8 nilS []] (hK _ ⟨by omega,nilS,by rw[hbody.2 e]⟩)))
 rintro _ ⟨hno,s',rfl⟩;rw[if_neg hno]at hg;iterate 5 (refine xgq ?_)
 refine QAA (s:=.slice) (x:=s') (hv:=rfl) (h:=?_);refine QAW [Ar U8 s' P.body] (QCn (E:=U8) (xs:=P.body) s' fun hs' _=>?_);rw[←hkd];refine xd1 (QFp P s') ?_;rw[←hs'];refine xif (fun h=>?_) (fun h=>?_)
 ·refine QAW [Blk b1 (pkC 0 0 0 0 0 nilS)] (bad ?_);rw[←hg,if_pos (by simpa using h)]
 rw[if_neg (by simpa using h)]at hg;iterate 5 (refine xgq ?_)
 refine QAA (s:=.slice) (x:=s') (hv:=rfl) (h:=?_);iterate 6 (refine xsq ?_)
 iterate 5 (refine xgq ?_)
 refine QAA (s:=.slice) (x:=s') (hv:=rfl) (h:=?_);subst hg;exact QAM [Ar U8 s' P.body] (QAE ⟨rfl,rfl,rfl,rfl,rfl,rfl,rfl⟩)
end Go.Cx
namespace Go.Cx
open Go Go.Cf
set_option linter.unusedVariables false
set_option maxRecDepth 100000
variable {B:QBG}{As F:List HP}
structure QKf where
 id:Int
 unit:Int
 a:AskV
abbrev QaI:QKf:=⟨0,0,QcT⟩
abbrev cmC(c:QKf)(so ss sp:Sl):List Value:=[.I c.id,.I c.unit,.I c.a.code,.I c.a.addr,.I c.a.count,so.v,ss.v,sp.v]
def QDE(c:QKf):PkV×Int:=
 if c.id<1∨c.id>1099511627776 then (pk0,3) else if c.unit<1∨c.unit>247 then (pk0,24)
 else if c.a.e≠0 then (pk0,c.a.e) else if QOs c.a.code=false then (pk0,20)
 else (⟨3,0,0,c.id,0,UInt8.ofNat c.unit.toNat::QGO c.a⟩,0)
theorem QUI(a:AskV)(h:a.e=0):(QGO a).length≤300:=by
 have hk:=(QB0 h).2;have h4:∀x y:Int,(QCo x++QCo y).length=4:=fun _ _=>rfl;unfold QGO QSM;rcases hk with⟨q,_⟩|⟨q,_⟩|⟨q,_⟩|⟨q,_⟩|⟨q,_,hl,_⟩|⟨q,_,_,hl,_⟩|⟨q,_,_,_,hl,_⟩
 ·rw[if_neg (by omega),if_neg (by omega),if_neg (by omega),if_neg (by omega),if_neg (by omega),List.length_cons,h4];omega
 ·rw[if_neg (by omega),if_neg (by omega),if_neg (by omega),if_neg (by omega),if_neg (by omega),List.length_cons,h4];omega
 ·rw[if_pos q,List.length_cons,h4];omega
 ·rw[if_neg (by omega),if_pos q,List.length_cons,h4];omega
 ·have hb:=QEl a.on;have:QGd a.on.length=(a.on.length+7) / 8:=rfl;rw[if_neg (by omega),if_neg (by omega),if_pos q];rw[List.length_cons,List.length_append,List.length_append,h4,List.length_singleton];omega
 ·rw[if_neg (by omega),if_neg (by omega),if_neg (by omega),if_pos q];rw[List.length_cons,List.length_append,List.length_append,h4,List.length_singleton,QEX];omega
 ·rw[if_neg (by omega),if_neg (by omega),if_neg (by omega),if_neg (by omega),if_pos q];rw[List.length_cons,List.length_cons,QOM];omega
theorem QSc(c:QKf)(hw:QMw c.a.set)(so ss sp:Sl):Ct Pr 45 [.agg (cmC c so ss sp).toArray] (.tup [some 6,none]) PkT [] (askR c.a so ss sp) (QOP (QDE c).1 (QDE c).2):=by
 refine QAh (ss:=PkT) (φ:=fun K=>(QC9 _ _ _ _ _ _ _ _ K).1) (fun h=>cf _ rfl (by kernel_rfl) h) fun B hr=>?_;show Ent B [] (QC9 c.id c.unit c.a.code c.a.addr c.a.count so ss sp fun x0 x1 x2 x3 x4 x5 x6=>Ret B (ss:=PkT) (QOP (QDE c).1 (QDE c).2) (x0,x1,x2,x3,x4,x5,x6,()));obtain⟨ha1,ha2,ha3⟩:=hr;haveI:Fro B so BL c.a.on:=⟨ha1⟩;haveI:Fro B ss W16 c.a.set:=⟨ha2⟩;haveI:Fro B sp PaE c.a.parts:=⟨ha3⟩;obtain⟨g,hg⟩:∃g,QDE c=g:=⟨_,rfl⟩;rw[hg]
 have bad:∀{b1:Nat}{R:List HP}{e:Int},g=(pk0,e)→Ent B (Blk b1 (pkC 0 0 0 0 0 nilS)::R) (QBJ ⟨b1,0,none⟩ (.I 0)<|QBJ ⟨b1,1,none⟩ (.I 0)<|QBJ ⟨b1,2,none⟩ (.I 0)<|QBJ ⟨b1,3,none⟩ (.I 0)<|QBJ ⟨b1,4,none⟩ (.I 0)<|QBJ ⟨b1,5,none⟩ (.slice none 0 0)<|QAs (.I) ⟨b1,0,none⟩ fun(v:Int)=>QAs (.I) ⟨b1,1,none⟩ fun(v1:Int)=>QAs (.I) ⟨b1,2,none⟩ fun(v2:Int)=>QAs (.I) ⟨b1,3,none⟩ fun(v3:Int)=>QAs (.I) ⟨b1,4,none⟩ fun(v4:Int)=>QAs .slice ⟨b1,5,none⟩ fun v5=>Ret B (ss:=PkT) (QOP g.1 g.2) (v,v1,v2,v3,v4,v5,e,())):=by
  rintro b1 R e rfl;iterate 6 (refine xsq ?_)
  iterate 5 (refine xgq ?_)
  refine xgS (h:=?_);exact QAd U8 (QAM [Ar U8 nilS []] (QAE ⟨rfl,rfl,rfl,rfl,rfl,rfl,rfl⟩))
 unfold QC9 mf;dsimp only;unfold QDE at hg;refine QAL fun b=>QAL fun b1=>xgq (QQQ (xif (fun h=>bad ?_) (fun h=>?_)))
 ·rw[←hg,if_pos (by simp at h;omega)]
 have hid:1≤c.id∧c.id≤1099511627776:=by simp at h;omega
 rw[if_neg (by omega)]at hg;refine xgq (QQQ (xif (fun h=>bad ?_) (fun h=>?_)))
 ·rw[←hg,if_pos (by simp at h;omega)]
 have hu:1≤c.unit∧c.unit≤247:=by simp at h;omega
 rw[if_neg (by omega)]at hg;iterate 3 (refine xgq ?_)
 refine QAA (s:=.slice) (x:=so) (hv:=rfl) (h:=QAA (s:=.slice) (x:=ss) (hv:=rfl) (h:=QAA (s:=.slice) (x:=sp) (hv:=rfl) (h:=?_)));refine xn2 (L:=fun s=>[Ar U8 s (QDe c.a)]) (QFy c.a hw so ss sp) (fun x y Bs hB=>hB) fun s3=>?_;refine xif (fun h=>QB1 0 (bad ?_)) (fun h=>?_)
 ·rw[←hg,if_pos (by simpa using h)]
 have h0:c.a.e=0:=by simpa using h
 rw[if_neg (by rw[h0];decide)]at hg;rw[show QDe c.a=QGO c.a from if_pos h0];have hl:=QUI c.a h0;iterate 3 (refine xgq ?_)
 refine QAA (s:=.slice) (x:=so) (hv:=rfl) (h:=QAA (s:=.slice) (x:=ss) (hv:=rfl) (h:=QAA (s:=.slice) (x:=sp) (hv:=rfl) (h:=?_)));refine xd1 (QLy c.a.code c.a.addr c.a.count so ss sp) (xif (fun h=>QB1 0 (bad ?_)) (fun h=>?_))
 ·rw[←hg,if_pos (by simpa using h)]
 rw[if_neg (by simpa using h)]at hg;refine QAP (xgq (xgq (QAL fun b2=>?_)));rw[show IntKind.u8.wrap c.unit=((UInt8.ofNat c.unit.toNat).toNat:Int) by rw[←QAr c.unit.toNat];congr 1;omega];refine QAf (Q:=Ar U8 ⟨some ⟨b2,0,none⟩,1,1⟩ [UInt8.ofNat c.unit.toNat]) 0 (fun g hg=>⟨[],QAm [UInt8.ofNat c.unit.toNat] 1 rfl rfl hg⟩) ?_;refine QHX (E:=U8) (s:=⟨some ⟨b2,0,none⟩,1,1⟩) (y:=s3) (ys:=QGO c.a) (hb:=by simp only[List.length_cons,List.length_nil];omega) (h:=fun s7=>QC7 (h:=?_));iterate 6 (refine xsq ?_)
 iterate 5 (refine xgq ?_)
 refine QAA (s:=.slice) (x:=s7) (hv:=rfl) (h:=?_);subst hg;exact QAM [Ar U8 s7 ([UInt8.ofNat c.unit.toNat]++QGO c.a)] (QAE ⟨rfl,rfl,rfl,rfl,rfl,rfl,rfl⟩)
abbrev CmT:List Sh:=[.I,.I,.I,.I,.I,.slice,.slice,.slice,.I]
def QYH(c:QKf)(e:Int)(t:Tup CmT)(Bs:List HP):Prop:=
 t.1=c.id∧t.2.1=c.unit∧t.2.2.1=c.a.code∧t.2.2.2.1=c.a.addr∧t.2.2.2.2.1=c.a.count∧t.2.2.2.2.2.2.2.2.1=e∧Bs=[Ar BL t.2.2.2.2.2.1 c.a.on,Ar W16 t.2.2.2.2.2.2.1 c.a.set,Ar PaE t.2.2.2.2.2.2.2.1 c.a.parts]
def QDa(p:PkV):QKf×Int:=
 if pkE p p.body.length≠0 then (QaI,pkE p p.body.length) else if p.kind≠3 then (QaI,28)
 else if (p.body.getD 0 0).toNat<1∨(p.body.getD 0 0).toNat>247 then (QaI,24)
 else if (QAY (p.body.drop 1)).2≠0 then (QaI,(QAY (p.body.drop 1)).2)
 else if QOs (QAY (p.body.drop 1)).1.code=false then (QaI,20)
 else (⟨p.id,(p.body.getD 0 0).toNat,(QAY (p.body.drop 1)).1⟩,0)
theorem QX8{p:PkV}{n:Nat}(h:pkE p n=0)(h3:p.kind=3):2≤n∧n≤254:=by
 unfold pkE at h;rw[if_neg (by omega),if_neg (by omega),if_pos h3]at h;obtain⟨n1,h⟩:=QGU (by decide) h;obtain⟨n2,h⟩:=QGU (by decide) h;obtain⟨n3,h⟩:=QGU (by decide) h;obtain⟨n4,_⟩:=QGU (by decide) h;omega
theorem QTu(p:PkV)(s:Sl)(hc:s.n≤s.c):Ct Pr 342 [Qd2 p s] (.tup [some 8,none]) CmT [] (RAr U8 s p.body) (QYH (QDa p).1 (QDa p).2):=by
 refine QAh (ss:=CmT) (φ:=fun K=>(QDC _ _ _ _ _ _ K).1) (fun h=>cf _ rfl (by kernel_rfl) h) fun B hr=>?_;show Ent B [] (QDC p.kind p.epoch p.seq p.id p.code s fun x0 x1 x2 x3 x4 x5 x6 x7 x8=>Ret B (ss:=CmT) (QYH (QDa p).1 (QDa p).2) (x0,x1,x2,x3,x4,x5,x6,x7,x8,()));have hn:p.body.length=s.n:=hr.1;haveI:Fro B s U8 p.body:=⟨hr⟩;obtain⟨g,hg⟩:∃g,QDa p=g:=⟨_,rfl⟩;rw[hg]
 have bad:∀{b1:Nat}{R:List HP}{e:Int},g=(QaI,e)→Ent B (Blk b1 (cmC QaI nilS nilS nilS)::R) (QBJ ⟨b1,0,none⟩ (.I 0)<|QBJ ⟨b1,1,none⟩ (.I 0)<|QBJ ⟨b1,2,none⟩ (.I 0)<|QBJ ⟨b1,3,none⟩ (.I 0)<|QBJ ⟨b1,4,none⟩ (.I 0)<|QBJ ⟨b1,5,none⟩ (.slice none 0 0)<|QBJ ⟨b1,6,none⟩ (.slice none 0 0)<|QBJ ⟨b1,7,none⟩ (.slice none 0 0) <|
   QAs (.I) ⟨b1,0,none⟩ fun(v:Int)=>QAs (.I) ⟨b1,1,none⟩ fun(v1:Int)=>QAs (.I) ⟨b1,2,none⟩ fun(v2:Int)=>QAs (.I) ⟨b1,3,none⟩ fun(v3:Int)=>QAs (.I) ⟨b1,4,none⟩ fun(v4:Int)=>QAs .slice ⟨b1,5,none⟩ fun v5=>QAs .slice ⟨b1,6,none⟩ fun v6=>QAs .slice ⟨b1,7,none⟩ fun v7=>Ret B (ss:=CmT) (QYH g.1 g.2) (v,v1,v2,v3,v4,v5,v6,v7,e,())):=by
  rintro b1 R e rfl;iterate 8 (refine xsq ?_)
  iterate 5 (refine xgq ?_)
  iterate 3 (refine xgS (h:=?_))
  exact QAd W16 (QAd BL (QAd PaE (QAM [Ar BL nilS [],Ar W16 nilS [],Ar PaE nilS []] (QAE ⟨rfl,rfl,rfl,rfl,rfl,rfl,rfl⟩))))
 unfold QDC mf;dsimp only;unfold QDa at hg;refine QAL fun b=>QAL fun b1=>?_;iterate 5 (refine xgq ?_)
 refine QAA (s:=.slice) (x:=s) (hv:=rfl) (h:=xd1 (QFp p s) ?_);rw[←hn];refine xif (fun h=>bad ?_) (fun h=>?_)
 ·rw[←hg,if_pos (by simpa using h)]
 have hE:pkE p p.body.length=0:=by simpa using h
 rw[if_neg (by rw[hE];decide)]at hg;refine xgq (xif (fun h=>bad ?_) (fun h=>?_))
 ·rw[←hg,if_pos (by simpa using h)]
 have h3:p.kind=3:=by simpa using h
 rw[if_neg (by omega)]at hg;obtain⟨hb1,hb2⟩:=QX8 hE h3;have hcl:=(p.body.getD 0 0).toNat_lt;have c0:p.body[0]? = some (p.body.getD 0 0):=gdE (by omega);refine QAA (s:=.slice) (x:=s) (hv:=rfl) (h:=?_);refine QAI (E:=U8) (xs:=p.body) (s:=s) (k:=0) (h1:=by omega) (h:=fun _ _=>?_);refine QAO (E:=U8) (xs:=p.body) (i:=0) c0 (h:=?_);rw[QXL ((p.body.getD 0 0).toNat:Int) (by omega) (by omega)];refine QQQ (xif (fun h=>bad ?_) (fun h=>?_))
 ·rw[←hg,if_pos (by rw[Bool.or_eq_true,decide_eq_true_iff,decide_eq_true_iff]at h;omega)]
 have hu:¬((p.body.getD 0 0).toNat<1∨(p.body.getD 0 0).toNat>247):=by rw[Bool.or_eq_false_iff,decide_eq_false_iff_not,decide_eq_false_iff_not]at h;omega
 rw[if_neg hu]at hg;refine QAA (s:=.slice) (x:=s) (hv:=rfl) (h:=?_);refine QEf (by omega) (by omega) (by omega) (by omega) ?_;simp only[Int.toNat_natCast];have hcut:=hr.cut 1 s.n s.c (by omega) hc (by omega)
 have e:(p.body.take s.n).drop 1=p.body.drop 1:=by rw[List.take_of_length_le (by omega)]
 haveI:Fro B (s.cut (Int.toNat 1) s.n s.c 1) U8 (p.body.drop 1):=⟨e ▸ hcut⟩;refine xcl (QF6 (p.body.drop 1) (by simp;omega) (s.cut (Int.toNat 1) s.n s.c 1) (by show s.n - 1≤s.c - 1;omega)) rdb ?_
 generalize QAY (p.body.drop 1)=q at *
 obtain⟨a,ea⟩:=q;rintro⟨v0,v1,v2,so,ss,sp,v6,_⟩ _ ⟨rfl,rfl,rfl,h5,rfl⟩;simp only at h5 hg;subst h5;refine QQC (ca7 (QAL fun b2=>?_));iterate 6 (refine xsq ?_)
 refine xif (fun h=>?_) (fun h=>?_)
 ·refine QAW [Blk b1 (cmC QaI nilS nilS nilS)] (bad ?_);rw[←hg,if_pos (by simpa using h)]
 rw[if_neg (by simpa using h)]at hg;iterate 3 (refine xgq ?_)
 refine QAA (s:=.slice) (x:=so) (hv:=rfl) (h:=QAA (s:=.slice) (x:=ss) (hv:=rfl) (h:=QAA (s:=.slice) (x:=sp) (hv:=rfl) (h:=?_)));refine xd1 (QLy a.code a.addr a.count so ss sp) (xif (fun h=>?_) (fun h=>?_))
 ·refine QAW [Blk b1 (cmC QaI nilS nilS nilS)] (bad ?_);rw[←hg,if_pos (by simpa using h)]
 rw[if_neg (by simpa using h)]at hg;subst hg;refine QAP (xgq (QAA (s:=.slice) (x:=s) (hv:=rfl) (h:=?_)));refine QAI (E:=U8) (xs:=p.body) (s:=s) (k:=0) (h1:=by omega) (h:=fun _ _=>?_);refine QAO (E:=U8) (xs:=p.body) (i:=0) c0 (h:=?_);rw[QXL ((p.body.getD 0 0).toNat:Int) (by omega) (by omega)];iterate 3 (refine xgq ?_)
 refine QAA (s:=.slice) (x:=so) (hv:=rfl) (h:=QAA (s:=.slice) (x:=ss) (hv:=rfl) (h:=QAA (s:=.slice) (x:=sp) (hv:=rfl) (h:=?_)));iterate 8 (refine xsq ?_)
 iterate 5 (refine xgq ?_)
 refine QAA (s:=.slice) (x:=so) (hv:=rfl) (h:=QAA (s:=.slice) (x:=ss) (hv:=rfl) (h:=QAA (s:=.slice) (x:=sp) (hv:=rfl) (h:=?_)));exact QAM [Ar BL so a.on,Ar W16 ss a.set,Ar PaE sp a.parts] (QAE ⟨rfl,rfl,rfl,rfl,rfl,rfl,rfl⟩)
theorem QLE:∀(xs:List UInt8),QMw (QGw xs)
 | []=>fun v h=>by simp[QGw]at h
 | [_]=>fun v h=>by simp[QGw]at h
 | a::b::xs=>fun v h=>by
  have:=a.toNat_lt;have:=b.toNat_lt;rcases List.mem_cons.1 (show v∈((a.toNat*256+b.toNat:Nat):Int)::QGw xs from h) with rfl|h
  ·omega
  ·exact QLE xs v h
theorem QHD(xs:List UInt8):QMw (QAY xs).1.set:=by
 have nil:QMw []:=fun v h=>by cases h
 unfold QAY;repeat' split
 all_goals try exact nil
 unfold QBS
 (try simp only)
 repeat' split
 all_goals try exact nil
 ·intro v h;simp only[List.mem_singleton]at h;have:=QcV xs 3;omega
 ·unfold QCk;split
  ·exact QLE _
  ·exact nil
theorem QTq(xs:List UInt8)(h:(xs.getD 0 0).toNat≠20):(QAY xs).1.code≠20:=by
 unfold QAY;repeat' split
 all_goals try (show (0:Int)≠20;decide)
 unfold QBS
 (try simp only)
 repeat' split
 all_goals try (first|(show (5:Int)≠20;decide)|(show (6:Int)≠20;decide)|(show (15:Int)≠20;decide)|(show (16:Int)≠20;decide))
 ·contradiction
 ·simp only;omega
structure MaM where
 timeout:Int
 retries:Int
 tries:Int
 at_:Int
 unit:Int
 a:AskV
 fr:List UInt8
structure QdD(m:MaM):Prop where
 timeout:1≤m.timeout∧m.timeout≤1048576
 retries:0≤m.retries∧m.retries≤5
 tries:0≤m.tries∧m.tries≤m.retries+1
 at_:0≤m.at_∧m.at_≤1099511627776
 ask:QMw m.a.set∧m.a.code≠20
 fr:m.fr.length≤1000
abbrev MaM.cells(m:MaM)(so ss sp fr:Sl):List Value:=[.I m.timeout,.I m.retries,.I m.tries,.I m.at_,.I m.unit,.I m.a.code,.I m.a.addr,.I m.a.count,so.v,ss.v,sp.v,fr.v]
abbrev MaM.ps(m:MaM)(so ss sp fr:Sl):List HP:=[Ar BL so m.a.on,Ar W16 ss m.a.set,Ar PaE sp m.a.parts,Ar U8 fr m.fr]
def QBB(q:Option Addr)(m:MaM):HP:=fun h=>QdD m∧∃(b:Nat) (so ss sp fr:Sl),q=some ⟨b,0,none⟩∧QBn (Blk b (m.cells so ss sp fr)::m.ps so ss sp fr) h
theorem Qfn(j:Nat){q:Option Addr}{m:MaM}{φ:WP}[p:Pick j As (QBB q m) F](h:∀b so ss sp fr,q=some ⟨b,0,none⟩→QdD m→Ent B (Blk b (m.cells so ss sp fr)::Ar BL so m.a.on::Ar W16 ss m.a.set::Ar PaE sp m.a.parts::Ar U8 fr m.fr::F) φ):Ent B As φ:=by
 refine QFu j (fun Bs=>∃b so ss sp fr,q=some ⟨b,0,none⟩∧QdD m∧Bs=Blk b (m.cells so ss sp fr)::m.ps so ss sp fr) (fun g hg=>?_) ?_
 ·obtain⟨ho,b,so,ss,sp,fr,e,hb⟩:=hg;exact⟨_,⟨b,so,ss,sp,fr,e,ho,rfl⟩,hb⟩
 ·rintro _ ⟨b,so,ss,sp,fr,e,ho,rfl⟩;exact h b so ss sp fr e ho
theorem QO6(b:Nat)(so ss sp fr:Sl)(m:MaM){G:List HP}[s:Split [Blk b (m.cells so ss sp fr),Ar BL so m.a.on,Ar W16 ss m.a.set,Ar PaE sp m.a.parts,Ar U8 fr m.fr] As G]{φ:WP}(ho:QdD m)(k:Ent B (QBB (some ⟨b,0,none⟩) m::G) φ):Ent B As φ:=
 QBR [Blk b (m.cells so ss sp fr),Ar BL so m.a.on,Ar W16 ss m.a.set,Ar PaE sp m.a.parts,Ar U8 fr m.fr] (QBB (some ⟨b,0,none⟩) m) (fun g hg=>⟨ho,b,so,ss,sp,fr,rfl,hg⟩) k
abbrev QPU(timeout retries:Int):MaM:=⟨timeout,retries,0,0,0,QcT,[]⟩
theorem QTf(t r:Int)(h:(1≤t∧t≤1048576)∧0≤r∧r≤5):Ct Pr 59 [.I t,.I r] (.tup [none,none]) [.ptr,.I] [] emp (fun x Bs=>x.2.1=0∧Bs=[QBB x.1 (QPU t r)]):=by
 refine sp2 (QNW _ _) fun B _=>?_;unfold QNW mf;dsimp only;refine QBF (by simp;omega) (QAL fun b=>?_);refine QAd BL (QAd W16 (QAd PaE (QAd U8 (QO6 b nilS nilS nilS nilS (QPU t r) ⟨h.1,h.2,⟨Int.le_refl 0,by show (0:Int)≤r+1;omega⟩,⟨Int.le_refl 0,show (0:Int)≤1099511627776 by decide⟩,⟨(fun v h=>by cases h),show (0:Int)≠20 by decide⟩,Nat.zero_le _⟩ ?_))));exact QAE ⟨rfl,rfl⟩
theorem QKk(b:Nat)(m:MaM)(so ss sp fr:Sl):Ct Pr 42 [.pointer (some ⟨b,0,none⟩)] .one [.bool] [Blk b (m.cells so ss sp fr)] emp (fun x Bs=>x.1=decide (m.tries>0)∧Bs=[Blk b (m.cells so ss sp fr)]):=by
 refine sp1 (QEk _) fun B _=>?_;unfold QEk mf;dsimp only;exact QAS (xgq (QAE ⟨rfl,rfl⟩))
theorem QRe(q:Option Addr)(m:MaM):Ct Pr 42 [.pointer q] .one [.bool] [QBB q m] emp (fun x Bs=>x.1=decide (m.tries>0)∧Bs=[QBB q m]):=by
 refine QGR (φ:=QAe Pr 42 [.pointer q] .one [.bool]) id fun B _=>?_;refine Qfn 0 fun b so ss sp fr hq ho=>?_;subst hq;exact xd1 (QKk b m so ss sp fr) (QO6 b so ss sp fr m ho (QAE ⟨rfl,rfl⟩))
theorem QMq(now:Int):Ct Pr 323 [.I now] .one [.bool] [] emp (fun x Bs=>x.1=(decide (now≥0)&&decide (now≤1099511627776))∧Bs=[]):=by
 refine sp1 (QIk _) fun B _=>?_;unfold QIk mf;dsimp only;exact QAE ⟨rfl,rfl⟩
def QME(m:MaM)(now unit:Int)(a:AskV):Int:=
 if m.tries>0 then 11 else if unit<1∨unit>247 then 24 else if a.e≠0 then a.e else if now<0∨now>1099511627776 then 3 else 0
abbrev QCJ(m:MaM)(now unit:Int)(a:AskV):MaM:={ m with tries:=1,at_:=now,unit:=unit,a:=(QAY (QGO a)).1,fr:=(QW9 (UInt8.ofNat unit.toNat) (QGO a)).2 }
def QQ9(q:Option Addr)(m:MaM)(now unit:Int)(a:AskV)(x:Tup [.slice,.I])(Bs:List HP):Prop:=
 x.2.1=QME m now unit a∧((QME m now unit a=0∧Bs=[QBB q (QCJ m now unit a),Ar U8 x.1 (QCJ m now unit a).fr])∨(QME m now unit a≠0∧x.1=nilS∧Bs=[QBB q m]))
theorem QZV(u:UInt8)(l:List UInt8)(h:l.length≤300):(QW9 u l).2.length≤1000:=by
 unfold QW9 QVG;repeat' split
 all_goals simp[QYb]
 all_goals omega
theorem QIT(q:Option Addr)(m:MaM)(now unit:Int)(a:AskV)(hw:QMw a.set)(h20:a.code≠20)(so ss sp:Sl) :
  Ct Pr 327 [.pointer q,.I now,.I unit,Qdg a so ss sp] (.tup [none,none]) [.slice,.I] [QBB q m] (askR a so ss sp) (QQ9 q m now unit a):=by
 refine sp2 (QEI _ _ _ _ _ _ _ _ _) fun B hr=>?_;obtain⟨ha1,ha2,ha3⟩:=hr;haveI:Fro B so BL a.on:=⟨ha1⟩;haveI:Fro B ss W16 a.set:=⟨ha2⟩;haveI:Fro B sp PaE a.parts:=⟨ha3⟩;unfold QEI mf QQ9;dsimp only;obtain⟨e,he⟩:∃e,QME m now unit a=e:=⟨_,rfl⟩;rw[he];unfold QME at he;refine Qfn 0 fun b so0 ss0 sp0 fr hq ho=>?_;subst hq
 have bad:∀{R:List HP}{k:Int},k≠0→k=e→Ent B (Blk b (m.cells so0 ss0 sp0 fr)::Ar BL so0 m.a.on::Ar W16 ss0 m.a.set::Ar PaE sp0 m.a.parts::Ar U8 fr m.fr::R) (Ret B (ss:=[.slice,.I]) (fun x Bs=>x.2.1=e∧((e=0∧Bs=[QBB (some ⟨b,0,none⟩) (QCJ m now unit a),Ar U8 x.1 (QCJ m now unit a).fr])∨(e≠0∧x.1=nilS∧Bs=[QBB (some ⟨b,0,none⟩) m]))) (nilS,k,())):=by
  rintro R k hk rfl;exact QO6 b so0 ss0 sp0 fr m ho (QAa (l:=[QBB (some ⟨b,0,none⟩) m]) (QAE ⟨rfl,.inr ⟨hk,rfl,rfl⟩⟩))
 refine QAL fun b1=>xd1 (QKk b m so0 ss0 sp0 fr) (QAB (fun h=>QAW [Blk b _,Ar BL so0 m.a.on,Ar W16 ss0 m.a.set,Ar PaE sp0 m.a.parts,Ar U8 fr m.fr] (bad (by decide) (by rw[←he,if_pos h]))) (fun h=>?_));rw[if_neg h]at he;refine xif (fun hu=>QAW [Blk b _,Ar BL so0 m.a.on,Ar W16 ss0 m.a.set,Ar PaE sp0 m.a.parts,Ar U8 fr m.fr] (bad (by decide) ?_)) (fun hu=>?_)
 ·rw[←he,if_pos (by simpa using hu)]
 have hu:¬(unit<1∨unit>247):=by simpa using hu
 rw[if_neg hu]at he;iterate 3 (refine xgq ?_)
 refine QAA (s:=.slice) (x:=so) (hv:=rfl) (h:=QAA (s:=.slice) (x:=ss) (hv:=rfl) (h:=QAA (s:=.slice) (x:=sp) (hv:=rfl) (h:=?_)));refine xn2 (L:=fun s=>[Ar U8 s (QDe a)]) (QFy a hw so ss sp) (fun x y Bs hB=>hB) fun s3=>?_;refine xif (fun h0=>QAW [Blk b _,Ar BL so0 m.a.on,Ar W16 ss0 m.a.set,Ar PaE sp0 m.a.parts,Ar U8 fr m.fr] (bad (by simpa using h0) ?_)) (fun h0=>?_)
 ·rw[←he,if_pos (by simpa using h0)]
 have h0:a.e=0:=by simpa using h0
 rw[if_neg (by rw[h0];decide)]at he;rw[show QDe a=QGO a from if_pos h0];refine xd1 (QMq now) (xif (fun ht=>QAW [Blk b _,Ar BL so0 m.a.on,Ar W16 ss0 m.a.set,Ar PaE sp0 m.a.parts,Ar U8 fr m.fr] (bad (by decide) ?_)) (fun ht=>?_))
 ·rw[←he,if_pos (by simp at ht;omega)]
 have ht:0≤now∧now≤1099511627776:=by simp at ht;omega
 rw[if_neg (by omega)]at he;subst he;have hl:=QUI a h0
 have hc0:((QGO a).getD 0 0).toNat≠20:=by
  show (UInt8.ofNat a.code.toNat).toNat≠20;rw[UInt8.toNat_ofNat'];rcases (QB0 h0).2 with⟨q|q,_⟩|⟨q|q,_⟩|⟨q,_⟩|⟨q,_⟩|⟨q,_⟩|⟨q,_⟩|⟨q,_⟩<;>omega
 rw[show IntKind.u8.wrap unit=((UInt8.ofNat unit.toNat).toNat:Int) by rw[←QAr unit.toNat];congr 1;omega];refine xcl (QU1 (UInt8.ofNat unit.toNat) s3 (QGO a)) rdb ?_;rintro⟨s4,(r1:Int),_⟩ _ ⟨_,rfl⟩;refine QA8 (ca2 ?_);refine QAS (xsq (QAS (xsq (QAS (xsq (QAS (xsq ?_)))))));refine QAW [Ar U8 s3 (QGO a)] (QCn (E:=U8) (xs:=QGO a) s3 fun _ hc3=>?_);refine xcl (QF6 (QGO a) (by omega) s3 hc3) rdb ?_;rintro⟨v0,v1,v2,t0,t1,t2,v6,_⟩ _ ⟨rfl,rfl,rfl,h3,rfl⟩;simp only at h3;subst h3;refine QQC (ca7 (QAS ?_));iterate 6 (refine xsq ?_)
 refine QAS (QAA (s:=.slice) (x:=s4) (hv:=rfl) (h:=?_));have hrl:=QZV (UInt8.ofNat unit.toNat) (QGO a) hl;refine xn1 (L:=fun s=>[Ar U8 s (QW9 (UInt8.ofNat unit.toNat) (QGO a)).2]) (QMF s4 (QW9 (UInt8.ofNat unit.toNat) (QGO a)).2 (by omega)) (fun x Bs hB=>hB) fun s5=>?_;refine QO6 b t0 t1 t2 s4 (QCJ m now unit a) ⟨ho.timeout,ho.retries,⟨show (0:Int)≤1 by decide,by have:=ho.retries;show (1:Int)≤m.retries+1;omega⟩,ht,⟨QHD _,QTq _ hc0⟩,hrl⟩ ?_;exact QAM [QBB (some ⟨b,0,none⟩) (QCJ m now unit a),Ar U8 s5 (QCJ m now unit a).fr] (QAE ⟨rfl,.inl ⟨rfl,rfl⟩⟩)
structure QXP where
 what:Int
 r:RepV
 tries:Int
 is:Bool
abbrev Qd3:QXP:=⟨0,QP7,0,false⟩
abbrev QYk:List Sh:=[.I,.I,.slice,.slice,.slice,.I,.bool]
def QJT(o:QXP)(t:Tup QYk)(L Bs:List HP):Prop:=t.1=o.what∧t.2.1=o.r.exc∧t.2.2.2.2.1=nilS∧o.r.files=[]∧t.2.2.2.2.2.1=o.tries∧t.2.2.2.2.2.2.1=o.is∧Bs=Ar BL t.2.2.1 o.r.on::Ar W16 t.2.2.2.1 o.r.set::L
abbrev QC1(m:MaM):MaM:={ m with tries:=0 }
theorem QZx{m:MaM}(h:QdD m):QdD (QC1 m):=⟨h.timeout,h.retries,⟨Int.le_refl 0,by have:=h.retries;show (0:Int)≤m.retries+1;omega⟩,h.at_,h.ask,h.fr⟩
theorem QX3(b:Nat)(m:MaM)(so ss sp fr:Sl)(what exc:Int)(r1 r2:Sl):Ct Pr 238 [.pointer (some ⟨b,0,none⟩),.I what,Qdy exc r1 r2 nilS] (.tup [some 6,none]) QYk [Blk b (m.cells so ss sp fr)] emp
  (fun t Bs=>(t.1=what∧t.2.1=exc∧t.2.2.1=r1∧t.2.2.2.1=r2∧t.2.2.2.2.1=nilS∧t.2.2.2.2.2.1=m.tries∧t.2.2.2.2.2.2.1=true)∧Bs=[Blk b ((QC1 m).cells so ss sp fr)]):=by
 refine QAh (ss:=QYk) (φ:=fun K=>(QDB _ _ _ _ _ _ K).1) (fun h=>cf _ rfl (by kernel_rfl) h) fun B _=>?_;show Ent B [Blk b (m.cells so ss sp fr)] (QDB (some ⟨b,0,none⟩) what exc r1 r2 nilS fun x0 x1 x2 x3 x4 x5 x6=>Ret B (ss:=QYk) (fun t Bs=>(t.1=what∧t.2.1=exc∧t.2.2.1=r1∧t.2.2.2.1=r2∧t.2.2.2.2.1=nilS∧t.2.2.2.2.2.1=m.tries∧t.2.2.2.2.2.2.1=true)∧Bs=[Blk b ((QC1 m).cells so ss sp fr)]) (x0,x1,x2,x3,x4,x5,x6,()));unfold QDB mf;dsimp only;refine QAL fun b1=>QAL fun b2=>QAP (xgq (QAA (s:=.slice) (x:=r1) (hv:=rfl) (h:=QAA (s:=.slice) (x:=r2) (hv:=rfl) (h:=xgS (h:=QAS (xgq (QAL fun b3=>?_)))))));iterate 6 (refine xsq ?_)
 refine QAS (xsq (xgq (xgq (QAA (s:=.slice) (x:=r1) (hv:=rfl) (h:=QAA (s:=.slice) (x:=r2) (hv:=rfl) (h:=xgS (h:=xgq ?_)))))));iterate 6 (refine xsq ?_)
 refine xgq (xgq (QAA (s:=.slice) (x:=r1) (hv:=rfl) (h:=QAA (s:=.slice) (x:=r2) (hv:=rfl) (h:=xgS (h:=xgq ?_)))));exact QAM [Blk b ((QC1 m).cells so ss sp fr)] (QAE ⟨⟨rfl,rfl,rfl,rfl,rfl,rfl,rfl⟩,rfl⟩)
def QGD(m:MaM)(xs:List UInt8):QXP×MaM:=
 if m.tries≤0 then (Qd3,m) else
 let o:=QAn xs
 if o.1≠0∨(o.2.1.toNat:Int)≠m.unit then (Qd3,m) else
 let r:=QBr m.a o.2.2
 if r.2≠0 then (Qd3,m) else (⟨if r.1.exc≠0 then 2 else 1,r.1,m.tries,true⟩,QC1 m)
theorem QRf(q:Option Addr)(m:MaM)(b:Sl)(xs:List UInt8)(hcap:b.n≤b.c) :
  Ct Pr 150 [.pointer q,b.v] (.tup [some 6,none]) QYk [QBB q m] (RAr U8 b xs) (fun t Bs=>QJT (QGD m xs).1 t [QBB q (QGD m xs).2] Bs):=by
 refine QAh (ss:=QYk) (φ:=fun K=>(QCw _ _ K).1) (fun h=>cf _ rfl (by kernel_rfl) h) fun B hr=>?_;show Ent B [QBB q m] (QCw q b fun x0 x1 x2 x3 x4 x5 x6=>Ret B (ss:=QYk) (fun t Bs=>QJT (QGD m xs).1 t [QBB q (QGD m xs).2] Bs) (x0,x1,x2,x3,x4,x5,x6,()));haveI:Fro B b U8 xs:=⟨hr⟩;obtain⟨g,hg⟩:∃g,QGD m xs=g:=⟨_,rfl⟩;rw[hg];unfold QCw mf;dsimp only;unfold QGD at hg;refine Qfn 0 fun b0 so ss sp fr hq ho=>?_;subst hq
 have bad:∀{b1:Nat}{R:List HP},(Qd3,m)=g→Ent B (Blk b1 [.I 0,.I 0,.slice none 0 0,.slice none 0 0,.slice none 0 0,.I 0]::Blk b0 (m.cells so ss sp fr)::Ar BL so m.a.on::Ar W16 ss m.a.set::Ar PaE sp m.a.parts::Ar U8 fr m.fr::R)
   (QBJ ⟨b1,0,none⟩ (.I 0)<|QBJ ⟨b1,1,none⟩ (.I 0)<|QBJ ⟨b1,2,none⟩ (.slice none 0 0)<|QBJ ⟨b1,3,none⟩ (.slice none 0 0)<|QBJ ⟨b1,4,none⟩ (.slice none 0 0)<|QBJ ⟨b1,5,none⟩ (.I 0)<|QAs (.I) ⟨b1,0,none⟩ fun(v:Int)=>QAs (.I) ⟨b1,1,none⟩ fun(v1:Int)=>QAs .slice ⟨b1,2,none⟩ fun v2=>QAs .slice ⟨b1,3,none⟩ fun v3=>QAs .slice ⟨b1,4,none⟩ fun v4=>QAs (.I) ⟨b1,5,none⟩ fun(v5:Int)=>Ret B (ss:=QYk) (fun t Bs=>QJT g.1 t [QBB (some ⟨b0,0,none⟩) g.2] Bs) (v,v1,v2,v3,v4,v5,false,())):=by
  rintro b1 R rfl;iterate 6 (refine xsq ?_)
  refine xgq (xgq (xgS (h:=xgS (h:=xgS (h:=xgq ?_)))));refine QO6 b0 so ss sp fr m ho (QAd W16 (QAd BL ?_));exact QAM [Ar BL nilS [],Ar W16 nilS [],QBB (some ⟨b0,0,none⟩) m] (QAE ⟨rfl,rfl,rfl,rfl,rfl,rfl,rfl⟩)
 refine QAL fun b1=>xd1 (QKk b0 m so ss sp fr) (xif (fun h=>?_) (fun h=>?_))
 ·exact QAW [Blk b1 _,Blk b0 (m.cells so ss sp fr),Ar BL so m.a.on,Ar W16 ss m.a.set,Ar PaE sp m.a.parts,Ar U8 fr m.fr] (bad (by rw[←hg,if_pos (by simp at h;omega)]))
 have h0:0<m.tries:=by simp at h;omega
 rw[if_neg (by omega)]at hg;refine xcl (QG6 b xs hcap) rdb ?_
 generalize QAn xs=o at *
 obtain⟨e,u,pdu⟩:=o;simp only at hg;rintro⟨y,s,(e':Int),_⟩ _ ⟨h1,h2,rfl⟩;simp only at h1 h2;subst h1 h2;have hul:=u.toNat_lt;refine QA8 (ca3 ?_);refine QAU (fun(x:Bool) As'=>(x=true↔(e'≠0∨(u.toNat:Int)≠m.unit))∧As'=[Blk b0 (m.cells so ss sp fr),Ar U8 s pdu,Blk b1 [.I 0,.I 0,.slice none 0 0,.slice none 0 0,.slice none 0 0,.I 0],Ar BL so m.a.on,Ar W16 ss m.a.set,Ar PaE sp m.a.parts,Ar U8 fr m.fr]) (fun K hK=>?_) ?_
 ·refine xif (fun h=>QAW [Blk b0 (m.cells so ss sp fr)] (hK _ _ ⟨⟨fun _=>.inl (bne_iff_ne.1 h),fun _=>rfl⟩,rfl⟩)) (fun h=>QAS (xgq (QAW [Blk b0 (m.cells so ss sp fr)] (hK _ _ ⟨?_,rfl⟩))))
  have:e'=0:=by simpa using h
  rw[QXL (u.toNat:Int) (by omega) (by omega),bne_iff_ne];exact⟨.inr,fun q=>q.resolve_left (fun z=>z this)⟩
 rintro x _ ⟨hx,rfl⟩;refine xif (fun h=>?_) (fun h=>?_)
 ·exact QAW [Blk b1 _,Blk b0 (m.cells so ss sp fr),Ar BL so m.a.on,Ar W16 ss m.a.set,Ar PaE sp m.a.parts,Ar U8 fr m.fr] (bad (by rw[←hg,if_pos (hx.1 h)]))
 rw[if_neg (fun q=>by rw[hx.2 q]at h;cases h)]at hg;refine QAS (xgq (xgq (xgq (QAA (s:=.slice) (x:=so) (hv:=rfl) (h:=QAA (s:=.slice) (x:=ss) (hv:=rfl) (h:=QAA (s:=.slice) (x:=sp) (hv:=rfl) (h:=?_)))))));refine QAW [Ar U8 s pdu] (QCn (E:=U8) (xs:=pdu) s fun hsn hsc=>?_);refine xcl (QTw m.a ho.ask.1 ho.ask.2 so ss sp s pdu hsc) rdb ?_
 generalize QBr m.a pdu=r at *
 obtain⟨rv,re⟩:=r;simp only at hg;rintro⟨v0,s1,s2,v3,(v4:Int),_⟩ _ ⟨h1,h2,h3,h4,rfl⟩;simp only at h1 h2 h4;subst h1 h2 h4;refine QBM (ca5 (QAL fun b2=>?_));iterate 4 (refine xsq ?_)
 refine xif (fun h=>?_) (fun h=>?_)
 ·exact QAW [Blk b1 _,Blk b0 (m.cells so ss sp fr),Ar BL so m.a.on,Ar W16 ss m.a.set,Ar PaE sp m.a.parts,Ar U8 fr m.fr] (bad (by rw[←hg,if_pos (bne_iff_ne.1 h)]))
 rw[if_neg (by simpa using h)]at hg;refine xgq ?_
 have fin:∀{what:Int}{R:List HP},(if rv.exc≠0 then 2 else 1)=what→Ent B (Blk b0 ((QC1 m).cells so ss sp fr)::Ar BL so m.a.on::Ar W16 ss m.a.set::Ar PaE sp m.a.parts::Ar U8 fr m.fr::Ar BL s1 rv.on::Ar W16 s2 rv.set::R)
   (Ret B (ss:=QYk) (fun t Bs=>QJT g.1 t [QBB (some ⟨b0,0,none⟩) g.2] Bs) (what,rv.exc,s1,s2,nilS,m.tries,true,())):=by
  rintro what R rfl;subst hg;refine QO6 b0 so ss sp fr (QC1 m) (QZx ho) ?_;exact QAM [Ar BL s1 rv.on,Ar W16 s2 rv.set,QBB (some ⟨b0,0,none⟩) (QC1 m)] (QAE ⟨rfl,rfl,rfl,h3,rfl,rfl,rfl⟩)
 have tail:∀{what:Int}{R:List HP},(if rv.exc≠0 then 2 else 1)=what→Ent B (Blk b2 [.I rv.exc,s1.v,s2.v,.slice none 0 0]::Blk b0 (m.cells so ss sp fr)::Ar BL so m.a.on::Ar W16 ss m.a.set::Ar PaE sp m.a.parts::Ar U8 fr m.fr::Ar BL s1 rv.on::Ar W16 s2 rv.set::Blk b1 [.I 0,.I 0,.slice none 0 0,.slice none 0 0,.slice none 0 0,.I 0]::R)
   (QAs (.I) ⟨b2,0,none⟩ fun(n5:Int)=>QAs .slice ⟨b2,1,none⟩ fun s7=>QAs .slice ⟨b2,2,none⟩ fun s8=>QAs .slice ⟨b2,3,none⟩ fun s9=>QAe Pr 238 [.pointer (some ⟨b0,0,none⟩),.I what,.agg #[.I n5,s7.v,s8.v,s9.v]] (.tup [some 6,none]) [.I,.I,.slice,.slice,.slice,.I,.bool]<|fun(r4:Int) (r5:Int) s10 s11 s12 (r6:Int) (c2:Bool)=>QBJ ⟨b1,0,none⟩ (.I r4)<|QBJ ⟨b1,1,none⟩ (.I r5)<|QBJ ⟨b1,2,none⟩ s10.v<|QBJ ⟨b1,3,none⟩ s11.v<|QBJ ⟨b1,4,none⟩ s12.v<|QBJ ⟨b1,5,none⟩ (.I r6)<|QAs (.I) ⟨b1,0,none⟩ fun(v18:Int)=>QAs (.I) ⟨b1,1,none⟩ fun(v19:Int)=>QAs .slice ⟨b1,2,none⟩ fun v20=>QAs .slice ⟨b1,3,none⟩ fun v21=>QAs .slice ⟨b1,4,none⟩ fun v22=>QAs (.I) ⟨b1,5,none⟩ fun(v23:Int)=>Ret B (ss:=QYk) (fun t Bs=>QJT g.1 t [QBB (some ⟨b0,0,none⟩) g.2] Bs) (v18,v19,v20,v21,v22,v23,c2,())):=by
  intro what R hwh;refine xgq (QAA (s:=.slice) (x:=s1) (hv:=rfl) (h:=QAA (s:=.slice) (x:=s2) (hv:=rfl) (h:=xgS (h:=?_))));refine xcl (QX3 b0 m so ss sp fr what rv.exc s1 s2) rdb ?_;rintro⟨w0,w1,w2,w3,w4,w5,w6,_⟩ _ ⟨⟨rfl,rfl,g2,g3,g4,rfl,rfl⟩,rfl⟩;simp only at g2 g3 g4;subst g2 g3 g4;refine QA8 (ca7 ?_);iterate 6 (refine xsq ?_)
  refine xgq (xgq (QAA (s:=.slice) (x:=w2) (hv:=rfl) (h:=QAA (s:=.slice) (x:=w3) (hv:=rfl) (h:=xgS (h:=xgq ?_)))));exact QAW [Blk b0 ((QC1 m).cells so ss sp fr),Ar BL so m.a.on,Ar W16 ss m.a.set,Ar PaE sp m.a.parts,Ar U8 fr m.fr,Ar BL w2 rv.on,Ar W16 w3 rv.set] (fin hwh)
 have ordq:∀{φ:WP},Ent B (Blk b2 [.I rv.exc,s1.v,s2.v,.slice none 0 0]::Blk b0 (m.cells so ss sp fr)::Ar BL so m.a.on::Ar W16 ss m.a.set::Ar PaE sp m.a.parts::Ar U8 fr m.fr::Ar BL s1 rv.on::Ar W16 s2 rv.set::Blk b1 [.I 0,.I 0,.slice none 0 0,.slice none 0 0,.slice none 0 0,.I 0]::[Ar U8 s pdu]) φ→Ent B [Blk b2 [.I rv.exc,s1.v,s2.v,.slice none 0 0],Ar BL s1 rv.on,Ar W16 s2 rv.set,Ar U8 s pdu,Blk b0 (m.cells so ss sp fr),Blk b1 [.I 0,.I 0,.slice none 0 0,.slice none 0 0,.slice none 0 0,.I 0],Ar BL so m.a.on,Ar W16 ss m.a.set,Ar PaE sp m.a.parts,Ar U8 fr m.fr] φ:=fun hφ=>
  QAW [Blk b2 [.I rv.exc,s1.v,s2.v,.slice none 0 0],Blk b0 (m.cells so ss sp fr),Ar BL so m.a.on,Ar W16 ss m.a.set,Ar PaE sp m.a.parts,Ar U8 fr m.fr,Ar BL s1 rv.on,Ar W16 s2 rv.set,Blk b1 [.I 0,.I 0,.slice none 0 0,.slice none 0 0,.slice none 0 0,.I 0]] hφ
 refine xif (fun h=>ordq (tail ?_)) (fun h=>ordq (tail ?_))
 ·rw[if_pos (bne_iff_ne.1 h)]
 ·rw[if_neg (by simpa using h)]
abbrev QM6:List Sh:=.slice::QYk
abbrev QJt(m:MaM)(now:Int):MaM:={ m with tries:=m.tries+1,at_:=now }
def QDd(m:MaM)(now:Int):List UInt8×QXP×MaM:=
 if ¬(0<m.tries∧m.at_+m.timeout≤now) then ([],Qd3,m)
 else if m.retries<m.tries then ([],⟨3,QP7,m.tries,true⟩,QC1 m) else (m.fr,Qd3,QJt m now)
def QKl(q:Option Addr)(m:MaM)(now:Int)(t:Tup QM6)(Bs:List HP):Prop:=QJT (QDd m now).2.1 t.2 [QBB q (QDd m now).2.2,Ar U8 t.1 (QDd m now).1] Bs
theorem QW3(b:Nat)(m:MaM)(so ss sp fr:Sl)(x:Int):Ct Pr 325 [.pointer (some ⟨b,0,none⟩),.I x] (.tup [none,some 6,none]) QM6 [Blk b (m.cells so ss sp fr)] emp (fun t Bs=>(t.1=nilS∧t.2.1=3∧t.2.2.1=0∧t.2.2.2.1=nilS∧t.2.2.2.2.1=nilS∧t.2.2.2.2.2.1=nilS∧t.2.2.2.2.2.2.1=m.tries∧t.2.2.2.2.2.2.2.1=true)∧Bs=[Blk b ((QC1 m).cells so ss sp fr)]):=by
 refine QAh (ss:=QM6) (φ:=fun K=>(QCO _ _ K).1) (fun h=>cf _ rfl (by kernel_rfl) h) fun B _=>?_;show Ent B [Blk b (m.cells so ss sp fr)] (QCO (some ⟨b,0,none⟩) x fun x0 x1 x2 x3 x4 x5 x6 x7=>Ret B (ss:=QM6) (fun t Bs=>(t.1=nilS∧t.2.1=3∧t.2.2.1=0∧t.2.2.2.1=nilS∧t.2.2.2.2.1=nilS∧t.2.2.2.2.2.1=nilS∧t.2.2.2.2.2.2.1=m.tries∧t.2.2.2.2.2.2.2.1=true)∧Bs=[Blk b ((QC1 m).cells so ss sp fr)]) (x0,x1,x2,x3,x4,x5,x6,x7,()));unfold QCO mf;dsimp only;refine QAL fun b1=>xcl (QX3 b m so ss sp fr 3 0 nilS nilS) rdb ?_;rintro⟨w0,w1,w2,w3,w4,w5,w6,_⟩ _ ⟨⟨rfl,rfl,g2,g3,g4,rfl,rfl⟩,rfl⟩;simp only at g2 g3 g4;subst g2 g3 g4;refine QA8 (ca7 (QAL fun b2=>?_));iterate 6 (refine xsq ?_)
 refine QAP (xgq (xgq (xgS (h:=xgS (h:=xgS (h:=xgq ?_))))));iterate 6 (refine xsq ?_)
 refine xgq (xgq (xgS (h:=xgS (h:=xgS (h:=xgq ?_)))));exact QAM [Blk b ((QC1 m).cells so ss sp fr)] (QAE ⟨⟨rfl,rfl,rfl,rfl,rfl,rfl,rfl,rfl⟩,rfl⟩)
theorem QYY(b:Nat)(m:MaM)(so ss sp fr:Sl)(now:Int)(hm:m.tries≤5)(h0:0≤m.tries)(hl:m.fr.length≤1000):Ct Pr 324 [.pointer (some ⟨b,0,none⟩),.I now] (.tup [none,some 6,none]) QM6 [Blk b (m.cells so ss sp fr),Ar U8 fr m.fr] emp
  (fun t Bs=>(t.2.1=0∧t.2.2.1=0∧t.2.2.2.1=nilS∧t.2.2.2.2.1=nilS∧t.2.2.2.2.2.1=nilS∧t.2.2.2.2.2.2.1=0∧t.2.2.2.2.2.2.2.1=false)∧Bs=[Blk b ((QJt m now).cells so ss sp fr),Ar U8 fr m.fr,Ar U8 t.1 m.fr]):=by
 refine QAh (ss:=QM6) (φ:=fun K=>(QCY _ _ K).1) (fun h=>cf _ rfl (by kernel_rfl) h) fun B _=>?_;show Ent B [Blk b (m.cells so ss sp fr),Ar U8 fr m.fr] (QCY (some ⟨b,0,none⟩) now fun x0 x1 x2 x3 x4 x5 x6 x7=>Ret B (ss:=QM6) (fun t Bs=>(t.2.1=0∧t.2.2.1=0∧t.2.2.2.1=nilS∧t.2.2.2.2.1=nilS∧t.2.2.2.2.2.1=nilS∧t.2.2.2.2.2.2.1=0∧t.2.2.2.2.2.2.2.1=false)∧Bs=[Blk b ((QJt m now).cells so ss sp fr),Ar U8 fr m.fr,Ar U8 t.1 m.fr]) (x0,x1,x2,x3,x4,x5,x6,x7,()));unfold QCY mf;dsimp only;refine QAL fun b1=>QAS (xgq ?_);rw[QAD (m.tries+1) (by omega) (by omega)];refine QAS (xsq (QAS (xsq (QAS (QAA (s:=.slice) (x:=fr) (hv:=rfl) (h:=?_))))));refine xn1 (L:=fun s=>[Ar U8 s m.fr]) (QMF fr m.fr (by omega)) (fun x Bs hB=>hB) fun s5=>?_;iterate 6 (refine xsq ?_)
 refine xgq (xgq (xgS (h:=xgS (h:=xgS (h:=xgq ?_)))));exact QAM [Blk b ((QJt m now).cells so ss sp fr),Ar U8 fr m.fr,Ar U8 s5 m.fr] (QAE ⟨⟨rfl,rfl,rfl,rfl,rfl,rfl,rfl⟩,rfl⟩)
theorem QN9:QB7 Pr 325=true∧QB7 Pr 324=true:=⟨by kernel_rfl,by kernel_rfl⟩
theorem ca8{s1 s2 s3 s4 s5 s6 s7 s8:Sh}{K:s1.ty→s2.ty→s3.ty→s4.ty→s5.ty→s6.ty→s7.ty→s8.ty→WP}{a b c d e f g i}{v:Unit}(h:Ent B As (K a b c d e f g i)):Ent B As (Cur.app [s1,s2,s3,s4,s5,s6,s7,s8] K (a,b,c,d,e,f,g,i,v)):=h
theorem QQG(q:Option Addr)(m:MaM)(now:Int)(hn:0≤now∧now≤1099511627776):Ct Pr 231 [.pointer q,.I now] (.tup [none,some 6,none]) QM6 [QBB q m] emp (QKl q m now):=by
 refine QAh (ss:=QM6) (φ:=fun K=>(QCx _ _ K).1) (fun h=>cf _ rfl (by kernel_rfl) h) fun B _=>?_;show Ent B [QBB q m] (QCx q now fun x0 x1 x2 x3 x4 x5 x6 x7=>Ret B (ss:=QM6) (QKl q m now) (x0,x1,x2,x3,x4,x5,x6,x7,()));unfold QKl;obtain⟨g,hg⟩:∃g,QDd m now=g:=⟨_,rfl⟩;rw[hg];unfold QDd at hg;unfold QCx mf;dsimp only;refine Qfn 0 fun b0 so ss sp fr hq ho=>?_;subst hq;have hat:=ho.at_;have hto:=ho.timeout;have hw:IntKind.i64.wrap (m.at_+m.timeout)=m.at_+m.timeout:=QAD _ (by omega) (by omega);refine QAL fun b1=>QAP (QAU (fun(c:Bool) As'=>c = !(decide (0<m.tries∧m.at_+m.timeout≤now))∧As'=[Blk b1 [.I 0,.I 0,.slice none 0 0,.slice none 0 0,.slice none 0 0,.I 0],Blk b0 (m.cells so ss sp fr),Ar BL so m.a.on,Ar W16 ss m.a.set,Ar PaE sp m.a.parts,Ar U8 fr m.fr]) (fun K hK=>?_) ?_)
 ·refine xd1 (QKk b0 m so ss sp fr) (xif (fun h=>?_) (fun h=>?_))
  ·refine QBk rfl (QAM [Blk b1 _,Blk b0 (m.cells so ss sp fr),Ar BL so m.a.on,Ar W16 ss m.a.set,Ar PaE sp m.a.parts,Ar U8 fr m.fr] (hK _ _ ⟨?_,rfl⟩))
   have h:¬0<m.tries:=by simpa using h
   rw[decide_eq_false (fun q=>h q.1)];rfl
  ·refine xd1 (QMq now) (QBF (by simp;omega) (QAS (xgq (QAS (xgq ?_)))));rw[hw];refine QAM [Blk b1 _,Blk b0 (m.cells so ss sp fr),Ar BL so m.a.on,Ar W16 ss m.a.set,Ar PaE sp m.a.parts,Ar U8 fr m.fr] (hK _ _ ⟨?_,rfl⟩)
   have h:0<m.tries:=by simpa using h
   by_cases q:m.at_+m.timeout≤now
   ·rw[decide_eq_true (show 0<m.tries∧_ from⟨h,q⟩),decide_eq_false (show ¬now<m.at_+m.timeout by omega)];rfl
   ·rw[decide_eq_false (show ¬(0<m.tries∧_) from fun z=>q z.2),decide_eq_true (show now<m.at_+m.timeout by omega)];rfl
 rintro c _ ⟨rfl,rfl⟩;refine xif (fun h=>?_) (fun h=>?_)
 ·have h:¬(0<m.tries∧m.at_+m.timeout≤now):=fun q=>by rw[decide_eq_true q]at h;cases h
  rw[if_pos h]at hg;subst hg;iterate 6 (refine xsq ?_)
  refine xgq (xgq (xgS (h:=xgS (h:=xgS (h:=xgq ?_)))));refine QO6 b0 so ss sp fr m ho (QAd U8 (QAd W16 (QAd BL ?_)));exact QAM [Ar BL nilS [],Ar W16 nilS [],QBB (some ⟨b0,0,none⟩) m,Ar U8 nilS []] (QAE ⟨rfl,rfl,rfl,rfl,rfl,rfl,rfl⟩)
 ·have h:0<m.tries∧m.at_+m.timeout≤now:=Classical.byContradiction fun q=>by rw[decide_eq_false q]at h;cases h
  rw[if_neg (fun q=>q h)]at hg;refine QAP (QAS (xgq (QAS (xgq (QAJ (xif (fun hr=>?_) (fun hr=>?_)))))))
  ·have hr:m.retries<m.tries:=by simpa using hr
   rw[if_pos hr]at hg;subst hg;refine Qeh (g:=325) QN9.1 ?_;refine xcl (QW3 b0 m so ss sp fr now) rdb ?_;rintro⟨w,w0,w1,w2,w3,w4,w5,w6,_⟩ _ ⟨⟨g,rfl,rfl,g2,g3,g4,rfl,rfl⟩,rfl⟩;simp only at g g2 g3 g4;subst g g2 g3 g4;refine QA8 (ca8 ?_);iterate 6 (refine xsq ?_)
   refine xgq (xgq (xgS (h:=xgS (h:=xgS (h:=xgq ?_)))));refine QO6 b0 so ss sp fr (QC1 m) (QZx ho) (QAd U8 (QAd W16 (QAd BL ?_)));exact QAM [Ar BL nilS [],Ar W16 nilS [],QBB (some ⟨b0,0,none⟩) (QC1 m),Ar U8 nilS []] (QAE ⟨rfl,rfl,rfl,rfl,rfl,rfl,rfl⟩)
  ·have hr:m.tries≤m.retries:=by simpa using hr
   rw[if_neg (by omega)]at hg;subst hg;have htr:=ho.retries;refine Qeh (g:=324) QN9.2 ?_;refine xcl (QYY b0 m so ss sp fr now (by omega) (by omega) ho.fr) rdb ?_;rintro⟨w,w0,w1,w2,w3,w4,w5,w6,_⟩ _ ⟨⟨rfl,rfl,g2,g3,g4,rfl,rfl⟩,rfl⟩;simp only at g2 g3 g4;subst g2 g3 g4;refine QQC (ca8 ?_);iterate 6 (refine xsq ?_)
   refine xgq (xgq (xgS (h:=xgS (h:=xgS (h:=xgq ?_)))));refine QO6 b0 so ss sp fr (QJt m now) ⟨ho.timeout,ho.retries,⟨by show (0:Int)≤m.tries+1;omega,by show m.tries+1≤m.retries+1;omega⟩,hn,ho.ask,ho.fr⟩ (QAd W16 (QAd BL ?_));exact QAM [Ar BL nilS [],Ar W16 nilS [],QBB (some ⟨b0,0,none⟩) (QJt m now),Ar U8 w m.fr] (QAE ⟨rfl,rfl,rfl,rfl,rfl,rfl,rfl⟩)
end Go.Cx
