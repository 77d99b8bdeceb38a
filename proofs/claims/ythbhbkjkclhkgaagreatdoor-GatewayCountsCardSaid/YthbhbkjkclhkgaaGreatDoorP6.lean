/-
Packets of every kind: what is wrong with them; as bytes; out of bytes.
-/
import Derived.Test.YthbhbkjkclhkgaaGreatDoorP1
import Derived.Test.YthbhbkjkclhkgaaGreatDoorA3
set_option linter.unusedVariables false
set_option maxRecDepth 100000
open Go Go.Cf
namespace Go.Cx
variable {B:QBJ}{As F:List HP}{α:Type}
structure PkV where
 kind:Int
 epoch:Int
 seq:Int
 id:Int
 code:Int
 body:Ab
abbrev pk0:PkV:=⟨0,0,0,0,0,[]⟩
def QjW(p:PkV):Prop:=
 (p.kind=1/\p.id=0/\p.code=0/\(1<=p.epoch/\p.epoch<=1099511627776)/\(0<=p.seq/\p.seq<1099511627776)/\1<=p.body.length/\p.body.length<=1024) \/
 (p.kind=2/\p.id=0/\p.code=0/\(1<=p.epoch/\p.epoch<=1099511627776)/\(0<=p.seq/\p.seq<=1099511627776)/\p.body=[]) \/
 (p.kind=3/\p.epoch=0/\p.seq=0/\p.code=0/\(1<=p.id/\p.id<=1099511627776)/\2<=p.body.length/\p.body.length<=254) \/
 (p.kind=4/\p.epoch=0/\p.seq=0/\(1<=p.id/\p.id<=1099511627776)/\(0<=p.code/\p.code<=255)/\p.body=[])
abbrev QgS(p:PkV)(s:Sl):Value:=.agg #[.I p.kind,.I p.epoch,.I p.seq,.I p.id,.I p.code,s.v]
def pkE(p:PkV)(a:Nat):Int:=
 if p.kind=1 then (if p.id≠0\/p.code≠0 then 23 else if p.epoch<1\/p.epoch>1099511627776\/p.seq<0\/p.seq>1099511627776\/p.seq=1099511627776 then 3 else if (a:Int)<1 then 1 else if (a:Int)>1024 then 2 else 0)
 else if p.kind=2 then (if p.id≠0\/p.code≠0\/(a:Int)>0 then 23 else if p.epoch<1\/p.epoch>1099511627776\/p.seq<0\/p.seq>1099511627776 then 3 else 0)
 else if p.kind=3 then (if bits .or .i64 p.epoch p.seq≠0\/p.code≠0 then 23 else if p.id<1\/p.id>1099511627776\/p.code<0\/p.code>255 then 3 else if (a:Int)<2 then 1 else if (a:Int)>254 then 2 else 0)
 else if p.kind=4 then (if bits .or .i64 p.epoch p.seq≠0\/(a:Int)>0 then 23 else if p.id<1\/p.id>1099511627776\/p.code<0\/p.code>255 then 3 else 0)
 else 28
theorem QGb(p:PkV)(s:Sl):Ct Pr 101 [QgS p s] .one [.I] [] emp (fun t Bs=>t.1=pkE p s.n/\Bs=[]):=by
 refine QG9 QOS fun B _=>?_;obtain⟨kind,epoch,seq,id,code,body⟩:=p;unfold QLP pkE
 (try simp only)
 refine QAL fun b=>xgq ?_;have a:∀{As:List HP}{x y:Int},x=y->Ent B As (Ret B (ss:=[.I]) (fun t Bs=>t.1=y/\Bs=[]) (x,())):=fun h=>QAd (l:=[]) (QAD ⟨h,rfl⟩);by_cases h1:kind=1
 ·subst h1;rw[We rfl]
  repeat' (first
   | refine QAM ?_
   | refine xgq ?_
   | refine xgS s ?_
   | refine QTR ?_
   | refine QCC rfl ?_
   | refine QBH rfl ?_
   | refine QAB (fun _=>?_) (fun _=>?_)
   | refine xif (fun _=>?_) (fun _=>?_)
   | refine a ?_)
  all_goals simp_all
  all_goals omega
 by_cases d:kind=2
 ·subst d;rw[Wb Dc,We rfl]
  repeat' (first
   | refine QAM ?_
   | refine xgq ?_
   | refine xgS s ?_
   | refine QTR ?_
   | refine QCC rfl ?_
   | refine QBH rfl ?_
   | refine QAB (fun _=>?_) (fun _=>?_)
   | refine xif (fun _=>?_) (fun _=>?_)
   | refine a ?_)
  all_goals simp_all
  all_goals omega
 by_cases c:kind=3
 ·subst c;rw[Wb Dc,Wb Dc,We rfl]
  repeat' (first
   | refine QAM ?_
   | refine xgq ?_
   | refine xgS s ?_
   | refine QTR ?_
   | refine QCC rfl ?_
   | refine QBH rfl ?_
   | refine QAB (fun _=>?_) (fun _=>?_)
   | refine xif (fun _=>?_) (fun _=>?_)
   | refine a ?_)
  all_goals simp_all
  all_goals omega
 by_cases e:kind=4
 ·subst e;rw[Wb Dc,Wb Dc,Wb Dc,We rfl]
  repeat' (first
   | refine QAM ?_
   | refine xgq ?_
   | refine xgS s ?_
   | refine QTR ?_
   | refine QCC rfl ?_
   | refine QBH rfl ?_
   | refine QAB (fun _=>?_) (fun _=>?_)
   | refine xif (fun _=>?_) (fun _=>?_)
   | refine a ?_)
  all_goals simp_all
  all_goals omega
 rw[Wb h1,Wb d,Wb c,Wb e];exact QAM (QBH (Qe6 h1) (QZN (fun q=>Om) fun _=>QAM (QBH rfl (QBH (Qe6 c) (a rfl)))))
def Qef(p:PkV):Ab:=if p.kind=3 then QGY p.id.toNat else if p.kind=4 then QGY p.id.toNat++[UInt8.ofNat p.code.toNat] else QGY p.epoch.toNat++QGY p.seq.toNat
def QgP(p:PkV):Ab:=(UInt8.ofNat p.kind.toNat::Qef p)++p.body
def QW0(p:PkV):Ab:=QLB (QgP p)
theorem QH4(v:Nat):(QGY v).length=8:=QQV v 8
theorem QH1{R:List HP}{a b:Nat}(k:UInt8)(vs:Af)(n:Nat)(hn:vs.length=n)(f:n<=2){cells:Ad}(hc:QAi I64 (vs.map fun(v:Nat)=>(v:Int))=cells)[q:Split [Blk a [.int .u8 (k.toNat:Int)],Blk b cells] As R]{K:Sl->WP}
  (h:∀d,Ent B (Ar U8 d (k::vs.flatMap QGY)::R) (K d)):Ent B As (QAX Pr 155 [.slice (some ⟨a,0,none⟩) 1 1,.slice (some ⟨b,0,none⟩) n n] .one [.slice] K):=by
 refine Ent.perm q.perm (QBK ?_);refine QAg (Q:=Ar U8 ⟨some ⟨a,0,none⟩,1,1⟩ [k]) 0 (fun g c=>⟨[],QAp [k] 1 rfl rfl c⟩) ?_;refine QAg (Q:=Ar I64 ⟨some ⟨b,0,none⟩,n,n⟩ (vs.map fun(v:Nat)=>(v:Int))) 1 (fun g c=>⟨[],QAp (vs.map fun(v:Nat)=>(v:Int)) n (Si hn) hc c Om⟩) ?_;refine xn1 (L:=fun s=>[Ar U8 s (k::vs.flatMap QGY)]) (QQT ⟨some ⟨a,0,none⟩,1,1⟩ [k] ⟨some ⟨b,0,none⟩,n,n⟩ vs (by simp) Om) (fun x Bs e=>e) fun s=>?_;exact QCD 1 (h s)
theorem QhW{p:PkV}(c:p.kind=3\/p.kind=4->p.epoch=0/\p.seq=0)(h:pkE p p.body.length=0):QjW p:=by
 unfold pkE at h;by_cases h1:p.kind=1
 ·rw[We h1]at h;obtain⟨d,h⟩:=QHF Dc h;obtain⟨e,h⟩:=QHF Dc h;obtain⟨g,h⟩:=QHF Dc h;obtain⟨i,_⟩:=QHF Dc h;exact .inl ⟨h1,Om,Om,Om,Om,Om,Om⟩
 rw[Wb h1]at h;have nil:∀{l:Ab},¬(l.length:Int)>0->l=[]:=fun {l} h=>Wm Om;by_cases f:p.kind=2
 ·rw[We f]at h;obtain⟨d,h⟩:=QHF Dc h;obtain⟨e,h⟩:=QHF Dc h;exact .inr (.inl ⟨f,Om,Om,Om,Om,nil Om⟩)
 rw[Wb f]at h;by_cases a:p.kind=3
 ·rw[We a]at h;obtain⟨d,h⟩:=QHF Dc h;obtain⟨e,h⟩:=QHF Dc h;obtain⟨g,h⟩:=QHF Dc h;obtain⟨i,_⟩:=QHF Dc h;exact .inr (.inr (.inl ⟨a,(c (.inl a)).1,(c (.inl a)).2,Om,Om,Om,Om⟩))
 rw[Wb a]at h;by_cases b:p.kind=4
 ·rw[We b]at h;obtain⟨d,h⟩:=QHF Dc h;obtain⟨e,h⟩:=QHF Dc h;exact .inr (.inr (.inr ⟨b,(c (.inr b)).1,(c (.inr b)).2,Om,Om,nil Om⟩))
 rw[Wb b]at h;cases h
def QBI(p:PkV):Ab:=if pkE p p.body.length=0 then QW0 p else []
theorem QN8(p:PkV)(N:p.kind=3\/p.kind=4->p.epoch=0/\p.seq=0)(s:Sl):Ct Pr 97 [QgS p s] (.tup [none,none]) [.slice,.I] [] (RAr U8 s p.body) (fun t Bs=>t.2.1=pkE p p.body.length/\Bs=[Ar U8 t.1 (QBI p)]):=by
 refine sp2 (QOg _ _ _ _ _ _) fun B u=>?_;haveI:Fro B s U8 p.body:=⟨u⟩;have J:=u.1;unfold QOg mf;dsimp only;refine QAL fun b=>?_;iterate 5 (refine xgq ?_)
 refine xgS s ?_;refine xd1 (QGb p s) ?_;rw[<-J];refine xif (fun h0=>?_) (fun h0=>?_)
 ·have h0:pkE p p.body.length≠0:=Si h0
  refine QCD 0 (QAf U8 (QAD ⟨rfl,?_⟩));rw[show QBI p=[] from Wb h0]
 have h0:pkE p p.body.length=0:=Si h0
 have h:=QhW N h0;rw[show QBI p=QW0 p from We h0];refine xgq (QAL fun z=>xgq ?_)
 have M:IntKind.u8.wrap p.kind=((UInt8.ofNat p.kind.toNat).toNat:Int):=by rcases h with⟨e,_⟩|⟨e,_⟩|⟨e,_⟩|⟨e,_⟩<;>rw[e] <;> rfl
 have S:p.body.length<=1024:=by rcases h with⟨_,_,_,_,_,_,e⟩|⟨_,_,_,_,_,e⟩|⟨_,_,_,_,_,_,e⟩|⟨_,_,_,_,_,e⟩<;>first|omega|(rw[e];decide)
 have T:(Qef p).length<=16:=by unfold Qef;split <;> (try split)<;>simp[QH4]
 have i:∀{x:Int},0<=x->((x.toNat:Nat):Int)=x:=fun h=>by omega
 rw[M];refine QAV (fun(x:Bool) As'=>x=((p.kind == 1)||(p.kind == 2))/\As'=[Blk z [.int .u8 ((UInt8.ofNat p.kind.toNat).toNat:Int)],Blk b [.I p.kind,.I p.epoch,.I p.seq,.I p.id,.I p.code,s.v]]) (fun K a=>?_) ?_
 ·refine xif (fun e=>a _ _ ⟨by rw[e];rfl,rfl⟩) (fun e=>a _ _ ⟨by rw[e];rfl,rfl⟩)
 rintro _ _ ⟨rfl,rfl⟩;refine QAV (fun(f:Sl) As'=>As'=[Ar U8 f (UInt8.ofNat p.kind.toNat::Qef p),Blk b [.I p.kind,.I p.epoch,.I p.seq,.I p.id,.I p.code,s.v]]) (fun K a=>?_) ?_
 ·unfold Qef at a;rcases h with⟨e,h1,k,l,m,n⟩|⟨e,h1,k,l,m,n⟩|⟨e,h1,k,l,m,n⟩|⟨e,h1,k,l,m,n⟩
  ·rw[Wb Om,Wb Om]at a;refine QCC (by rw[e];rfl) (xgq (xgq (QAL fun w=>?_)));refine QH1 (UInt8.ofNat p.kind.toNat) [p.epoch.toNat,p.seq.toNat] 2 rfl Dc (cells:=[.I p.epoch,.I p.seq]) (by show [Value.int .i64 ((p.epoch.toNat:Nat):Int),Value.int .i64 ((p.seq.toNat:Nat):Int)]=_;rw[i Om,i Om]) fun f=>?_;exact a _ _ (by simp only[U3,List.flatMap_nil,Oi])
  ·rw[Wb Om,Wb Om]at a;refine QCC (by rw[e];rfl) (xgq (xgq (QAL fun w=>?_)));refine QH1 (UInt8.ofNat p.kind.toNat) [p.epoch.toNat,p.seq.toNat] 2 rfl Dc (cells:=[.I p.epoch,.I p.seq]) (by show [Value.int .i64 ((p.epoch.toNat:Nat):Int),Value.int .i64 ((p.seq.toNat:Nat):Int)]=_;rw[i Om,i Om]) fun f=>?_;exact a _ _ (by simp only[U3,List.flatMap_nil,Oi])
  ·rw[We e]at a;refine QBH (by rw[e];rfl) (QAM (QCC (by rw[e];rfl) (xgq (QAL fun w=>?_))));refine QH1 (UInt8.ofNat p.kind.toNat) [p.id.toNat] 1 rfl Dc (cells:=[.I p.id]) (by show [Value.int .i64 ((p.id.toNat:Nat):Int)]=_;rw[i Om]) fun f=>?_;exact a _ _ (by simp only[U3,List.flatMap_nil,Oi])
  ·rw[Wb Om,We e]at a;refine QBH (by rw[e];rfl) (QAM (QBH (by rw[e];rfl) (QAP (QAM (xgq (xgq ?_))))));rw[show IntKind.u8.wrap p.code=((UInt8.ofNat p.code.toNat).toNat:Int) by rw[<-QAu p.code.toNat];congr 1;omega]
   have o:QAi I64 ([p.id.toNat].map fun(v:Nat)=>(v:Int))=[.I p.id]:=by show [Value.int .i64 ((p.id.toNat:Nat):Int)]=_;rw[i Om]
   have r:∀{R:List HP}{As:List HP}(d:Nat) (c:Sl),[Split [Ar U8 c (UInt8.ofNat p.kind.toNat::[p.id.toNat].flatMap QGY),Blk d [.int .u8 ((UInt8.ofNat p.code.toNat).toNat:Int)],Blk b [.I p.kind,.I p.epoch,.I p.seq,.I p.id,.I p.code,s.v]] As R] ->
     Ent B As (QTn Pr 34 34 34 c.v (.slice (some ⟨d,0,none⟩) 1 1) fun j=>K j):=by
    intro R As d c q;refine Ent.perm q.perm (QLn ?_);refine QAg (Q:=Ar U8 ⟨some ⟨d,0,none⟩,1,1⟩ [UInt8.ofNat p.code.toNat]) 1 (fun g A=>⟨[],QAp [UInt8.ofNat p.code.toNat] 1 rfl rfl A⟩) ?_;refine QHU (E:=U8) (s:=c) (y:=⟨some ⟨d,0,none⟩,1,1⟩) (ys:=[UInt8.ofNat p.code.toNat]) (hb:=by simp[QH4]) (h:=fun j=>?_);exact QAK [Ar U8 j ((UInt8.ofNat p.kind.toNat::[p.id.toNat].flatMap QGY)++[UInt8.ofNat p.code.toNat]),Blk b [.I p.kind,.I p.epoch,.I p.seq,.I p.id,.I p.code,s.v]] (a _ _ (by simp))
   refine QZK (QAL fun O=>QZK ?_ ?_) (QAL fun C=>QAL fun P=>?_)
   ·exact QH1 (UInt8.ofNat p.kind.toNat) [p.id.toNat] 1 rfl Dc o fun c=>QDK (h:=QAL fun d=>r d c)
   ·exact QAL fun D=>QH1 (UInt8.ofNat p.kind.toNat) [p.id.toNat] 1 rfl Dc o fun c=>QDK (h:=r D c)
   ·exact QH1 (UInt8.ofNat p.kind.toNat) [p.id.toNat] 1 rfl Dc o fun c=>QDK (h:=r C c)
 rintro f _ rfl;refine xgS s ?_;refine QHU (E:=U8) (s:=f) (y:=s) (ys:=p.body) (hb:=by simp;omega) (h:=fun G=>?_);refine xn1 (L:=fun s=>[Ar U8 s (QW0 p)]) (QUG G ((UInt8.ofNat p.kind.toNat::Qef p)++p.body) (by simp;omega)) (fun x Bs H=>H) fun c=>?_;exact QAK [Ar U8 c (QW0 p)] (QAD ⟨h0.symm,rfl⟩)
theorem rdc{E:Enc α}{s:Sl}{xs:List α}{G:List HP}(h:Rds B G (RAr E s xs))(l r m:Nat)(h1:l<=r)(i:r<=m)(j:r<=xs.length):Rds B G (RAr E (s.cut l r m E.sz) ((xs.take r).drop l)):=
 fun w f g a b c d e=>(h w f g a b c d e).cut l r m h1 i j
def QLd(xs:Ab):Int:=IntKind.i64.wrap (beV (xs.take 8):Int)
theorem QSa(b:Sl)(xs:Ab)(hx:8<=xs.length)(o:b.n<=b.c):Ct Pr 100 [b.v] .one [.I] [] (RAr U8 b xs) (fun t Bs=>t.1=QLd xs/\Bs=[]):=by
 refine sp1 (QJP _) fun B d=>?_;have hn:=d.1;unfold QJP mf;dsimp only;refine QXx rfl Om Om ?_;have hc:=d.cut 0 8 b.c Om Om hx;rw[QGf]at hc;haveI m:Fro B ⟨b.p,8,b.c⟩ U8 (xs.take 8):=⟨Si hc⟩
 have g:(xs.take 8).length=8:=by simp;omega
 refine QBt (fun(n:Nat) (v:Int) (i:Int) As=>∃k:Nat,i=(k:Int)/\v=((beV ((xs.take 8).take k):Nat):Int)/\n=8 - k/\k<=8/\As=[]) 8 ⟨0,rfl,rfl,rfl,Om,rfl⟩ ?_;rintro n _ _ _ K ⟨k,rfl,rfl,rfl,j,rfl⟩ f;refine QAB (fun h=>?_) (fun h=>?_)
 ·have a:k<8:=by have h:(k:Int)<((8:Nat):Int):=h;omega
  have e:=Wa (l:=xs.take 8) (i:=k) Om;refine QAH (E:=U8) (xs:=xs.take 8) (s:=⟨b.p,8,b.c⟩) (k:=k) (h1:=Om) (h:=fun _ _=>?_);refine QAN (E:=U8) (xs:=xs.take 8) (i:=k) e (h:=QBA Dc ?_);rw[QiH _ _ (QJq g a),QAE k Om];exact f (8 - (k+1)) _ _ _ Om ⟨k+1,rfl,by rw[QJt e],rfl,Om,rfl⟩
 ·have a:k=8:=by have h:¬(k:Int)<((8:Nat):Int):=h;omega
  subst a;rw[show (xs.take 8).take 8=xs.take 8 from Wn Om];exact QAD ⟨rfl,rfl⟩
theorem QhR{cs:Ad}{s:Sh}{x:s.ty}{n k:Nat}{K:s.ty->WP}(b:k<n)(hx:cs[k]? = some (s.mk x))(h:Ent B As (K x)):Ent B As (QM2 cs (k:Int) n s K):=
 fun w a=>⟨Om,Om,x,by rw[Wh];exact hx,h w a⟩
abbrev PkT:List Sh:=[.I,.I,.I,.I,.I,.slice,.I]
def QO8(p:PkV)(e:Int)(t:Tup PkT)(Bs:List HP):Prop:=
 t.1=p.kind/\t.2.1=p.epoch/\t.2.2.1=p.seq/\t.2.2.2.1=p.id/\t.2.2.2.2.1=p.code/\t.2.2.2.2.2.2.1=e/\Bs=[Ar U8 t.2.2.2.2.2.1 p.body]
abbrev pkC(k e q i c:Int)(s:Sl):Ad:=[.I k,.I e,.I q,.I i,.I c,s.v]
def QIk(k:Nat):Nat:=if k=1\/k=2 then 17 else if k=3 then 9 else 10
def pkF(k:Nat)(ys:Ab):PkV:=
 if k=1\/k=2 then ⟨k,QLd (ys.drop 1),QLd (ys.drop 9),0,0,if k=1 then ys.drop 17 else []⟩
 else if k=4 then ⟨4,0,0,QLd (ys.drop 1),(ys.getD 9 0).toNat,[]⟩
 else ⟨3,0,0,QLd (ys.drop 1),0,ys.drop 9⟩
def QAo(xs:Ab):PkV×Int:=
 if xs.length<5 then (pk0,1) else if (QDw xs).1≠0 then (pk0,(QDw xs).1) else
 let ys:=(QDw xs).2
 let k:=(ys.getD 0 0).toNat
 if k<1\/k>4 then (pk0,28) else if ys.length<QIk k then (pk0,1)
 else if (k=2\/k=4)/\ys.length>QIk k then (pk0,2)
 else if pkE (pkF k ys) (pkF k ys).body.length≠0 then (pk0,pkE (pkF k ys) (pkF k ys).body.length) else (pkF k ys,0)
theorem QZV{xs:Ab}(a:5<=xs.length)(h:(QDw xs).1=0):(QDw xs).2=xs.take (xs.length - 4):=by
 unfold QDw at h|-;rw[Wb Om]at h|-;split
 ·rfl
 ·rename_i q
  rw[Wb q]at h;cases h
theorem QNl(xs:Ab)(b2:xs.length<=1000000)(b:Sl)(b3:b.n<=b.c):Ct Pr 35 [b.v] (.tup [some 6,none]) PkT [] (RAr U8 b xs) (QO8 (QAo xs).1 (QAo xs).2):=by
 refine QAm (ss:=PkT) (φ:=fun K=>(QKQ _ K).1) (fun h=>cf _ rfl Kr h) fun B C=>?_;show Ent B [] (QKQ b fun U V W X Y Z a0=>Ret B (ss:=PkT) (QO8 (QAo xs).1 (QAo xs).2) (U,V,W,X,Y,Z,a0,()));haveI:Fro B b U8 xs:=⟨C⟩;have hn:=C.1;obtain⟨g,j⟩:∃g,QAo xs=g:=⟨_,rfl⟩;rw[j]
 have bad:∀{a:Nat}{R:List HP}{e:Int},g=(pk0,e)->Ent B (Blk a (pkC 0 0 0 0 0 nilS)::R) (QBE ⟨a,0,none⟩ (.I 0)<|QBE ⟨a,1,none⟩ (.I 0)<|QBE ⟨a,2,none⟩ (.I 0)<|QBE ⟨a,3,none⟩ (.I 0)<|QBE ⟨a,4,none⟩ (.I 0)<|QBE ⟨a,5,none⟩ (.slice none 0 0)<|QAn (.I) ⟨a,0,none⟩ fun(v:Int)=>QAn (.I) ⟨a,1,none⟩ fun(a1:Int)=>QAn (.I) ⟨a,2,none⟩ fun(v2:Int)=>QAn (.I) ⟨a,3,none⟩ fun(v3:Int)=>QAn (.I) ⟨a,4,none⟩ fun(v4:Int)=>QAn .slice ⟨a,5,none⟩ fun v5=>Ret B (ss:=PkT) (QO8 g.1 g.2) (v,a1,v2,v3,v4,v5,e,())):=by
  rintro a R e rfl;iterate 6 (refine xsq ?_)
  iterate 5 (refine xgq ?_)
  refine xgT (h:=?_);exact QAf U8 (QAK [Ar U8 nilS []] (QAD ⟨rfl,rfl,rfl,rfl,rfl,rfl,rfl⟩))
 unfold QKQ mf;dsimp only;unfold QAo at j;refine QAL fun a=>QAB (fun h=>bad (by rw[<-j,We Om])) (fun h=>?_)
 have a':5<=xs.length:=Om
 rw[Wb Om]at j;refine xcl (QUO b xs b2 b3) rdb ?_;rintro⟨s,(r:Int),_⟩ _ ⟨G,rfl⟩;simp only at G;subst G;refine QAz (ca2 (xif (fun h=>QCD 0 (bad ?_)) (fun h=>?_)))
 ·rw[<-j,We (Si h)]
 have M:(QDw xs).1=0:=Si h
 rw[Wb (by rw[M];decide)]at j;have N:=QZV a' M
 generalize (QDw xs).2=ys at *
 have b6:ys.length=xs.length - 4:=by rw[N,Ww];omega
 clear N;simp only at j;have b7:=(ys.getD 0 0).toNat_lt
 generalize b1:(ys.getD 0 0).toNat=k at *
 refine QCl (E:=U8) (xs:=ys) s fun b4 a2=>?_;refine QAH (E:=U8) (xs:=ys) (s:=s) (k:=0) (h1:=Om) (h:=fun _ _=>?_);refine QAN (E:=U8) (xs:=ys) (i:=0) (gdE (d:=0) Om) (h:=QAL fun o=>?_);rw[b1,QX3 (k:Int) Om Om];iterate 6 (refine xsq ?_)
 refine xgq (QTR (xif (fun h=>?_) (fun h=>?_)))
 ·refine QAb [Blk a (pkC 0 0 0 0 0 nilS)] (bad ?_);rw[<-j,We (by simp at h;omega)]
 have b8:1<=k/\k<=4:=by simp at h;omega
 rw[Wb Om]at j;refine xgq ?_;refine QhR (s:=.I) (x:=((QIk k:Nat):Int)) Om ?_ ?_
 ·obtain e|e|e|e:k=1\/k=2\/k=3\/k=4:=Om
  all_goals subst e;rfl
 refine QAB (fun h=>?_) (fun h=>?_)
 ·refine QAb [Blk a (pkC 0 0 0 0 0 nilS)] (bad ?_);rw[<-j,We Om]
 rw[Wb Om]at j
 have H:9<=QIk k/\(k=1\/k=2->QIk k=17)/\(k=4->QIk k=10)/\(k=3->QIk k=9):=by
  obtain e|e|e|e:k=1\/k=2\/k=3\/k=4:=Om
  all_goals subst e;decide
 obtain⟨H,a5,a6,a7⟩:=H;refine xgq ?_
 have O:∀i:Nat,(ys.take s.n).drop i=ys.drop i:=fun i=>by rw[Wn Om]
 have u:∀{As:List HP}{K:Int->WP}(i:Nat),i+8<=ys.length->[Rdb B As (RAr U8 s ys)]->Ent B As (K (QLd (ys.drop i)))->Ent B As (QAX Pr 100 [(s.cut i s.n s.c 1).v] .one [.I] K):=by
  intro As K i hl _ f
  have b0:8<=((ys.take s.n).drop i).length:=by rw[O i,Oc];omega
  refine QAS (QSa (s.cut i s.n s.c 1) ((ys.take s.n).drop i) b0 (by unfold Sl.cut;split<;>simp only<;>omega)) (rdc rdb i s.n s.c Om a2 Om) ?_;rintro⟨t,_⟩ _ ⟨y,rfl⟩;rw[O i]at y;simp only at y;subst y;exact QA2 (ca1 f)
 have p:∀{As:List HP}{K:Sl->WP}(i:Nat),i<=s.n->Ent B As (K (s.cut i s.n s.c 1))->Ent B As (QOx s (i:Int) (s.n:Int) (s.c:Int) 1 K):=fun i hi f=>by
  refine QEi Om Om Om Om ?_;simpa only[Wh]using f
 have S:(pkF k ys).kind=(k:Int):=by
  unfold pkF;split
  ·rfl
  ·split
   ·simp only;omega
   ·simp only;omega
 refine QAb [Blk o (pkC k 0 0 0 0 nilS),Blk a (pkC 0 0 0 0 0 nilS),Ar U8 s ys] ?_;refine QAK [Blk o (pkC k 0 0 0 0 nilS),Blk a (pkC 0 0 0 0 0 nilS),Ar U8 s ys] ?_
 have J:∀{As:List HP}{K:Bool->WP},Ent B As (K (decide (k=1\/k=2)))->Ent B As (QBW [.bool] (fun(D:Bool->WP)=>XIf ((k:Int) == 1) (D ((k:Int) == 1)) (D ((k:Int) == 2))) K):=by
  intro As K f;refine QZN (fun h=>?_) (fun h=>?_)
  ·rw[decide_eq_true Om]at f;exact f
  ·rw[Ze Om]at f;exact f
 refine J ?_
 generalize w:pkF k ys=P at *
 refine QBh (fun As'=>As'=[Blk o (pkC P.kind P.epoch P.seq P.id P.code nilS),Blk a (pkC 0 0 0 0 0 nilS),Ar U8 s ys]) (fun K f=>?_) ?_
 ·refine QAB (fun e=>?_) (fun e=>?_)
  ·have hl:=a5 e
   obtain rfl:(⟨k,QLd (ys.drop 1),QLd (ys.drop 9),0,0,if k=1 then ys.drop 17 else []⟩:PkV)=P:=by rw[<-w];unfold pkF;rw[We e]
   exact QAP (p 1 Om (p 9 Om (u 1 Om (u 9 Om (xsq (xsq (f _ rfl)))))))
  ·refine QAM (xif (fun m=>?_) (fun m=>?_))
   ·have m:k=4:=by have:=eq_of_beq m;omega
    have hl:=a6 m
    obtain rfl:(⟨4,0,0,QLd (ys.drop 1),(ys.getD 9 0).toNat,[]⟩:PkV)=P:=by rw[<-w];unfold pkF;rw[Wb e,We m]
    subst m;have A:ys[9]? = some (ys.getD 9 0):=gdE Om;refine QAP (p 1 Om ?_);refine QAH (E:=U8) (xs:=ys) (s:=s) (k:=9) (h1:=Om) (h:=fun _ _=>?_);refine QAN (E:=U8) (xs:=ys) (i:=9) A (h:=?_);have:=(ys.getD 9 0).toNat_lt;rw[QX3 ((ys.getD 9 0).toNat:Int) Om Om];refine u 1 Om (QOC (E:=U8) (xs:=ys) (i:=9) A (h:=xsq ?_));exact QOC (E:=U8) (xs:=ys) (i:=9) A (h:=xsq (f _ rfl))
   ·have m:k≠4:=by have:=Wv m;omega
    obtain rfl:(⟨3,0,0,QLd (ys.drop 1),0,ys.drop 9⟩:PkV)=P:=by rw[<-w];unfold pkF;rw[Wb e,Wb m]
    have:=a7 Om;refine p 1 Om (u 1 Om (xsq (f _ ?_)));rw[show (k:Int)=3 by omega]
 rintro _ rfl;rw[S];refine xgq (QAV (fun(x:Bool) As'=>(x=true↔(k=1\/k=3))/\As'=[Blk o (pkC k P.epoch P.seq P.id P.code nilS),Blk a (pkC 0 0 0 0 0 nilS),Ar U8 s ys]) (fun K f=>?_) ?_)
 ·exact xif (fun e=>f _ _ ⟨⟨fun _=>.inl (by have:=eq_of_beq e;omega),fun _=>rfl⟩,rfl⟩) (fun e=>QAh (h:=f _ _ ⟨by have:=Wv e;rw[Zq];omega,rfl⟩))
 rintro b5 _ ⟨L,rfl⟩
 have T:(k=1\/k=3->P.body=ys.drop (QIk k))/\(¬(k=1\/k=3)->P.body=[]):=by
  rw[<-w]
  obtain e|e|e|e:k=1\/k=2\/k=3\/k=4:=Om
  all_goals subst e;exact⟨fun h=>by first|rfl|omega,fun h=>by first|rfl|omega⟩
 refine QBh (fun As'=>¬((k=2\/k=4)/\ys.length>QIk k)/\∃l:Sl,As'=[Blk o (pkC k P.epoch P.seq P.id P.code l),Blk a (pkC 0 0 0 0 0 nilS),Ar U8 l P.body]) (fun K f=>?_) ?_
 ·refine xif (fun e=>?_) (fun e=>?_)
  ·have e:=L.1 e;refine p (QIk k) Om (xsq ?_);refine QAb [Ar U8 s ys] (QAg (Q:=Ar U8 (s.cut (QIk k) s.n s.c 1) P.body) 0 (fun g j=>?_) ?_)
   ·obtain⟨z,a8⟩:=j;have:=Ars.dropc a8 (QIk k) Om;rw[<-T.1 e]at this;exact⟨z,this⟩
   ·exact QAb [Blk o _,Blk a _,Ar U8 (s.cut (QIk k) s.n s.c 1) P.body] (f _ ⟨Om,_,rfl⟩)
  ·have e:¬(k=1\/k=3):=fun q=>by rw[L.2 q]at e;cases e
   refine QAB (fun a3=>?_) (fun a3=>?_)
   ·refine QAb [Blk a (pkC 0 0 0 0 0 nilS)] (bad ?_);rw[<-j,We Om]
   ·refine QCD 2 (QAf U8 (QAb [Blk o _,Blk a _,Ar U8 nilS []] (f _ ⟨Om,nilS,by rw[T.2 e]⟩)))
 rintro _ ⟨a9,l,rfl⟩;rw[Wb a9]at j;iterate 5 (refine xgq ?_)
 refine xgS l ?_;refine QAb [Ar U8 l P.body] (QCl (E:=U8) (xs:=P.body) l fun a4 _=>?_);rw[<-S];refine xd1 (QGb P l) ?_;rw[<-a4];refine xif (fun h=>?_) (fun h=>?_)
 ·refine QAb [Blk a (pkC 0 0 0 0 0 nilS)] (bad ?_);rw[<-j,We (Si h)]
 rw[Wb (Si h)]at j;iterate 5 (refine xgq ?_)
 refine xgS l ?_;iterate 6 (refine xsq ?_)
 iterate 5 (refine xgq ?_)
 refine xgS l ?_;subst j;exact QAK [Ar U8 l P.body] (QAD ⟨rfl,rfl,rfl,rfl,rfl,rfl,rfl⟩)
variable {B:QBJ}{As F:List HP}
structure QLe where
 id:Int
 unit:Int
 a:AskV
abbrev QcE:QLe:=⟨0,0,Qet⟩
abbrev cmC(c:QLe)(b ss d:Sl):Ad:=[.I c.id,.I c.unit,.I c.a.code,.I c.a.addr,.I c.a.count,b.v,ss.v,d.v]
def QDV(c:QLe):PkV×Int:=
 if c.id<1\/c.id>1099511627776 then (pk0,3) else if c.unit<1\/c.unit>247 then (pk0,24)
 else if c.a.e≠0 then (pk0,c.a.e) else if QRP c.a.code=false then (pk0,20)
 else (⟨3,0,0,c.id,0,UInt8.ofNat c.unit.toNat::QGK c.a⟩,0)
theorem QWQ(a:AskV)(h:a.e=0):(QGK a).length<=300:=by
 have c:=(QB8 h).2;have b:∀x y:Int,(QCr x++QCr y).length=4:=fun _ _=>rfl;unfold QGK QTu;rcases c with⟨q,_⟩|⟨q,_⟩|⟨q,_⟩|⟨q,_⟩|⟨q,_,hl,_⟩|⟨q,_,_,hl,_⟩|⟨q,_,_,_,hl,_⟩
 ·rw[Wb Om,Wb Om,Wb Om,Wb Om,Wb Om,Wl,b];omega
 ·rw[Wb Om,Wb Om,Wb Om,Wb Om,Wb Om,Wl,b];omega
 ·rw[We q,Wl,b];omega
 ·rw[Wb Om,We q,Wl,b];omega
 ·have hb:=QFJ a.on;have:QHO a.on.length=(a.on.length+7) / 8:=rfl;rw[Wb Om,Wb Om,We q];rw[Wl,Wd,Wd,b,W8];omega
 ·rw[Wb Om,Wb Om,Wb Om,We q];rw[Wl,Wd,Wd,b,W8,QE2];omega
 ·rw[Wb Om,Wb Om,Wb Om,Wb Om,We q];rw[Wl,Wl,QPo];omega
theorem QUb(c:QLe)(H:QOG c.a.set)(i ss j:Sl):Ct Pr 45 [.agg (cmC c i ss j).toArray] (.tup [some 6,none]) PkT [] (askR c.a i ss j) (QO8 (QDV c).1 (QDV c).2):=by
 refine QAm (ss:=PkT) (φ:=fun K=>(QDi _ _ _ _ _ _ _ _ K).1) (fun h=>cf _ rfl Kr h) fun B m=>?_;show Ent B [] (QDi c.id c.unit c.a.code c.a.addr c.a.count i ss j fun n o p q r t u=>Ret B (ss:=PkT) (QO8 (QDV c).1 (QDV c).2) (n,o,p,q,r,t,u,()));obtain⟨C,D,G⟩:=m;haveI:Fro B i BL c.a.on:=⟨C⟩;haveI:Fro B ss W16 c.a.set:=⟨D⟩;haveI:Fro B j PaE c.a.parts:=⟨G⟩;obtain⟨g,f⟩:∃g,QDV c=g:=⟨_,rfl⟩;rw[f]
 have bad:∀{d:Nat}{R:List HP}{e:Int},g=(pk0,e)->Ent B (Blk d (pkC 0 0 0 0 0 nilS)::R) (QBE ⟨d,0,none⟩ (.I 0)<|QBE ⟨d,1,none⟩ (.I 0)<|QBE ⟨d,2,none⟩ (.I 0)<|QBE ⟨d,3,none⟩ (.I 0)<|QBE ⟨d,4,none⟩ (.I 0)<|QBE ⟨d,5,none⟩ (.slice none 0 0)<|QAn (.I) ⟨d,0,none⟩ fun(v:Int)=>QAn (.I) ⟨d,1,none⟩ fun(w:Int)=>QAn (.I) ⟨d,2,none⟩ fun(v2:Int)=>QAn (.I) ⟨d,3,none⟩ fun(v3:Int)=>QAn (.I) ⟨d,4,none⟩ fun(v4:Int)=>QAn .slice ⟨d,5,none⟩ fun v5=>Ret B (ss:=PkT) (QO8 g.1 g.2) (v,w,v2,v3,v4,v5,e,())):=by
  rintro d R e rfl;iterate 6 (refine xsq ?_)
  iterate 5 (refine xgq ?_)
  refine xgT (h:=?_);exact QAf U8 (QAK [Ar U8 nilS []] (QAD ⟨rfl,rfl,rfl,rfl,rfl,rfl,rfl⟩))
 unfold QDi mf;dsimp only;unfold QDV at f;refine QAL fun b=>QAL fun d=>xgq (QTR (xif (fun h=>bad ?_) (fun h=>?_)))
 ·rw[<-f,We (by simp at h;omega)]
 have J:1<=c.id/\c.id<=1099511627776:=by simp at h;omega
 rw[Wb Om]at f;refine xgq (QTR (xif (fun h=>bad ?_) (fun h=>?_)))
 ·rw[<-f,We (by simp at h;omega)]
 have M:1<=c.unit/\c.unit<=247:=by simp at h;omega
 rw[Wb Om]at f;iterate 3 (refine xgq ?_)
 refine xgS i (xgS ss (xgS j ?_));refine xn2 (L:=fun s=>[Ar U8 s (QD2 c.a)]) (QGU c.a H i ss j) (fun x y Bs z=>z) fun A=>?_;refine xif (fun h=>QCD 0 (bad ?_)) (fun h=>?_)
 ·rw[<-f,We (Si h)]
 have h0:c.a.e=0:=Si h
 rw[Wb (by rw[h0];decide)]at f;rw[show QD2 c.a=QGK c.a from We h0];have hl:=QWQ c.a h0;iterate 3 (refine xgq ?_)
 refine xgS i (xgS ss (xgS j ?_));refine xd1 (QNV c.a.code c.a.addr c.a.count i ss j) (xif (fun h=>QCD 0 (bad ?_)) (fun h=>?_))
 ·rw[<-f,We (Si h)]
 rw[Wb (Si h)]at f;refine QAP (xgq (xgq (QAL fun k=>?_)));rw[show IntKind.u8.wrap c.unit=((UInt8.ofNat c.unit.toNat).toNat:Int) by rw[<-QAu c.unit.toNat];congr 1;omega];refine QAg (Q:=Ar U8 ⟨some ⟨k,0,none⟩,1,1⟩ [UInt8.ofNat c.unit.toNat]) 0 (fun g f=>⟨[],QAp [UInt8.ofNat c.unit.toNat] 1 rfl rfl f⟩) ?_;refine QHU (E:=U8) (s:=⟨some ⟨k,0,none⟩,1,1⟩) (y:=A) (ys:=QGK c.a) (hb:=by simp only[Wl,O8];omega) (h:=fun l=>QDK (h:=?_));iterate 6 (refine xsq ?_)
 iterate 5 (refine xgq ?_)
 refine xgS l ?_;subst f;exact QAK [Ar U8 l ([UInt8.ofNat c.unit.toNat]++QGK c.a)] (QAD ⟨rfl,rfl,rfl,rfl,rfl,rfl,rfl⟩)
abbrev CmT:List Sh:=[.I,.I,.I,.I,.I,.slice,.slice,.slice,.I]
def QbZ(c:QLe)(e:Int)(t:Tup CmT)(Bs:List HP):Prop:=
 t.1=c.id/\t.2.1=c.unit/\t.2.2.1=c.a.code/\t.2.2.2.1=c.a.addr/\t.2.2.2.2.1=c.a.count/\t.2.2.2.2.2.2.2.2.1=e/\Bs=[Ar BL t.2.2.2.2.2.1 c.a.on,Ar W16 t.2.2.2.2.2.2.1 c.a.set,Ar PaE t.2.2.2.2.2.2.2.1 c.a.parts]
def QD6(p:PkV):QLe×Int:=
 if pkE p p.body.length≠0 then (QcE,pkE p p.body.length) else if p.kind≠3 then (QcE,28)
 else if (p.body.getD 0 0).toNat<1\/(p.body.getD 0 0).toNat>247 then (QcE,24)
 else if (QAT (p.body.drop 1)).2≠0 then (QcE,(QAT (p.body.drop 1)).2)
 else if QRP (QAT (p.body.drop 1)).1.code=false then (QcE,20)
 else (⟨p.id,(p.body.getD 0 0).toNat,(QAT (p.body.drop 1)).1⟩,0)
theorem Qbg{p:PkV}{n:Nat}(h:pkE p n=0)(a:p.kind=3):2<=n/\n<=254:=by
 unfold pkE at h;rw[Wb Om,Wb Om,We a]at h;obtain⟨b,h⟩:=QHF Dc h;obtain⟨c,h⟩:=QHF Dc h;obtain⟨d,h⟩:=QHF Dc h;obtain⟨e,_⟩:=QHF Dc h;omega
theorem QVZ(p:PkV)(s:Sl)(hc:s.n<=s.c):Ct Pr 342 [QgS p s] (.tup [some 8,none]) CmT [] (RAr U8 s p.body) (QbZ (QD6 p).1 (QD6 p).2):=by
 refine QAm (ss:=CmT) (φ:=fun K=>(QDZ _ _ _ _ _ _ K).1) (fun h=>cf _ rfl Kr h) fun B m=>?_;show Ent B [] (QDZ p.kind p.epoch p.seq p.id p.code s fun x y z A C D G H J=>Ret B (ss:=CmT) (QbZ (QD6 p).1 (QD6 p).2) (x,y,z,A,C,D,G,H,J,()));have hn:p.body.length=s.n:=m.1;haveI:Fro B s U8 p.body:=⟨m⟩;obtain⟨g,f⟩:∃g,QD6 p=g:=⟨_,rfl⟩;rw[f]
 have bad:∀{d:Nat}{R:List HP}{e:Int},g=(QcE,e)->Ent B (Blk d (cmC QcE nilS nilS nilS)::R) (QBE ⟨d,0,none⟩ (.I 0)<|QBE ⟨d,1,none⟩ (.I 0)<|QBE ⟨d,2,none⟩ (.I 0)<|QBE ⟨d,3,none⟩ (.I 0)<|QBE ⟨d,4,none⟩ (.I 0)<|QBE ⟨d,5,none⟩ (.slice none 0 0)<|QBE ⟨d,6,none⟩ (.slice none 0 0)<|QBE ⟨d,7,none⟩ (.slice none 0 0) <|
   QAn (.I) ⟨d,0,none⟩ fun(v:Int)=>QAn (.I) ⟨d,1,none⟩ fun(o:Int)=>QAn (.I) ⟨d,2,none⟩ fun(v2:Int)=>QAn (.I) ⟨d,3,none⟩ fun(v3:Int)=>QAn (.I) ⟨d,4,none⟩ fun(v4:Int)=>QAn .slice ⟨d,5,none⟩ fun v5=>QAn .slice ⟨d,6,none⟩ fun r=>QAn .slice ⟨d,7,none⟩ fun L=>Ret B (ss:=CmT) (QbZ g.1 g.2) (v,o,v2,v3,v4,v5,r,L,e,())):=by
  rintro d R e rfl;iterate 8 (refine xsq ?_)
  iterate 5 (refine xgq ?_)
  iterate 3 (refine xgT (h:=?_))
  exact QAf W16 (QAf BL (QAf PaE (QAK [Ar BL nilS [],Ar W16 nilS [],Ar PaE nilS []] (QAD ⟨rfl,rfl,rfl,rfl,rfl,rfl,rfl⟩))))
 unfold QDZ mf;dsimp only;unfold QD6 at f;refine QAL fun b=>QAL fun d=>?_;iterate 5 (refine xgq ?_)
 refine xgS s (xd1 (QGb p s) ?_);rw[<-hn];refine xif (fun h=>bad ?_) (fun h=>?_)
 ·rw[<-f,We (Si h)]
 have u:pkE p p.body.length=0:=Si h
 rw[Wb (by rw[u];decide)]at f;refine xgq (xif (fun h=>bad ?_) (fun h=>?_))
 ·rw[<-f,We (Si h)]
 have M:p.kind=3:=Si h
 rw[Wb Om]at f;obtain⟨Q,S⟩:=Qbg u M;have U:=(p.body.getD 0 0).toNat_lt;have w:p.body[0]? = some (p.body.getD 0 0):=gdE Om;refine xgS s ?_;refine QAH (E:=U8) (xs:=p.body) (s:=s) (k:=0) (h1:=Om) (h:=fun _ _=>?_);refine QAN (E:=U8) (xs:=p.body) (i:=0) w (h:=?_);rw[QX3 ((p.body.getD 0 0).toNat:Int) Om Om];refine QTR (xif (fun h=>bad ?_) (fun h=>?_))
 ·rw[<-f,We (by rw[Oz,Ks,Ks]at h;omega)]
 have N:¬((p.body.getD 0 0).toNat<1\/(p.body.getD 0 0).toNat>247):=by rw[O0,Wx,Wx]at h;omega
 rw[Wb N]at f;refine xgS s ?_;refine QEi Om Om Om Om ?_;simp only[Wh];have O:=m.cut 1 s.n s.c Om hc Om
 have e:(p.body.take s.n).drop 1=p.body.drop 1:=by rw[Wn Om]
 haveI:Fro B (s.cut (Int.toNat 1) s.n s.c 1) U8 (p.body.drop 1):=⟨e ▸ O⟩;refine xcl (QGp (p.body.drop 1) (by simp;omega) (s.cut (Int.toNat 1) s.n s.c 1) (by show s.n - 1<=s.c - 1;omega)) rdb ?_
 generalize QAT (p.body.drop 1)=q at *
 obtain⟨a,T⟩:=q;rintro⟨v0,o,v2,j,ss,l,r,_⟩ _ ⟨rfl,rfl,rfl,t,rfl⟩;simp only at t f;subst t;refine QLn (ca7 (QAL fun P=>?_));iterate 6 (refine xsq ?_)
 refine xif (fun h=>?_) (fun h=>?_)
 ·refine QAb [Blk d (cmC QcE nilS nilS nilS)] (bad ?_);rw[<-f,We (Si h)]
 rw[Wb (Si h)]at f;iterate 3 (refine xgq ?_)
 refine xgS j (xgS ss (xgS l ?_));refine xd1 (QNV a.code a.addr a.count j ss l) (xif (fun h=>?_) (fun h=>?_))
 ·refine QAb [Blk d (cmC QcE nilS nilS nilS)] (bad ?_);rw[<-f,We (Si h)]
 rw[Wb (Si h)]at f;subst f;refine QAP (xgq (xgS s ?_));refine QAH (E:=U8) (xs:=p.body) (s:=s) (k:=0) (h1:=Om) (h:=fun _ _=>?_);refine QAN (E:=U8) (xs:=p.body) (i:=0) w (h:=?_);rw[QX3 ((p.body.getD 0 0).toNat:Int) Om Om];iterate 3 (refine xgq ?_)
 refine xgS j (xgS ss (xgS l ?_));iterate 8 (refine xsq ?_)
 iterate 5 (refine xgq ?_)
 refine xgS j (xgS ss (xgS l ?_));exact QAK [Ar BL j a.on,Ar W16 ss a.set,Ar PaE l a.parts] (QAD ⟨rfl,rfl,rfl,rfl,rfl,rfl,rfl⟩)
theorem QMm:∀(xs:Ab),QOG (QGS xs)
 | []=>fun v h=>by simp[QGS]at h
 | [_]=>fun v h=>by simp[QGS]at h
 | a::b::xs=>fun v h=>by
  have:=a.toNat_lt;have:=b.toNat_lt;rcases W7.1 (show v∈((a.toNat*256+b.toNat:Nat):Int)::QGS xs from h) with rfl|h
  ·omega
  ·exact QMm xs v h
theorem QH2(xs:Ab):QOG (QAT xs).1.set:=by
 have nil:QOG []:=fun v h=>by cases h
 unfold QAT;repeat' split
 all_goals try exact nil
 unfold QBe
 (try simp only)
 repeat' split
 all_goals try exact nil
 ·intro v h;simp only[Oe]at h;have:=Qeo xs 3;omega
 ·unfold QCZ;split
  ·exact QMm _
  ·exact nil
theorem QUa(xs:Ab)(h:(xs.getD 0 0).toNat≠20):(QAT xs).1.code≠20:=by
 unfold QAT;repeat' split
 all_goals try (show (0:Int)≠20;decide)
 unfold QBe
 (try simp only)
 repeat' split
 all_goals try (first|(show (5:Int)≠20;decide)|(show (6:Int)≠20;decide)|(show (15:Int)≠20;decide)|(show (16:Int)≠20;decide))
 ·contradiction
 ·simp only;omega
structure MaM where
 timeout:Int
 retries:Int
 tries:Int
 at_:Int
 unit:Int
 a:AskV
 fr:Ab
structure QfN(m:MaM):Prop where
 timeout:1<=m.timeout/\m.timeout<=1048576
 retries:0<=m.retries/\m.retries<=5
 tries:0<=m.tries/\m.tries<=m.retries+1
 at_:0<=m.at_/\m.at_<=1099511627776
 ask:QOG m.a.set/\m.a.code≠20
 fr:m.fr.length<=1000
abbrev MaM.cells(m:MaM)(b ss c fr:Sl):Ad:=[.I m.timeout,.I m.retries,.I m.tries,.I m.at_,.I m.unit,.I m.a.code,.I m.a.addr,.I m.a.count,b.v,ss.v,c.v,fr.v]
abbrev MaM.ps(m:MaM)(b ss c fr:Sl):List HP:=[Ar BL b m.a.on,Ar W16 ss m.a.set,Ar PaE c m.a.parts,Ar U8 fr m.fr]
def QBF(q:Ac)(m:MaM):HP:=fun h=>QfN m/\∃(b:Nat) (a ss c fr:Sl),q=some ⟨b,0,none⟩/\QBr (Blk b (m.cells a ss c fr)::m.ps a ss c fr) h
theorem QiO(j:Nat){q:Ac}{m:MaM}{φ:WP}[p:Pick j As (QBF q m) F](h:∀b c ss d fr,q=some ⟨b,0,none⟩->QfN m->Ent B (Blk b (m.cells c ss d fr)::Ar BL c m.a.on::Ar W16 ss m.a.set::Ar PaE d m.a.parts::Ar U8 fr m.fr::F) φ):Ent B As φ:=by
 refine QEZ j (fun Bs=>∃b c ss d fr,q=some ⟨b,0,none⟩/\QfN m/\Bs=Blk b (m.cells c ss d fr)::m.ps c ss d fr) (fun g i=>?_) ?_
 ·obtain⟨f,b,c,ss,d,fr,e,hb⟩:=i;exact⟨_,⟨b,c,ss,d,fr,e,f,rfl⟩,hb⟩
 ·rintro _ ⟨b,c,ss,d,fr,e,f,rfl⟩;exact h b c ss d fr e f
theorem QP7(b:Nat)(c ss d fr:Sl)(m:MaM){G:List HP}[s:Split [Blk b (m.cells c ss d fr),Ar BL c m.a.on,Ar W16 ss m.a.set,Ar PaE d m.a.parts,Ar U8 fr m.fr] As G]{φ:WP}(f:QfN m)(k:Ent B (QBF (some ⟨b,0,none⟩) m::G) φ):Ent B As φ:=
 QBO [Blk b (m.cells c ss d fr),Ar BL c m.a.on,Ar W16 ss m.a.set,Ar PaE d m.a.parts,Ar U8 fr m.fr] (QBF (some ⟨b,0,none⟩) m) (fun g e=>⟨f,b,c,ss,d,fr,rfl,e⟩) k
abbrev QRO(timeout retries:Int):MaM:=⟨timeout,retries,0,0,0,Qet,[]⟩
theorem QVX(t r:Int)(h:(1<=t/\t<=1048576)/\0<=r/\r<=5):Ct Pr 59 [.I t,.I r] (.tup [none,none]) [.ptr,.I] [] emp (fun x Bs=>x.2.1=0/\Bs=[QBF x.1 (QRO t r)]):=by
 refine sp2 (QPb _ _) fun B _=>?_;unfold QPb mf;dsimp only;refine QBH (by simp;omega) (QAL fun b=>?_);refine QAf BL (QAf W16 (QAf PaE (QAf U8 (QP7 b nilS nilS nilS nilS (QRO t r) ⟨h.1,h.2,⟨Uo 0,by show (0:Int)<=r+1;omega⟩,⟨Uo 0,show (0:Int)<=1099511627776 by decide⟩,⟨(fun v h=>by cases h),show (0:Int)≠20 by decide⟩,Ua _⟩ ?_))));exact QAD ⟨rfl,rfl⟩
theorem QL1(b:Nat)(m:MaM)(a ss c fr:Sl):Ct Pr 42 [.pointer (some ⟨b,0,none⟩)] .one [.bool] [Blk b (m.cells a ss c fr)] emp (fun x Bs=>x.1=decide (m.tries>0)/\Bs=[Blk b (m.cells a ss c fr)]):=by
 refine sp1 (QFL _) fun B _=>?_;unfold QFL mf;dsimp only;exact QAO (xgq (QAD ⟨rfl,rfl⟩))
theorem QTi(q:Ac)(m:MaM):Ct Pr 42 [.pointer q] .one [.bool] [QBF q m] emp (fun x Bs=>x.1=decide (m.tries>0)/\Bs=[QBF q m]):=by
 refine QG9 (φ:=QAX Pr 42 [.pointer q] .one [.bool]) id fun B _=>?_;refine QiO 0 fun b a ss c fr d e=>?_;subst d;exact xd1 (QL1 b m a ss c fr) (QP7 b a ss c fr m e (QAD ⟨rfl,rfl⟩))
theorem QNp(now:Int):Ct Pr 323 [.I now] .one [.bool] [] emp (fun x Bs=>x.1=(decide (now>=0)&&decide (now<=1099511627776))/\Bs=[]):=by
 refine sp1 (QJf _) fun B _=>?_;unfold QJf mf;dsimp only;exact QAD ⟨rfl,rfl⟩
def QMO(m:MaM)(now unit:Int)(a:AskV):Int:=
 if m.tries>0 then 11 else if unit<1\/unit>247 then 24 else if a.e≠0 then a.e else if now<0\/now>1099511627776 then 3 else 0
abbrev QCR(m:MaM)(now unit:Int)(a:AskV):MaM:={ m with tries:=1,at_:=now,unit:=unit,a:=(QAT (QGK a)).1,fr:=(QTp (UInt8.ofNat unit.toNat) (QGK a)).2 }
def QS3(q:Ac)(m:MaM)(now unit:Int)(a:AskV)(x:Tup [.slice,.I])(Bs:List HP):Prop:=
 x.2.1=QMO m now unit a/\((QMO m now unit a=0/\Bs=[QBF q (QCR m now unit a),Ar U8 x.1 (QCR m now unit a).fr])\/(QMO m now unit a≠0/\x.1=nilS/\Bs=[QBF q m]))
theorem Qa8(u:UInt8)(l:Ab)(h:l.length<=300):(QTp u l).2.length<=1000:=by
 unfold QTp QN6;repeat' split
 all_goals simp[QZE]
 all_goals omega
theorem QJ5(q:Ac)(m:MaM)(now unit:Int)(a:AskV)(M:QOG a.set)(S:a.code≠20)(i ss j:Sl) :
  Ct Pr 327 [.pointer q,.I now,.I unit,Qft a i ss j] (.tup [none,none]) [.slice,.I] [QBF q m] (askR a i ss j) (QS3 q m now unit a):=by
 refine sp2 (QEm _ _ _ _ _ _ _ _ _) fun B u=>?_;obtain⟨A,C,D⟩:=u;haveI:Fro B i BL a.on:=⟨A⟩;haveI:Fro B ss W16 a.set:=⟨C⟩;haveI:Fro B j PaE a.parts:=⟨D⟩;unfold QEm mf QS3;dsimp only;obtain⟨e,he⟩:∃e,QMO m now unit a=e:=⟨_,rfl⟩;rw[he];unfold QMO at he;refine QiO 0 fun b c d sp0 fr v n=>?_;subst v
 have bad:∀{R:List HP}{k:Int},k≠0->k=e->Ent B (Blk b (m.cells c d sp0 fr)::Ar BL c m.a.on::Ar W16 d m.a.set::Ar PaE sp0 m.a.parts::Ar U8 fr m.fr::R) (Ret B (ss:=[.slice,.I]) (fun x Bs=>x.2.1=e/\((e=0/\Bs=[QBF (some ⟨b,0,none⟩) (QCR m now unit a),Ar U8 x.1 (QCR m now unit a).fr])\/(e≠0/\x.1=nilS/\Bs=[QBF (some ⟨b,0,none⟩) m]))) (nilS,k,())):=by
  rintro R k G rfl;exact QP7 b c d sp0 fr m n (QAd (l:=[QBF (some ⟨b,0,none⟩) m]) (QAD ⟨rfl,.inr ⟨G,rfl,rfl⟩⟩))
 refine QAL fun N=>xd1 (QL1 b m c d sp0 fr) (QAB (fun h=>QAb [Blk b _,Ar BL c m.a.on,Ar W16 d m.a.set,Ar PaE sp0 m.a.parts,Ar U8 fr m.fr] (bad Dc (by rw[<-he,We h]))) (fun h=>?_));rw[Wb h]at he;refine xif (fun f=>QAb [Blk b _,Ar BL c m.a.on,Ar W16 d m.a.set,Ar PaE sp0 m.a.parts,Ar U8 fr m.fr] (bad Dc ?_)) (fun f=>?_)
 ·rw[<-he,We (Si f)]
 have f:¬(unit<1\/unit>247):=Si f
 rw[Wb f]at he;iterate 3 (refine xgq ?_)
 refine xgS i (xgS ss (xgS j ?_));refine xn2 (L:=fun s=>[Ar U8 s (QD2 a)]) (QGU a M i ss j) (fun x y Bs p=>p) fun o=>?_;refine xif (fun h0=>QAb [Blk b _,Ar BL c m.a.on,Ar W16 d m.a.set,Ar PaE sp0 m.a.parts,Ar U8 fr m.fr] (bad (Si h0) ?_)) (fun h0=>?_)
 ·rw[<-he,We (Si h0)]
 have h0:a.e=0:=Si h0
 rw[Wb (by rw[h0];decide)]at he;rw[show QD2 a=QGK a from We h0];refine xd1 (QNp now) (xif (fun g=>QAb [Blk b _,Ar BL c m.a.on,Ar W16 d m.a.set,Ar PaE sp0 m.a.parts,Ar U8 fr m.fr] (bad Dc ?_)) (fun g=>?_))
 ·rw[<-he,We (by simp at g;omega)]
 have g:0<=now/\now<=1099511627776:=by simp at g;omega
 rw[Wb Om]at he;subst he;have hl:=QWQ a h0
 have J:((QGK a).getD 0 0).toNat≠20:=by
  show (UInt8.ofNat a.code.toNat).toNat≠20;rw[Ub];rcases (QB8 h0).2 with⟨q|q,_⟩|⟨q|q,_⟩|⟨q,_⟩|⟨q,_⟩|⟨q,_⟩|⟨q,_⟩|⟨q,_⟩<;>omega
 rw[show IntKind.u8.wrap unit=((UInt8.ofNat unit.toNat).toNat:Int) by rw[<-QAu unit.toNat];congr 1;omega];refine xcl (QWk (UInt8.ofNat unit.toNat) o (QGK a)) rdb ?_;rintro⟨r,(O:Int),_⟩ _ ⟨_,rfl⟩;refine QAz (ca2 ?_);refine QAO (xsq (QAO (xsq (QAO (xsq (QAO (xsq ?_)))))));refine QAb [Ar U8 o (QGK a)] (QCl (E:=U8) (xs:=QGK a) o fun _ w=>?_);refine xcl (QGp (QGK a) Om o w) rdb ?_;rintro⟨v0,P,v2,t0,H,t2,Q,_⟩ _ ⟨rfl,rfl,rfl,t,rfl⟩;simp only at t;subst t;refine QLn (ca7 (QAO ?_));iterate 6 (refine xsq ?_)
 refine QAO (xgS r ?_);have K:=Qa8 (UInt8.ofNat unit.toNat) (QGK a) hl;refine xn1 (L:=fun s=>[Ar U8 s (QTp (UInt8.ofNat unit.toNat) (QGK a)).2]) (QMN r (QTp (UInt8.ofNat unit.toNat) (QGK a)).2 Om) (fun x Bs p=>p) fun z=>?_;refine QP7 b t0 H t2 r (QCR m now unit a) ⟨n.timeout,n.retries,⟨show (0:Int)<=1 by decide,by have:=n.retries;show (1:Int)<=m.retries+1;omega⟩,g,⟨QH2 _,QUa _ J⟩,K⟩ ?_;exact QAK [QBF (some ⟨b,0,none⟩) (QCR m now unit a),Ar U8 z (QCR m now unit a).fr] (QAD ⟨rfl,.inl ⟨rfl,rfl⟩⟩)
structure QZO where
 what:Int
 r:RepV
 tries:Int
 is:Bool
abbrev Qfu:QZO:=⟨0,QPJ,0,false⟩
abbrev Qbt:List Sh:=[.I,.I,.slice,.slice,.slice,.I,.bool]
def QKq(o:QZO)(t:Tup Qbt)(L Bs:List HP):Prop:=t.1=o.what/\t.2.1=o.r.exc/\t.2.2.2.2.1=nilS/\o.r.files=[]/\t.2.2.2.2.2.1=o.tries/\t.2.2.2.2.2.2.1=o.is/\Bs=Ar BL t.2.2.1 o.r.on::Ar W16 t.2.2.2.1 o.r.set::L
abbrev QCU(m:MaM):MaM:={ m with tries:=0 }
theorem QaM{m:MaM}(h:QfN m):QfN (QCU m):=⟨h.timeout,h.retries,⟨Uo 0,by have:=h.retries;show (0:Int)<=m.retries+1;omega⟩,h.at_,h.ask,h.fr⟩
theorem Qb0(b:Nat)(m:MaM)(d ss e fr:Sl)(what exc:Int)(a c:Sl):Ct Pr 238 [.pointer (some ⟨b,0,none⟩),.I what,QgR exc a c nilS] (.tup [some 6,none]) Qbt [Blk b (m.cells d ss e fr)] emp
  (fun t Bs=>(t.1=what/\t.2.1=exc/\t.2.2.1=a/\t.2.2.2.1=c/\t.2.2.2.2.1=nilS/\t.2.2.2.2.2.1=m.tries/\t.2.2.2.2.2.2.1=true)/\Bs=[Blk b ((QCU m).cells d ss e fr)]):=by
 refine QAm (ss:=Qbt) (φ:=fun K=>(QDb _ _ _ _ _ _ K).1) (fun h=>cf _ rfl Kr h) fun B _=>?_;show Ent B [Blk b (m.cells d ss e fr)] (QDb (some ⟨b,0,none⟩) what exc a c nilS fun f g i j k l n=>Ret B (ss:=Qbt) (fun t Bs=>(t.1=what/\t.2.1=exc/\t.2.2.1=a/\t.2.2.2.1=c/\t.2.2.2.2.1=nilS/\t.2.2.2.2.2.1=m.tries/\t.2.2.2.2.2.2.1=true)/\Bs=[Blk b ((QCU m).cells d ss e fr)]) (f,g,i,j,k,l,n,()));unfold QDb mf;dsimp only;refine QAL fun o=>QAL fun p=>QAP (xgq (xgS a (xgS c (xgT (h:=QAO (xgq (QAL fun q=>?_)))))));iterate 6 (refine xsq ?_)
 refine QAO (xsq (xgq (xgq (xgS a (xgS c (xgT (h:=xgq ?_)))))));iterate 6 (refine xsq ?_)
 refine xgq (xgq (xgS a (xgS c (xgT (h:=xgq ?_)))));exact QAK [Blk b ((QCU m).cells d ss e fr)] (QAD ⟨⟨rfl,rfl,rfl,rfl,rfl,rfl,rfl⟩,rfl⟩)
def QFc(m:MaM)(xs:Ab):QZO×MaM:=
 if m.tries<=0 then (Qfu,m) else
 let o:=QAZ xs
 if o.1≠0\/(o.2.1.toNat:Int)≠m.unit then (Qfu,m) else
 let r:=QBq m.a o.2.2
 if r.2≠0 then (Qfu,m) else (⟨if r.1.exc≠0 then 2 else 1,r.1,m.tries,true⟩,QCU m)
theorem QTl(q:Ac)(m:MaM)(b:Sl)(xs:Ab)(b9:b.n<=b.c) :
  Ct Pr 150 [.pointer q,b.v] (.tup [some 6,none]) Qbt [QBF q m] (RAr U8 b xs) (fun t Bs=>QKq (QFc m xs).1 t [QBF q (QFc m xs).2] Bs):=by
 refine QAm (ss:=Qbt) (φ:=fun K=>(QC8 _ _ K).1) (fun h=>cf _ rfl Kr h) fun B Q=>?_;show Ent B [QBF q m] (QC8 q b fun S T U V W X Y=>Ret B (ss:=Qbt) (fun t Bs=>QKq (QFc m xs).1 t [QBF q (QFc m xs).2] Bs) (S,T,U,V,W,X,Y,()));haveI:Fro B b U8 xs:=⟨Q⟩;obtain⟨g,w⟩:∃g,QFc m xs=g:=⟨_,rfl⟩;rw[w];unfold QC8 mf;dsimp only;unfold QFc at w;refine QiO 0 fun j f ss i fr Z D=>?_;subst Z
 have bad:∀{d:Nat}{R:List HP},(Qfu,m)=g->Ent B (Blk d [.I 0,.I 0,.slice none 0 0,.slice none 0 0,.slice none 0 0,.I 0]::Blk j (m.cells f ss i fr)::Ar BL f m.a.on::Ar W16 ss m.a.set::Ar PaE i m.a.parts::Ar U8 fr m.fr::R)
   (QBE ⟨d,0,none⟩ (.I 0)<|QBE ⟨d,1,none⟩ (.I 0)<|QBE ⟨d,2,none⟩ (.slice none 0 0)<|QBE ⟨d,3,none⟩ (.slice none 0 0)<|QBE ⟨d,4,none⟩ (.slice none 0 0)<|QBE ⟨d,5,none⟩ (.I 0)<|QAn (.I) ⟨d,0,none⟩ fun(v:Int)=>QAn (.I) ⟨d,1,none⟩ fun(a0:Int)=>QAn .slice ⟨d,2,none⟩ fun v2=>QAn .slice ⟨d,3,none⟩ fun v3=>QAn .slice ⟨d,4,none⟩ fun v4=>QAn (.I) ⟨d,5,none⟩ fun(v5:Int)=>Ret B (ss:=Qbt) (fun t Bs=>QKq g.1 t [QBF (some ⟨j,0,none⟩) g.2] Bs) (v,a0,v2,v3,v4,v5,false,())):=by
  rintro d R rfl;iterate 6 (refine xsq ?_)
  refine xgq (xgq (xgT (h:=xgT (h:=xgT (h:=xgq ?_)))));refine QP7 j f ss i fr m D (QAf W16 (QAf BL ?_));exact QAK [Ar BL nilS [],Ar W16 nilS [],QBF (some ⟨j,0,none⟩) m] (QAD ⟨rfl,rfl,rfl,rfl,rfl,rfl,rfl⟩)
 refine QAL fun d=>xd1 (QL1 j m f ss i fr) (xif (fun h=>?_) (fun h=>?_))
 ·exact QAb [Blk d _,Blk j (m.cells f ss i fr),Ar BL f m.a.on,Ar W16 ss m.a.set,Ar PaE i m.a.parts,Ar U8 fr m.fr] (bad (by rw[<-w,We (by simp at h;omega)]))
 have h0:0<m.tries:=by simp at h;omega
 rw[Wb Om]at w;refine xcl (QHl b xs b9) rdb ?_
 generalize QAZ xs=o at *
 obtain⟨e,u,pdu⟩:=o;simp only at w;rintro⟨y,s,(H:Int),_⟩ _ ⟨h1,C,rfl⟩;simp only at h1 C;subst h1 C;have c6:=u.toNat_lt;refine QAz (ca3 ?_);refine QAV (fun(x:Bool) As'=>(x=true↔(H≠0\/(u.toNat:Int)≠m.unit))/\As'=[Blk j (m.cells f ss i fr),Ar U8 s pdu,Blk d [.I 0,.I 0,.slice none 0 0,.slice none 0 0,.slice none 0 0,.I 0],Ar BL f m.a.on,Ar W16 ss m.a.set,Ar PaE i m.a.parts,Ar U8 fr m.fr]) (fun K G=>?_) ?_
 ·refine xif (fun h=>QAb [Blk j (m.cells f ss i fr)] (G _ _ ⟨⟨fun _=>.inl (On.1 h),fun _=>rfl⟩,rfl⟩)) (fun h=>QAO (xgq (QAb [Blk j (m.cells f ss i fr)] (G _ _ ⟨?_,rfl⟩))))
  have:H=0:=Si h
  rw[QX3 (u.toNat:Int) Om Om,On];exact⟨.inr,fun q=>q.resolve_left (fun z=>z this)⟩
 rintro x _ ⟨hx,rfl⟩;refine xif (fun h=>?_) (fun h=>?_)
 ·exact QAb [Blk d _,Blk j (m.cells f ss i fr),Ar BL f m.a.on,Ar W16 ss m.a.set,Ar PaE i m.a.parts,Ar U8 fr m.fr] (bad (by rw[<-w,We (hx.1 h)]))
 rw[Wb (fun q=>by rw[hx.2 q]at h;cases h)]at w;refine QAO (xgq (xgq (xgq (xgS f (xgS ss (xgS i ?_))))));refine QAb [Ar U8 s pdu] (QCl (E:=U8) (xs:=pdu) s fun b' a1=>?_);refine xcl (QVH m.a D.ask.1 D.ask.2 f ss i s pdu a1) rdb ?_
 generalize QBq m.a pdu=r at *
 obtain⟨k,c0⟩:=r;simp only at w;rintro⟨v0,l,p,v3,(v4:Int),_⟩ _ ⟨h1,C,b7,J,rfl⟩;simp only at h1 C J;subst h1 C J;refine QBK (ca5 (QAL fun A=>?_));iterate 4 (refine xsq ?_)
 refine xif (fun h=>?_) (fun h=>?_)
 ·exact QAb [Blk d _,Blk j (m.cells f ss i fr),Ar BL f m.a.on,Ar W16 ss m.a.set,Ar PaE i m.a.parts,Ar U8 fr m.fr] (bad (by rw[<-w,We (On.1 h)]))
 rw[Wb (Si h)]at w;refine xgq ?_
 have b8:∀{what:Int}{R:List HP},(if k.exc≠0 then 2 else 1)=what->Ent B (Blk j ((QCU m).cells f ss i fr)::Ar BL f m.a.on::Ar W16 ss m.a.set::Ar PaE i m.a.parts::Ar U8 fr m.fr::Ar BL l k.on::Ar W16 p k.set::R)
   (Ret B (ss:=Qbt) (fun t Bs=>QKq g.1 t [QBF (some ⟨j,0,none⟩) g.2] Bs) (what,k.exc,l,p,nilS,m.tries,true,())):=by
  rintro what R rfl;subst w;refine QP7 j f ss i fr (QCU m) (QaM D) ?_;exact QAK [Ar BL l k.on,Ar W16 p k.set,QBF (some ⟨j,0,none⟩) (QCU m)] (QAD ⟨rfl,rfl,rfl,b7,rfl,rfl,rfl⟩)
 have O:∀{what:Int}{R:List HP},(if k.exc≠0 then 2 else 1)=what->Ent B (Blk A [.I k.exc,l.v,p.v,.slice none 0 0]::Blk j (m.cells f ss i fr)::Ar BL f m.a.on::Ar W16 ss m.a.set::Ar PaE i m.a.parts::Ar U8 fr m.fr::Ar BL l k.on::Ar W16 p k.set::Blk d [.I 0,.I 0,.slice none 0 0,.slice none 0 0,.slice none 0 0,.I 0]::R)
   (QAn (.I) ⟨A,0,none⟩ fun(a2:Int)=>QAn .slice ⟨A,1,none⟩ fun a3=>QAn .slice ⟨A,2,none⟩ fun a4=>QAn .slice ⟨A,3,none⟩ fun a5=>QAX Pr 238 [.pointer (some ⟨j,0,none⟩),.I what,.agg #[.I a2,a3.v,a4.v,a5.v]] (.tup [some 6,none]) [.I,.I,.slice,.slice,.slice,.I,.bool]<|fun(a6:Int) (a7:Int) a8 a9 a' (b0:Int) (b1:Bool)=>QBE ⟨d,0,none⟩ (.I a6)<|QBE ⟨d,1,none⟩ (.I a7)<|QBE ⟨d,2,none⟩ a8.v<|QBE ⟨d,3,none⟩ a9.v<|QBE ⟨d,4,none⟩ a'.v<|QBE ⟨d,5,none⟩ (.I b0)<|QAn (.I) ⟨d,0,none⟩ fun(b2:Int)=>QAn (.I) ⟨d,1,none⟩ fun(b3:Int)=>QAn .slice ⟨d,2,none⟩ fun v20=>QAn .slice ⟨d,3,none⟩ fun v21=>QAn .slice ⟨d,4,none⟩ fun v22=>QAn (.I) ⟨d,5,none⟩ fun(b4:Int)=>Ret B (ss:=Qbt) (fun t Bs=>QKq g.1 t [QBF (some ⟨j,0,none⟩) g.2] Bs) (b2,b3,v20,v21,v22,b4,b1,())):=by
  intro what R b6;refine xgq (xgS l (xgS p (xgT (h:=?_))));refine xcl (Qb0 j m f ss i fr what k.exc l p) rdb ?_;rintro⟨c1,c2,L,M,c3,c4,c5,_⟩ _ ⟨⟨rfl,rfl,N,g3,g4,rfl,rfl⟩,rfl⟩;simp only at N g3 g4;subst N g3 g4;refine QAz (ca7 ?_);iterate 6 (refine xsq ?_)
  refine xgq (xgq (xgS L (xgS M (xgT (h:=xgq ?_)))));exact QAb [Blk j ((QCU m).cells f ss i fr),Ar BL f m.a.on,Ar W16 ss m.a.set,Ar PaE i m.a.parts,Ar U8 fr m.fr,Ar BL L k.on,Ar W16 M k.set] (b8 b6)
 have P:∀{φ:WP},Ent B (Blk A [.I k.exc,l.v,p.v,.slice none 0 0]::Blk j (m.cells f ss i fr)::Ar BL f m.a.on::Ar W16 ss m.a.set::Ar PaE i m.a.parts::Ar U8 fr m.fr::Ar BL l k.on::Ar W16 p k.set::Blk d [.I 0,.I 0,.slice none 0 0,.slice none 0 0,.slice none 0 0,.I 0]::[Ar U8 s pdu]) φ->Ent B [Blk A [.I k.exc,l.v,p.v,.slice none 0 0],Ar BL l k.on,Ar W16 p k.set,Ar U8 s pdu,Blk j (m.cells f ss i fr),Blk d [.I 0,.I 0,.slice none 0 0,.slice none 0 0,.slice none 0 0,.I 0],Ar BL f m.a.on,Ar W16 ss m.a.set,Ar PaE i m.a.parts,Ar U8 fr m.fr] φ:=fun b5=>
  QAb [Blk A [.I k.exc,l.v,p.v,.slice none 0 0],Blk j (m.cells f ss i fr),Ar BL f m.a.on,Ar W16 ss m.a.set,Ar PaE i m.a.parts,Ar U8 fr m.fr,Ar BL l k.on,Ar W16 p k.set,Blk d [.I 0,.I 0,.slice none 0 0,.slice none 0 0,.slice none 0 0,.I 0]] b5
 refine xif (fun h=>P (O ?_)) (fun h=>P (O ?_))
 ·rw[We (On.1 h)]
 ·rw[Wb (Si h)]
abbrev QOR:List Sh:=.slice::Qbt
abbrev QKV(m:MaM)(now:Int):MaM:={ m with tries:=m.tries+1,at_:=now }
def QDA(m:MaM)(now:Int):Ab×QZO×MaM:=
 if ¬(0<m.tries/\m.at_+m.timeout<=now) then ([],Qfu,m)
 else if m.retries<m.tries then ([],⟨3,QPJ,m.tries,true⟩,QCU m) else (m.fr,Qfu,QKV m now)
def QL7(q:Ac)(m:MaM)(now:Int)(t:Tup QOR)(Bs:List HP):Prop:=QKq (QDA m now).2.1 t.2 [QBF q (QDA m now).2.2,Ar U8 t.1 (QDA m now).1] Bs
theorem QYn(b:Nat)(m:MaM)(a ss c fr:Sl)(x:Int):Ct Pr 325 [.pointer (some ⟨b,0,none⟩),.I x] (.tup [none,some 6,none]) QOR [Blk b (m.cells a ss c fr)] emp (fun t Bs=>(t.1=nilS/\t.2.1=3/\t.2.2.1=0/\t.2.2.2.1=nilS/\t.2.2.2.2.1=nilS/\t.2.2.2.2.2.1=nilS/\t.2.2.2.2.2.2.1=m.tries/\t.2.2.2.2.2.2.2.1=true)/\Bs=[Blk b ((QCU m).cells a ss c fr)]):=by
 refine QAm (ss:=QOR) (φ:=fun K=>(QCd _ _ K).1) (fun h=>cf _ rfl Kr h) fun B _=>?_;show Ent B [Blk b (m.cells a ss c fr)] (QCd (some ⟨b,0,none⟩) x fun e f g i j k l n=>Ret B (ss:=QOR) (fun t Bs=>(t.1=nilS/\t.2.1=3/\t.2.2.1=0/\t.2.2.2.1=nilS/\t.2.2.2.2.1=nilS/\t.2.2.2.2.2.1=nilS/\t.2.2.2.2.2.2.1=m.tries/\t.2.2.2.2.2.2.2.1=true)/\Bs=[Blk b ((QCU m).cells a ss c fr)]) (e,f,g,i,j,k,l,n,()));unfold QCd mf;dsimp only;refine QAL fun o=>xcl (Qb0 b m a ss c fr 3 0 nilS nilS) rdb ?_;rintro⟨q,r,s,u,v,w,y,_⟩ _ ⟨⟨rfl,rfl,d,g3,g4,rfl,rfl⟩,rfl⟩;simp only at d g3 g4;subst d g3 g4;refine QAz (ca7 (QAL fun p=>?_));iterate 6 (refine xsq ?_)
 refine QAP (xgq (xgq (xgT (h:=xgT (h:=xgT (h:=xgq ?_))))));iterate 6 (refine xsq ?_)
 refine xgq (xgq (xgT (h:=xgT (h:=xgT (h:=xgq ?_)))));exact QAK [Blk b ((QCU m).cells a ss c fr)] (QAD ⟨⟨rfl,rfl,rfl,rfl,rfl,rfl,rfl,rfl⟩,rfl⟩)
theorem QZ1(b:Nat)(m:MaM)(a ss c fr:Sl)(now:Int)(q:m.tries<=5)(h0:0<=m.tries)(hl:m.fr.length<=1000):Ct Pr 324 [.pointer (some ⟨b,0,none⟩),.I now] (.tup [none,some 6,none]) QOR [Blk b (m.cells a ss c fr),Ar U8 fr m.fr] emp
  (fun t Bs=>(t.2.1=0/\t.2.2.1=0/\t.2.2.2.1=nilS/\t.2.2.2.2.1=nilS/\t.2.2.2.2.2.1=nilS/\t.2.2.2.2.2.2.1=0/\t.2.2.2.2.2.2.2.1=false)/\Bs=[Blk b ((QKV m now).cells a ss c fr),Ar U8 fr m.fr,Ar U8 t.1 m.fr]):=by
 refine QAm (ss:=QOR) (φ:=fun K=>(QCt _ _ K).1) (fun h=>cf _ rfl Kr h) fun B _=>?_;show Ent B [Blk b (m.cells a ss c fr),Ar U8 fr m.fr] (QCt (some ⟨b,0,none⟩) now fun d e f g i j k l=>Ret B (ss:=QOR) (fun t Bs=>(t.2.1=0/\t.2.2.1=0/\t.2.2.2.1=nilS/\t.2.2.2.2.1=nilS/\t.2.2.2.2.2.1=nilS/\t.2.2.2.2.2.2.1=0/\t.2.2.2.2.2.2.2.1=false)/\Bs=[Blk b ((QKV m now).cells a ss c fr),Ar U8 fr m.fr,Ar U8 t.1 m.fr]) (d,e,f,g,i,j,k,l,()));unfold QCt mf;dsimp only;refine QAL fun p=>QAO (xgq ?_);rw[QAC (m.tries+1) Om Om];refine QAO (xsq (QAO (xsq (QAO (xgS fr ?_)))));refine xn1 (L:=fun s=>[Ar U8 s m.fr]) (QMN fr m.fr Om) (fun x Bs n=>n) fun o=>?_;iterate 6 (refine xsq ?_)
 refine xgq (xgq (xgT (h:=xgT (h:=xgT (h:=xgq ?_)))));exact QAK [Blk b ((QKV m now).cells a ss c fr),Ar U8 fr m.fr,Ar U8 o m.fr] (QAD ⟨⟨rfl,rfl,rfl,rfl,rfl,rfl,rfl⟩,rfl⟩)
theorem QPk:QBN Pr 325=true/\QBN Pr 324=true:=⟨Kr,Kr⟩
theorem ca8{j k l m n o p q:Sh}{K:j.ty->k.ty->l.ty->m.ty->n.ty->o.ty->p.ty->q.ty->WP}{a b c d e f g i}{v:Unit}(h:Ent B As (K a b c d e f g i)):Ent B As (Cur.app [j,k,l,m,n,o,p,q] K (a,b,c,d,e,f,g,i,v)):=h
theorem QSm(q:Ac)(m:MaM)(now:Int)(hn:0<=now/\now<=1099511627776):Ct Pr 231 [.pointer q,.I now] (.tup [none,some 6,none]) QOR [QBF q m] emp (QL7 q m now):=by
 refine QAm (ss:=QOR) (φ:=fun K=>(QDI _ _ K).1) (fun h=>cf _ rfl Kr h) fun B _=>?_;show Ent B [QBF q m] (QDI q now fun o p r s t u v x=>Ret B (ss:=QOR) (QL7 q m now) (o,p,r,s,t,u,v,x,()));unfold QL7;obtain⟨g,i⟩:∃g,QDA m now=g:=⟨_,rfl⟩;rw[i];unfold QDA at i;unfold QDI mf;dsimp only;refine QiO 0 fun b d ss e fr y f=>?_;subst y;have M:=f.at_;have N:=f.timeout;have L:IntKind.i64.wrap (m.at_+m.timeout)=m.at_+m.timeout:=QAC _ Om Om;refine QAL fun l=>QAP (QAV (fun(c:Bool) As'=>c = !(decide (0<m.tries/\m.at_+m.timeout<=now))/\As'=[Blk l [.I 0,.I 0,.slice none 0 0,.slice none 0 0,.slice none 0 0,.I 0],Blk b (m.cells d ss e fr),Ar BL d m.a.on,Ar W16 ss m.a.set,Ar PaE e m.a.parts,Ar U8 fr m.fr]) (fun K n=>?_) ?_)
 ·refine xd1 (QL1 b m d ss e fr) (xif (fun h=>?_) (fun h=>?_))
  ·refine QCC rfl (QAK [Blk l _,Blk b (m.cells d ss e fr),Ar BL d m.a.on,Ar W16 ss m.a.set,Ar PaE e m.a.parts,Ar U8 fr m.fr] (n _ _ ⟨?_,rfl⟩))
   have h:¬0<m.tries:=Si h
   rw[Ze (fun q=>h q.1)];rfl
  ·refine xd1 (QNp now) (QBH (by simp;omega) (QAO (xgq (QAO (xgq ?_)))));rw[L];refine QAK [Blk l _,Blk b (m.cells d ss e fr),Ar BL d m.a.on,Ar W16 ss m.a.set,Ar PaE e m.a.parts,Ar U8 fr m.fr] (n _ _ ⟨?_,rfl⟩)
   have h:0<m.tries:=Si h
   by_cases q:m.at_+m.timeout<=now
   ·rw[decide_eq_true (show 0<m.tries/\_ from⟨h,q⟩),Ze (show ¬now<m.at_+m.timeout by omega)];rfl
   ·rw[Ze (show ¬(0<m.tries/\_) from fun z=>q z.2),decide_eq_true (show now<m.at_+m.timeout by omega)];rfl
 rintro c _ ⟨rfl,rfl⟩;refine xif (fun h=>?_) (fun h=>?_)
 ·have h:¬(0<m.tries/\m.at_+m.timeout<=now):=fun q=>by rw[decide_eq_true q]at h;cases h
  rw[We h]at i;subst i;iterate 6 (refine xsq ?_)
  refine xgq (xgq (xgT (h:=xgT (h:=xgT (h:=xgq ?_)))));refine QP7 b d ss e fr m f (QAf U8 (QAf W16 (QAf BL ?_)));exact QAK [Ar BL nilS [],Ar W16 nilS [],QBF (some ⟨b,0,none⟩) m,Ar U8 nilS []] (QAD ⟨rfl,rfl,rfl,rfl,rfl,rfl,rfl⟩)
 ·have h:0<m.tries/\m.at_+m.timeout<=now:=Li fun q=>by rw[Ze q]at h;cases h
  rw[Wb (fun q=>q h)]at i;refine QAP (QAO (xgq (QAO (xgq (QAM (xif (fun j=>?_) (fun j=>?_)))))))
  ·have j:m.retries<m.tries:=Si j
   rw[We j]at i;subst i;refine QgW (g:=325) QPk.1 ?_;refine xcl (QYn b m d ss e fr now) rdb ?_;rintro⟨w,A,C,D,E,G,H,J,_⟩ _ ⟨⟨g,rfl,rfl,k,g3,g4,rfl,rfl⟩,rfl⟩;simp only at g k g3 g4;subst g k g3 g4;refine QAz (ca8 ?_);iterate 6 (refine xsq ?_)
   refine xgq (xgq (xgT (h:=xgT (h:=xgT (h:=xgq ?_)))));refine QP7 b d ss e fr (QCU m) (QaM f) (QAf U8 (QAf W16 (QAf BL ?_)));exact QAK [Ar BL nilS [],Ar W16 nilS [],QBF (some ⟨b,0,none⟩) (QCU m),Ar U8 nilS []] (QAD ⟨rfl,rfl,rfl,rfl,rfl,rfl,rfl⟩)
  ·have j:m.tries<=m.retries:=Si j
   rw[Wb Om]at i;subst i;have O:=f.retries;refine QgW (g:=324) QPk.2 ?_;refine xcl (QZ1 b m d ss e fr now Om Om f.fr) rdb ?_;rintro⟨w,A,C,D,E,G,H,J,_⟩ _ ⟨⟨rfl,rfl,k,g3,g4,rfl,rfl⟩,rfl⟩;simp only at k g3 g4;subst k g3 g4;refine QLn (ca8 ?_);iterate 6 (refine xsq ?_)
   refine xgq (xgq (xgT (h:=xgT (h:=xgT (h:=xgq ?_)))));refine QP7 b d ss e fr (QKV m now) ⟨f.timeout,f.retries,⟨by show (0:Int)<=m.tries+1;omega,by show m.tries+1<=m.retries+1;omega⟩,hn,f.ask,f.fr⟩ (QAf W16 (QAf BL ?_));exact QAK [Ar BL nilS [],Ar W16 nilS [],QBF (some ⟨b,0,none⟩) (QKV m now),Ar U8 w m.fr] (QAD ⟨rfl,rfl,rfl,rfl,rfl,rfl,rfl⟩)
end Go.Cx
