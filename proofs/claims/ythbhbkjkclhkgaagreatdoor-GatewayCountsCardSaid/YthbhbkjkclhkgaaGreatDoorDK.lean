/-
All formulas.
-/
import Derived.Test.YthbhbkjkclhkgaaGreatDoorF0
import Derived.Test.YthbhbkjkclhkgaaGreatDoorF1
import Derived.Test.YthbhbkjkclhkgaaGreatDoorF2
import Derived.Test.YthbhbkjkclhkgaaGreatDoorF3
import Derived.Test.YthbhbkjkclhkgaaGreatDoorF4
import Derived.Test.YthbhbkjkclhkgaaGreatDoorF5
import Derived.Test.YthbhbkjkclhkgaaGreatDoorF6
import Derived.Test.YthbhbkjkclhkgaaGreatDoorF7
import Derived.Test.YthbhbkjkclhkgaaGreatDoorFX
import Derived.Test.YthbhbkjkclhkgaaGreatDoorA4
import Derived.Test.YthbhbkjkclhkgaaGreatDoorA3
import Derived.Laws.BitsAllLaws
set_option linter.unusedVariables false
open Go Go.Cf

namespace Go.Cx
theorem QDY{B:QBJ}{F:List HP}{P Q:HP}(h1:Rds B F P)(h:Rds B F Q):Rds B F (P.and Q):=fun w f g a b c d e=>⟨h1 w f g a b c d e,h w f g a b c d e⟩
theorem QI6(l:Sl)(xs:Ab)(k:xs.length<=140737488351232) :
  Ct Pr 52 [l.v] .one [.slice] [] (RAr U8 l xs) (fun t Bs=>Bs=[Ar U8 t.1 xs]):=by
 refine sp1 (QBT _) fun B a=>?_;have j:Fro B l U8 xs:=⟨a⟩;have f:=a.1;unfold QBT mf;dsimp only;refine xif (fun h=>?_) (fun h=>?_)
 ·have:xs=[]:=by
   refine Wm ?_;rw[f];rcases Z6 l.n with h0|h0
   ·exact h0
   ·obtain⟨b,o,_,_,_,_,d,_⟩:=a.2.2 h0;rw[d]at h;simp[QCy]at h
  subst this;exact QAf U8 (QAD rfl)
 ·refine QAL fun b=>?_;refine Qj7 0 (Bs:=[Ar U8 ⟨some ⟨b,0,none⟩,0,0⟩ []]) (fun g c=>?_) (QAz ?_)
  ·exact⟨g,fun _=>none,⟨[],QAp [] 0 rfl rfl c⟩,trivial,fun _=>.inr rfl,Sub.refl _,fun _ _ e=>by cases e⟩
  refine QHU (s:=⟨some ⟨b,0,none⟩,0,0⟩) (xs:=[]) (ys:=xs) (hb:=by simp;omega) (h:=fun i=>?_);exact QAD (by simp)
variable {B:QBJ}{As:List HP}
abbrev CF:=ByteArray×Sl×Int
def FILE:Enc CF:=⟨fun x=>[.string x.1,x.2.1.v,.I x.2.2],3,fun _=>rfl,fun x v h=>by simp at h;rcases h with rfl|rfl|rfl<;>rfl,Dc,(ByteArray.empty,⟨none,0,0⟩,0)⟩
theorem QFo(x:ByteArray):Ct Pr 229 [.string x] .one [.bool] [] emp (fun t Bs=>t.1=false/\Bs=[]):=by
 refine sp1 (QGC _) fun B _=>?_;unfold QGC mf;dsimp only;exact QAD ⟨by simp,rfl⟩
def QdM(a b:Key):Int:=if lt a b then -1 else if a=b then 0 else 1
theorem QCS(x y:ByteArray):Ct Pr 146 [.string x,.string y] .one [.I] [] emp (fun t Bs=>t.1=QdM x.toList y.toList/\Bs=[]):=by
 refine sp1 (QE7 _ _) fun B _=>?_;unfold QE7 mf;dsimp only;refine xcl (QFo x) rdb ?_;rintro⟨c,_⟩ _ ⟨hc,rfl⟩;obtain rfl:c=false:=hc;refine QA2 (ca1 ?_);refine xcl (QFo y) rdb ?_;rintro⟨c,_⟩ _ ⟨hc,rfl⟩;obtain rfl:c=false:=hc;refine QA2 (ca1 (QBH rfl (QBH rfl (xif (fun h=>?_) (fun h=>?_)))))
 ·exact QAD ⟨by simp[QdM,lt,h],rfl⟩
 ·refine xif (fun a=>?_) (fun a=>?_)
  ·refine QAD ⟨?_,rfl⟩
   have:¬x.toList=y.toList:=fun e=>by rw[e]at a;simp at a
   simp[QdM,lt,h,this]
  ·refine QAD ⟨?_,rfl⟩
   have:x.toList=y.toList:=by simpa [h]using a
   show (0:Int)=_;rw[QdM,this,lt_irrefl];simp
theorem QPB(c:CF)(nm:ByteArray):Ct Pr 145 [.agg #[.string c.1,c.2.1.v,.I c.2.2],.string nm] .one [.I] [] emp (fun t Bs=>t.1=QdM c.1.toList nm.toList/\Bs=[]):=by
 refine sp1 (QEQ _ _ _ _) fun B _=>?_;unfold QEQ mf;dsimp only;refine QAL fun b=>xgq ?_;refine xcl (QCS c.1 nm) rdb ?_;rintro⟨r,_⟩ _ ⟨a,rfl⟩;exact QA2 (ca1 (QCD 0 (QAD ⟨a,rfl⟩)))
theorem Qgg(i j:Nat)(h:i+j<=1000000):IntKind.i64.wrap (Int.fdiv (IntKind.u64.wrap (IntKind.i64.wrap ((i:Int)+(j:Int)))) (2 ^ (min (Int.toNat 1) 64)))=(((i+j) / 2:Nat):Int):=by
 rw[QAC ((i:Int)+(j:Int)) Om Om]
 have a:(2 ^ IntKind.u64.bits:Int)=18446744073709551616:=Dc
 have b:IntKind.u64.signed=false:=rfl
 have e:IntKind.u64.wrap ((i:Int)+(j:Int))=(i:Int)+j:=by
  simp only[IntKind.wrap,a,b,Bool.false_and];simp;omega
 rw[e]
 have c:(2:Int) ^ (min (Int.toNat 1) 64)=2:=Dc
 rw[c,Kf _ Om,QAC _ Om Om];omega
def QSE(cs:List CF)(fs:List DF):Prop:=cs.length=fs.length/\∀(i:Nat) (c:CF) (f:DF),cs[i]? = some c->fs[i]? = some f->c.1=f.nm
theorem QUH(s:Sl)(cs:List CF)(fs:List DF)(nm:ByteArray)(A:Sorted fs)(hn:QSE cs fs)(hl:fs.length<=64):Ct Pr 144 [s.v,.string nm,.func (.func 145) #[] #[]] (.tup [none,none]) [.I,.bool] [Ar FILE s cs] emp
  (fun t Bs=>t.1=(QAR fs nm.toList:Int)/\t.2.1=QAk fs nm.toList/\Bs=[Ar FILE s cs]):=by
 refine sp2 (QAq _ _) fun B _=>?_;unfold QAq mf;dsimp only;refine QCl s fun C _=>?_;obtain⟨E,w⟩:=hn;refine QBt (fun n i j As=>∃a b:Nat,i=(a:Int)/\j=(b:Int)/\n=b - a/\a<=b/\b<=fs.length/\(∀t f,t<a->fs[t]? = some f->lt f.key nm.toList=true)/\(∀t f,b<=t->fs[t]? = some f->lt f.key nm.toList=false)/\As=[Ar FILE s cs]) fs.length ⟨0,fs.length,rfl,by rw[<-E,C],Om,Om,Om,fun t f h=>Om,fun t f h c=>?_,rfl⟩ ?_
 ·have:=(Wc.1 c).1;omega
 rintro n _ _ _ K ⟨a,b,rfl,rfl,rfl,J,hb,x,q,rfl⟩ y;refine QAB (fun h=>?_) (fun h=>?_)
 ·rw[Qgg a b Om]
  have F:(a+b) / 2<fs.length:=Om
  have c:=Wa (l:=fs) F;have hc:=Wa (l:=cs) (i:=(a+b) / 2) Om;have u:=w _ _ _ hc c;refine QBA Dc ?_;refine QAH (h1:=Om) (h:=fun _ _=>?_);refine QAN hc (h:=?_);refine QAa hc (h:=?_);refine QAa hc (h:=?_);refine xcl (QPB cs[(a+b) / 2] nm) rdb ?_;rintro⟨r,_⟩ _ ⟨k,rfl⟩;simp only at k;rw[u]at k;subst k;refine QA2 (ca1 (QAM (QAB (fun g=>?_) (fun g=>?_))))
  ·have z:lt fs[(a+b) / 2].key nm.toList=true:=by
    unfold QdM at g;split at g
    ·assumption
    ·split at g<;>omega
   rw[QAE _ Om];refine y (b - ((a+b) / 2+1)) _ _ _ Om ⟨(a+b) / 2+1,b,rfl,rfl,rfl,Om,hb,fun t f D d=>?_,q,rfl⟩;rcases Zb t ((a+b) / 2) with m|m
   ·exact lt_trans (A.get m d c) z
   ·obtain rfl:t=(a+b) / 2:=Om
    rw[c]at d;cases d;exact z
  ·have o:lt fs[(a+b) / 2].key nm.toList=false:=by
    cases p:lt fs[(a+b) / 2].key nm.toList with
    | false=>rfl
    | true=>exact absurd (show QdM _ _<0 by simp only[DF.key]at p;simp[QdM,p]) g
   refine y ((a+b) / 2 - a) _ _ _ Om ⟨a,(a+b) / 2,rfl,rfl,rfl,Om,Om,x,fun t f D d=>?_,rfl⟩;rcases Zb ((a+b) / 2) t with m|m
   ·cases p:lt f.key nm.toList with
    | false=>rfl
    | true=>have:=lt_trans (A.get m c d) p;rw[o]at this;cases this
   ·obtain rfl:t=(a+b) / 2:=Om
    rw[c]at d;cases d;exact o
 ·have G:a=b:=Om
  subst G;have he:QAR fs nm.toList=a:=QVi hb x (fun f c=>q a f (Wt _) c);refine QAM (QAB (fun g=>?_) (fun g=>?_))
  ·have H:a<fs.length:=Om
   have c:=Wa (l:=fs) H;have hc:=Wa (l:=cs) (i:=a) Om;have u:=w _ _ _ hc c;refine QAH (h1:=Om) (h:=fun _ _=>?_);refine QAN hc (h:=?_);refine QAa hc (h:=?_);refine QAa hc (h:=?_);refine xcl (QPB cs[a] nm) rdb ?_;rintro⟨r,_⟩ _ ⟨k,rfl⟩;simp only at k;rw[u]at k;refine QA2 (ca1 (QAD ⟨by rw[he],?_,rfl⟩));show (r == 0)=_;have o:=q a _ (Wt _) c;unfold QAk;rw[he,c,k];simp only[DF.key]at o|-;rw[Oo];simp only[QdM,o,Wi,Oa,Zq];constructor
   ·intro h;by_cases e:fs[a].nm.toList=nm.toList
    ·exact e
    ·rw[Wb e]at h;cases h
   ·intro h;rw[We h]
  ·refine QAD ⟨by rw[he],?_,rfl⟩;unfold QAk;rw[he,Ui Om]
theorem Qiz(args:Array Value)(w:World):(callFunc 147 args).run Pr w=((Extern.SlicesOverlaps.overlaps #[134,134] #[4] args).run Pr w).andThen fun v w'=>.ok (.value v) w':=
 run_callFunc_extern (fn:=Go.Proofs.Tryz.f147) Kr Kr Kr Kr Kr args w
theorem QNK(s:Sl)(rs:List CF)(k:Nat)(l:k<rs.length)(m:rs.length<=9223372036854775807):Ct Pr 263 [s.v,.I (k:Int),.I ((k+1:Nat):Int)] .one [.slice] [Ar FILE s rs] emp
  (fun t Bs=>Bs=[Ar FILE t.1 (rs.eraseIdx k)]):=by
 refine sp1 (QBQ _ _ _) fun B _=>?_;unfold QBQ mf;dsimp only;refine QCl s fun hl hc=>?_;refine QEi Om Om Om Om ?_;refine QBH (by simp;omega) (QAP ?_);refine QEi Om Om Om Om ?_;refine QEi Om Om Om Om ?_;refine Qhx 0 fun zs _ d=>?_;obtain⟨p,n,c⟩:=s;simp only at hl hc d;refine Qey k (rs.take k) (rs.drop k++zs) (by rw[<-Wk,Wu]) (by simp;omega) ?_;have f:(⟨p,n,c⟩:Sl).cut (Int.toNat 0) (Int.toNat (k:Int)) (Int.toNat ((c:Nat):Int)) 3=⟨p,k,c⟩:=QGf ⟨p,n,c⟩ k 3;rw[f];show Ent B (Ars FILE ⟨p,k,c⟩ (rs.take k) (rs.drop k++zs)::[]) _;refine Qf9 (ys:=rs.drop (k+1)) (fun g e=>?_) (by simp;omega) Om (h:=?_)
 ·have h1:Ars FILE ⟨p,n,c⟩ rs zs g:=e.shift (by rw[<-Wk,Wu]) hl;have b:=h1.read.cut (k+1) n c Om hc Om;rw[Wn Om]at b;exact b
 have i:k+((⟨p,n,c⟩:Sl).cut (Int.toNat ((k+1:Nat):Int)) (Int.toNat (n:Int)) (Int.toNat (c:Int)) 3).n=n - 1:=by
  show k+((n:Int).toNat - ((k+1:Nat):Int).toNat)=n - 1;omega
 rw[i];refine QEi (by simp) (by simp only;omega) (by simp only;omega) (by simp) ?_
 have a:(rs.take k++rs.drop (k+1)).length=n - 1:=by simp;omega
 have j:Int.toNat (((n - 1:Nat)):Int)=(rs.take k++rs.drop (k+1)).length:=by rw[a];rfl
 show Ent B _ (QeZ Pr 134 0 (Sl.cut ⟨p,n - 1,c⟩ (Int.toNat ((n - 1:Nat):Int)) (Int.toNat (n:Int)) (Int.toNat (c:Int)) 3).v _);rw[j];refine QkI (by rw[a];simp only[Wh];omega) (by rw[a];simp only[Wh];omega) (by rw[a];simp only[Wh,Oc,Wd];omega) (by simp only;omega) (h:=?_);refine QAD ?_;rw[List.eraseIdx_eq_take_drop_succ]
theorem QMI(s:Sl)(xs:List CF)(k:Nat)(i:Nat)(x:CF)(Q:k<=xs.length)(hl:xs.length<=1000):Ct Pr 90 [s.v,.I (k:Int),.slice (some ⟨i,0,none⟩) 1 1] .one [.slice] [Ar FILE s xs,BlkS i [.string x.1,x.2.1.v,.I x.2.2]] emp
  (fun t Bs=>Bs=[Ar FILE t.1 (xs.take k++x::xs.drop k)]):=by
 refine sp1 (fun K=>QBR _ _ ⟨some ⟨i,0,none⟩,1,1⟩ K) fun B _=>?_;unfold QBR mf;dsimp only;refine QCl s fun hn hc=>?_
 have hv:∀{As F:List HP}{φ:WP} [p:Find (BlkS i [.string x.1,x.2.1.v,.I x.2.2]) As F],Ent B (Ar FILE ⟨some ⟨i,0,none⟩,1,1⟩ [x]::F) φ->Ent B As φ:=fun {As F φ p} h=>
  Ent.perm p.perm (QId (fun _ a=>QA6 (fun g a=>⟨[],QAp [x] 1 rfl (by simp[QAi,FILE]) a.blk⟩) a) h)
 refine QEi Om Om Om Om (QBH rfl (xif (fun h=>?_) (fun h=>?_)))
 ·have z : k = xs.length := by have : (k : Int) = (s.n : Int) := Si h;omega
  subst z;refine hv ?_;refine QHU (y:=⟨some ⟨i,0,none⟩,1,1⟩) (hb:=by simp;omega) (h:=fun R=>?_);refine QCD 0 (QAD ?_);rw[Uk,List.drop_length]
 have z : k < xs.length := by have : ¬(k : Int) = (s.n : Int) := Si h;omega
 have M:IntKind.i64.wrap ((s.n:Int)+((1:Nat):Int))=((xs.length+1:Nat):Int):=by rw[QAC _ Om Om];omega
 have A:IntKind.i64.wrap ((k:Int)+((1:Nat):Int))=((k+1:Nat):Int):=by rw[QAC _ Om Om];omega
 rw[M];refine QAB (fun h=>?_) (fun h=>?_)
 ·-- a new array
  refine QXx rfl Om Om ?_;rw[Wh]
  have N:IntKind.i64.wrap (((xs.length+1:Nat):Int) - (k:Int))=((xs.length+1 - k:Nat):Int):=by rw[QAC _ Om Om];omega
  rw[N];refine QiX (k0:=.i64) (E:=FILE) (s:=⟨s.p,k,s.c⟩) (xs:=xs.take k) Kr (fun w b=>?_) Om (by simp only;omega) (by simp only;omega) (h:=fun q J S=>?_)
  ·obtain⟨g,a,d⟩:=b.head;have:=(a.read.mono d).cut 0 k s.c (Ua _) Om Q;rw[QGf,Kk]at this;exact this
  simp only at J
  have T:q.n=xs.length+1:=Om
  refine QEi Om Om Om Om ?_;simp only[Wh];refine QFt 2 (hv (QFt 1 (Qhx 0 fun zs L u=>?_)))
  have r:(xs.take k).length=k:=by simp;omega
  have U:(xs.take k++List.replicate (xs.length+1 - k) FILE.zero).length=xs.length+1:=by simp;omega
  refine QSW (y:=⟨some ⟨i,0,none⟩,1,1⟩) (ys:=[x]) (fun w b=>?_) (xs.take k++[x]++List.replicate (xs.length - k) FILE.zero) zs (hrm:=Om) (hlk:=by simp;omega) (hl:=by simp;omega) (he:=?_) (h:=fun n=>?_)
  ·obtain⟨g,a,d⟩:=b.tail.head;exact a.read.mono d
  ·have j:min [x].length (q.n - k)=1:=by simp;omega
   have e:List.replicate (xs.length+1 - k) FILE.zero=FILE.zero::List.replicate (xs.length - k) FILE.zero:=by
    rw[show xs.length+1 - k=(xs.length - k)+1 by omega];rfl
   have m:(xs.take k++List.replicate (xs.length+1 - k) FILE.zero++zs).take k=xs.take k:=by rw[Wk,Kv r]
   have t2:(xs.take k++List.replicate (xs.length+1 - k) FILE.zero++zs).drop (k+1)=List.replicate (xs.length - k) FILE.zero++zs:=by
    have:xs.take k++List.replicate (xs.length+1 - k) FILE.zero++zs=(xs.take k++[FILE.zero])++(List.replicate (xs.length - k) FILE.zero++zs):=by rw[e];simp
    rw[this,Zs (by rw[Wd,r];rfl)]
   rw[j,m,t2];simp
  refine QAP ?_;rw[A];refine QEi Om Om Om Om ?_;refine QEi Om Om Om Om ?_;simp only[Wh]
  have o:(xs.drop k).length=xs.length - k:=by simp
  refine QSW (y:=s.cut k s.n s.c 3) (ys:=xs.drop k) (fun w b=>?_) (xs.take k++x::xs.drop k) zs (hrm:=Om) (hlk:=by simp only[Wd,Ww,Oc,Wl,O8,O1];omega) (hl:=by simp only[Wd,Ww,Oc,Wl,O8,O1];omega) (he:=?_) (h:=fun n=>?_)
  ·obtain⟨g,a,d⟩:=b.tail.tail.head;have:=(a.read.mono d).cut k s.n s.c Om hc Om;rw[<-hn,Uk]at this;rw[<-hn];exact this
  ·have j:min (xs.drop k).length (q.n - (k+1))=xs.length - k:=by rw[o];omega
   have C:(xs.take k++[x]).length=k+1:=by rw[Wd,r];rfl
   have m:(xs.take k++[x]++List.replicate (xs.length - k) FILE.zero++zs).take (k+1)=xs.take k++[x]:=by rw[Wk,Kv C]
   have t2:(xs.take k++[x]++List.replicate (xs.length - k) FILE.zero++zs).drop (k+1+(xs.length - k))=zs:=by
    rw[Zs (by rw[Wd,C,O1])]
   rw[j,m,t2,Wn (l:=xs.drop k) Om];simp
  exact xar (QCD 1 (QCD 1 (QAD rfl)))
 ·-- in place
  have O:xs.length+1<=s.c:=Om
  refine Qhx 0 fun zs L u=>?_
  have P:zs≠[]:=fun e=>by subst e;simp at u;omega
  obtain⟨z0,f,rfl⟩:=List.exists_cons_of_ne_nil P;refine Qey (xs.length+1) (xs++[z0]) f (by simp) (by simp) ?_;refine QXx rfl Om Om ?_;simp only[Wh];rw[A];refine QEi Om (by first|omega|(dsimp only;omega)) (by first|omega|(dsimp only;omega)) (by first|omega|(dsimp only;omega)) ?_;simp only[Wh];refine Qj5 (e:=140) Qiz Kr Kr (by simp) (by simp;omega) Om (QCC rfl (QAP ?_));refine QEi Om (by first|omega|(dsimp only;omega)) (by first|omega|(dsimp only;omega)) (by first|omega|(dsimp only;omega)) ?_;refine QEi Om (by first|omega|(dsimp only;omega)) (by first|omega|(dsimp only;omega)) (by first|omega|(dsimp only;omega)) ?_;simp only[Wh]
  have D:(xs++[z0]).length=xs.length+1:=by simp
  have G:(xs++[z0]).drop k=xs.drop k++[z0]:=by rw[Kz Om]
  have o:(xs.drop k).length=xs.length - k:=by simp
  have H:((xs++[z0]).take (k+1)).length=k+1:=by simp;omega
  refine QSW (s:=⟨s.p,xs.length+1,s.c⟩) (y:=(⟨s.p,xs.length+1,s.c⟩:Sl).cut k (xs.length+1) s.c 3) (ys:=(xs++[z0]).drop k) (fun w b=>?_) ((xs++[z0]).take (k+1)++xs.drop k) f (hrm:=Om) (hlk:=by simp;omega) (hl:=by simp;omega) (he:=?_) (h:=fun n=>?_)
  ·obtain⟨g,a,d⟩:=b.head;have:=(a.read.mono d).cut k (xs.length+1) s.c Om O Om;rw[Wn Om]at this;exact this
  ·have j:min ((xs++[z0]).drop k).length (xs.length+1 - (k+1))=xs.length - k:=by rw[G,Wd,o];simp only[W8];omega
   have m:(xs++[z0]++f).take (k+1)=(xs++[z0]).take (k+1):=by rw[U6 (by rw[D];omega)]
   have t2:(xs++[z0]++f).drop (k+1+(xs.length - k))=f:=by rw[Zs (by rw[D];omega)]
   have t3:((xs++[z0]).drop k).take (xs.length - k)=xs.drop k:=by rw[G,Kv o]
   rw[j,m,t2,t3]
  refine QFt 1 (hv (QFt 1 ?_));refine QEi Om (by first|omega|(dsimp only;omega)) (by first|omega|(dsimp only;omega)) (by first|omega|(dsimp only;omega)) ?_;simp only[Wh];refine QSW (s:=⟨s.p,xs.length+1,s.c⟩) (y:=⟨some ⟨i,0,none⟩,1,1⟩) (ys:=[x]) (fun w b=>?_) (xs.take k++x::xs.drop k) f (hrm:=Om) (hlk:=by simp;omega) (hl:=by simp;omega) (he:=?_) (h:=fun n=>?_)
  ·obtain⟨g,a,d⟩:=b.tail.head;exact a.read.mono d
  ·have j:min [x].length (xs.length+1 - k)=1:=by simp;omega
   have m:((xs++[z0]).take (k+1)++xs.drop k++f).take k=xs.take k:=by
    rw[Wk,U6 (by rw[H];omega),List.take_take,Ow Om,U6 Om]
   have t2:((xs++[z0]).take (k+1)++xs.drop k++f).drop (k+1)=xs.drop k++f:=by rw[Wk,Zs H]
   rw[j,m,t2];simp
  exact xar (QCD 1 (QAD rfl))
variable {B:QBJ}{As:List HP}
def QCH(c:CF)(f:DF):HP:=fun h=>c.1=f.nm/\c.2.2=f.sy/\Ar U8 c.2.1 f.b h
abbrev QBG(m:DM)(s:Sl):Ad:=[.bool m.armed,.bool m.down,.I m.left,.I m.room,s.v]
def QAA(p:Ac)(m:DM):HP:=fun h=>DInv m/\∃b s cs,p=some ⟨b,0,none⟩/\QBr [Blk b (QBG m s),Ar FILE s cs,Each QCH cs m.fs] h
structure SF(cs:List CF)(fs:List DF):Prop where
 len:cs.length=fs.length
 each:∀(i:Nat) (c:CF) (f:DF),cs[i]? = some c->fs[i]? = some f->c.1=f.nm/\c.2.2=f.sy/\c.2.1.n=f.b.length/\c.2.1.n<=c.2.1.c
theorem SF.names{cs:List CF}{fs:List DF}(h:SF cs fs):QSE cs fs:=⟨h.len,fun i c f a b=>(h.each i c f a b).1⟩
theorem Qdy{cs:List CF}{fs:List DF}{g:QBs}(h:Each QCH cs fs g):SF cs fs:=
 ⟨h.length,fun i c f a b=>QD0 (R:=QCH) (S:=fun c f _=>c.1=f.nm/\c.2.2=f.sy/\c.2.1.n=f.b.length/\c.2.1.n<=c.2.1.c) (fun _ _ _ _ h _=>h) (fun x y g ⟨h1,e,zs,d⟩=>⟨h1,e,d.1.symm,d.cap⟩) h a b⟩
theorem QbK(i:Nat){p:Ac}{m:DM}{F:List HP}[q:Pick i As (QAA p m) F]{φ:WP}
  (k:DInv m->∀b s cs,p=some ⟨b,0,none⟩->SF cs m.fs->s.n=cs.length->Ent B (Blk b (QBG m s)::Ar FILE s cs::Each QCH cs m.fs::F) φ):Ent B As φ:=by
 refine Ent.perm q.perm ?_;intro w f;obtain⟨g,⟨a,c,⟨hi,b,s,cs,h,e⟩,j,d,l,o⟩,r,t⟩:=f
 have hl:SF cs m.fs/\s.n=cs.length:=by
  obtain⟨_,_,_,⟨_,_,⟨_,u⟩,⟨_,_,v,_⟩,_⟩,_⟩:=e;exact⟨Qdy v,u.1.symm⟩
 exact k hi b s cs h hl.1 hl.2 w ⟨g,(QAl [_,_,_] F).2 ⟨a,c,e,j,d,l,o⟩,r,t⟩
theorem QBM(b:Nat)(s:Sl)(cs:List CF){m:DM}{G:List HP}[q:Split [Blk b (QBG m s),Ar FILE s cs,Each QCH cs m.fs] As G]{φ:WP}
  (hi:DInv m) (k:Ent B (QAA (some ⟨b,0,none⟩) m::G) φ):Ent B As φ:=
 QBO [Blk b (QBG m s),Ar FILE s cs,Each QCH cs m.fs] (QAA (some ⟨b,0,none⟩) m) (fun g a=>⟨hi,b,s,cs,rfl,a⟩) k
theorem QCK(i j l:Nat){P1 a P3:HP}{F c d:List HP}[p:Pick i As P1 F][q:Pick j F a c][r:Pick l c P3 d]{φ:WP}(b:Nat)(s:Sl)(cs:List CF)(m:DM)(hi:DInv m)
  (h:∀g,QBr [P1,a,P3] g->QBr [Blk b (QBG m s),Ar FILE s cs,Each QCH cs m.fs] g) (k:Ent B (QAA (some ⟨b,0,none⟩) m::d) φ):Ent B As φ:=
 Qgv i j l (fun g e=>⟨hi,b,s,cs,rfl,h g e⟩) k
theorem QGN(b:Nat)(s:Sl)(cs:List CF)(m:DM)(nm:ByteArray)(d:Sorted m.fs)(e:SF cs m.fs)(hl:m.fs.length<=64) :
  Ct Pr 87 [.pointer (some ⟨b,0,none⟩),.string nm] (.tup [none,none]) [.I,.bool] [Blk b (QBG m s),Ar FILE s cs] emp
  (fun t Bs=>t.1=(QAR m.fs nm.toList:Int)/\t.2.1=QAk m.fs nm.toList/\Bs=[Blk b (QBG m s),Ar FILE s cs]):=by
 refine sp2 (QFV _ _) fun B _=>?_;unfold QFV mf;dsimp only;refine QAO (xgq ?_);refine xcl (QUH s cs m.fs nm d e.names hl) rdb ?_;rintro⟨r,c,_⟩ _ ⟨h1,a,rfl⟩;exact QAz (ca2 (QFt 1 (QAD ⟨h1,a,rfl⟩)))
theorem QO1(nm:ByteArray):Ct Pr 88 [.string nm] .one [.bool] [] emp (fun t Bs=>t.1=QDN nm/\Bs=[]):=by
 refine sp1 (QK7 _) fun B _=>?_;unfold QK7 mf;dsimp only;exact QAD ⟨rfl,rfl⟩
theorem QHV(b:Nat)(s:Sl)(m:DM)(hl:i64 m.left)(j:m.armed=true->0<=m.left) :
  Ct Pr 89 [.pointer (some ⟨b,0,none⟩)] .one [.bool] [Blk b (QBG m s)] emp (fun t Bs=>t.1=(QAr m).2/\Bs=[Blk b (QBG (QAr m).1 s)]):=by
 refine sp1 (QFY _) fun B _=>?_;unfold QFY mf;dsimp only;refine QAO (xgq ?_);refine QAV (fun x As'=>x=(m.armed&&m.left == 0)/\As'=[Blk b (QBG m s)]) ?_ ?_
 ·intro J d;refine xif (fun h=>QAO (xgq (d _ _ ⟨?_,rfl⟩))) (fun h=>d _ _ ⟨?_,rfl⟩)
  ·have c:m.armed=true:=h;simp[c]
  ·have c:m.armed=false:=h;simp[c]
 ·rintro _ _ ⟨rfl,rfl⟩;refine xif (fun h=>?_) (fun h=>?_)
  ·refine QAO (xsq (QAD ⟨?_,?_⟩))
   ·simp[QAr,h]
   ·simp[QAr,h,QBG]
  ·refine QAO (xgq (QAM (xif (fun g=>?_) (fun g=>?_))))
   ·have a:m.armed=true:=g;have h0:=j a
    have k:¬m.left=0:=fun e=>by simp[a,e]at h
    refine QAO (xgq (QAO (xsq ?_)))
    have f:IntKind.i64.wrap (m.left - 1)=m.left - 1:=by unfold i64 at hl;exact QAC _ Om Om
    have i:QAr m=({ m with left:=m.left - 1 },true):=by
     unfold QAr;rw[h,Wb (by simp),We a]
    rw[i,f];exact QAD ⟨rfl,rfl⟩
   ·have a:m.armed=false:=g;refine QAD ⟨?_,?_⟩<;>simp[QAr,a]
theorem Qdv(room:Int):Ct Pr 21 [.I room] (.tup [none,none]) [.ptr,.I] [] emp
  (fun t Bs=>(((room<0\/room>16777216)/\t.1=none/\t.2.1=3/\Bs=[])\/(0<=room/\room<=16777216/\t.2.1=0/\(∃b,t.1=some ⟨b,0,none⟩)/\Bs=[QAA t.1 ⟨false,false,0,room,[]⟩]))):=by
 refine sp2 (QPn _) fun B _=>?_;unfold QPn mf;dsimp only;refine xif (fun h=>?_) (fun h=>?_)
 ·refine QAD (.inl ⟨?_,rfl,rfl,rfl⟩);simpa using h
 ·have a:0<=room/\room<=16777216:=by simp at h;omega
  refine QAL fun b=>QAf FILE (QZM (A:=Each QCH [] []) trivial ?_);refine QCK 2 1 0 b ⟨none,0,0⟩ [] ⟨false,false,0,room,[]⟩ ⟨List.Pairwise.nil,by simp,by simp,by simp[QBu];omega,a,by simp,⟨by simp,by simp⟩,fun h=>by cases h⟩ (fun _ h=>h) ?_;exact QAD (.inr ⟨a.1,a.2,rfl,⟨b,rfl⟩,rfl⟩)
theorem QYR(fs:List DF)(k:Nat)(h:k<fs.length):QBu (fs.take (k+1))=QBu (fs.take k)+fs[k].b.length:=by
 unfold QBu;rw[Og,Wa h,Uw,List.sum_append];simp
theorem QQW(fs:List DF)(k:Nat):QBu (fs.take k)<=QBu fs:=by
 conv=>rhs;rw[<-Wu k fs]
 unfold QBu;rw[Uw,List.sum_append];omega
theorem QdN(b:Nat)(s:Sl)(cs:List CF)(m:DM)(hi:DInv m)(a:SF cs m.fs) :
  Ct Pr 24 [.pointer (some ⟨b,0,none⟩)] .one [.I] [Blk b (QBG m s),Ar FILE s cs] emp (fun t Bs=>t.1=(QBu m.fs:Int)/\Bs=[Blk b (QBG m s),Ar FILE s cs]):=by
 refine sp1 (QFK _) fun B _=>?_;unfold QFK mf;dsimp only;have o:=hi.used;have p:=hi.room;have q:=hi.len;refine QCl s fun hn _=>QAO (xgq ?_);refine QBt (fun n u i As=>∃k:Nat,i=(k:Int)/\u=(QBu (m.fs.take k):Int)/\n=m.fs.length - k/\k<=m.fs.length/\As=[Blk b (QBG m s),Ar FILE s cs]) m.fs.length ⟨0,rfl,rfl,rfl,Om,rfl⟩ ?_;rintro n _ _ _ K ⟨k,rfl,rfl,rfl,j,rfl⟩ c;have r:=a.len;refine QAB (fun h=>?_) (fun h=>?_)
 ·have f:=Wa (l:=m.fs) (i:=k) Om;have hc:=Wa (l:=cs) (i:=k) Om;obtain⟨_,_,d,_⟩:=a.each _ _ _ hc f;have e:=QYR m.fs k Om;have v:=QQW m.fs (k+1);refine QAH (h1:=Om) (h:=fun _ _=>?_);refine QAN hc (h:=?_);refine QAa hc (h:=?_);refine QAa hc (h:=QAL fun g=>xsq (xsq (xsq (xgq ?_))));rw[QAE k Om,d,QAC _ Om Om];refine QCD 0 (c (m.fs.length - (k+1)) _ _ _ Om ⟨k+1,rfl,?_,rfl,Om,rfl⟩);rw[e];show (_:Int)=_;simp
 ·have:k=m.fs.length:=Om
  subst this;refine QAD ⟨?_,rfl⟩;rw[Uk]
theorem QXJ(b:Nat)(s:Sl)(cs:List CF)(m:DM)(hi:DInv m)(c:SF cs m.fs) :
  Ct Pr 72 [.pointer (some ⟨b,0,none⟩)] .one [.I] [Blk b (QBG m s),Ar FILE s cs] emp (fun t Bs=>t.1=m.room - (QBu m.fs:Int)/\Bs=[Blk b (QBG m s),Ar FILE s cs]):=by
 refine sp1 (QFW _) fun B _=>?_;unfold QFW mf;dsimp only;have d:=hi.used;have e:=hi.room;refine QAP (QAO (xgq ?_));refine xcl (QdN b s cs m hi c) rdb ?_;rintro⟨r,_⟩ _ ⟨a,rfl⟩;simp only at a;subst a;refine QBK (ca1 (QDK (h:=?_)));rw[QAC _ Om Om];exact QAD ⟨rfl,rfl⟩
theorem Qa0(p:Ac)(m:DM):Ct Pr 72 [.pointer p] .one [.I] [QAA p m] emp (fun t Bs=>t.1=m.room - (QBu m.fs:Int)/\Bs=[QAA p m]):=by
 refine QG9 (φ:=QAX Pr 72 [.pointer p] .one [.I]) id fun B _=>?_;refine QbK 0 fun hi b s cs a c hn=>?_;subst a;refine xcl (QXJ b s cs m hi c) rdb ?_;rintro⟨r,_⟩ _ ⟨d,rfl⟩;exact QBK (ca1 (QBM b s cs hi (QAD ⟨d,rfl⟩)))
theorem QJW(p:Ac)(m:DM):Ct Pr 74 [.pointer p] .one [.bool] [QAA p m] emp (fun t Bs=>t.1=m.down/\Bs=[QAA p m]):=by
 refine sp1 (QFw _) fun B _=>?_;unfold QFw mf;dsimp only;refine QbK 0 fun hi b s cs a c hn=>?_;subst a;exact QAO (xgq (QBM b s cs hi (QAD ⟨rfl,rfl⟩)))
theorem QKL(p:Ac)(m:DM)(nm:ByteArray):Ct Pr 77 [.pointer p,.string nm] (.tup [none,none]) [.slice,.I] [QAA p m] emp
  (fun t Bs=>t.2.1=(QAc m nm).2/\Bs=[QAA p m,Ar U8 t.1 (QAc m nm).1]):=by
 refine sp2 (QFH _ _) fun B _=>?_;unfold QFH mf;dsimp only;refine QbK 0 fun hi b s cs l j o=>?_;subst l;refine xcl (QGN b s cs m nm hi.sorted j hi.len) rdb ?_;rintro⟨r,c,_⟩ _ ⟨h1,e,rfl⟩;simp only at h1 e;subst h1 e;refine QBK (ca2 (xif (fun h=>?_) (fun h=>?_)))
 ·have a:QAk m.fs nm.toList=false:=Si h
  refine QAf U8 (QBM b s cs hi (QAD ?_));simp[QAc,a]
 ·have a:QAk m.fs nm.toList=true:=Si h
  obtain⟨i,_⟩:=QCY (d:=⟨nm,[],0⟩) a
  have k:QAR m.fs nm.toList<cs.length:=by rw[j.len];exact (Wc.1 i).1
  have hc:=Wa k
  have hb:(m.fs.getD (QAR m.fs nm.toList) ⟨nm,[],0⟩).b.length<=16777216:=by
   have h1:=QBw i;have e:=hi.used;have q:=hi.room;omega
  refine QAO (xgq ?_);refine QAH (h1:=k) (h:=fun _ _=>?_);refine QAa hc (h:=?_);refine xcl (QI6 _ (m.fs.getD (QAR m.fs nm.toList) ⟨nm,[],0⟩).b Om) (QL3 2 (fun g n=>QD0 (R:=QCH) (S:=fun c f=>RAr U8 c.2.1 f.b) (fun _ _ _ _ h s=>h.mono s) (fun _ _ _ h=>h.2.2.read) n hc i) (fun _ _ h s=>h.mono s)) ?_;rintro⟨r,_⟩ _ rfl;refine QAz (ca1 (QBM b s cs hi (QAD ?_)));simp[QAc,a]
theorem QYU(p:Ac)(m:DM):Ct Pr 23 [.pointer p] .one [.slice] [QAA p m] emp (fun t Bs=>Bs=[QAA p m,Ar ST t.1 (m.fs.map (·.nm))]):=by
 refine sp1 (QEv _) fun B _=>?_;unfold QEv mf;dsimp only;refine QbK 0 fun hi b s cs d a g=>?_;subst d;have v:=hi.len;have w:=a.len;refine QAO (xgq (QAf ST ?_));refine QBt (fun n o i As=>∃k:Nat,i=(k:Int)/\n=m.fs.length - k/\k<=m.fs.length/\As=[Ar ST o ((m.fs.map fun f:DF=>f.nm).take k),Blk b (QBG m s),Ar FILE s cs,Each QCH cs m.fs]) m.fs.length ⟨0,rfl,rfl,Om,rfl⟩ ?_;rintro n o _ _ K ⟨k,rfl,rfl,u,rfl⟩ e;refine QAB (fun h=>?_) (fun h=>?_)
 ·have c:=Wa (l:=m.fs) (i:=k) Om;have hc:=Wa (l:=cs) (i:=k) Om;obtain⟨h1,_⟩:=a.each _ _ _ hc c;refine QAH (h1:=Om) (h:=fun _ _=>?_);refine QAN hc (h:=?_);refine QAa hc (h:=?_);refine QAa hc (h:=QAL fun j=>xsq (xsq (xsq (xgq (QAL fun q=>?_)))));refine QE4 cs[k].1 (hb:=by simp;omega) (h:=fun r=>?_);rw[QAE k Om];refine QCD 0 (e (m.fs.length - (k+1)) _ _ _ Om ⟨k+1,rfl,rfl,Om,?_⟩);rw[Og,Ol,c,h1];rfl
 ·have:k=m.fs.length:=Om
  subst this;rw[Wn (by simp)];exact QBM b s cs hi (QAD rfl)
variable {B:QBJ}{As:List HP}
theorem QGn{m:DM}{nm:ByteArray}{g:Nat->DF->DM->DM×Int}(h:m.down=true):QBb m nm g=(m,10):=by simp[QBb,h]
theorem QGQ{m:DM}{nm:ByteArray}{g:Nat->DF->DM->DM×Int}(h:m.down=false)(a:QAk m.fs nm.toList=false):QBb m nm g=(m,6):=by simp[QBb,h,a]
theorem QKD{m:DM}{nm:ByteArray}{g:Nat->DF->DM->DM×Int}(h:m.down=false)(a:QAk m.fs nm.toList=true):QBb m nm g=g (QAR m.fs nm.toList) (m.fs.getD (QAR m.fs nm.toList) ⟨nm,[],0⟩) m:=by
 unfold QBb;rw[h,a];rfl
theorem QLs{m:DM}{g:DM->DM}(h:(QAr m).2=false):QD3 m g=((QAr m).1,10):=by simp[QD3,h]
theorem QLp{m:DM}{g:DM->DM}(h:(QAr m).2=true):QD3 m g=(g (QAr m).1,0):=by simp[QD3,h]
theorem QRB{cs:List CF}{fs:List DF}{k:Nat}{c c':CF}{f f':DF}(hc:cs[k]? = some c)(a:fs[k]? = some f)(h:∀g,QCH c f g->QCH c' f' g)(g:QBs)(b:Each QCH cs fs g):Each QCH (cs.set k c') (fs.set k f') g:=
 QC9 (Wc.1 hc).1 (Wc.1 a).1 (QA6 (h) (QCA b hc a))
theorem QRL{p:Ac}{m:DM}{nm:ByteArray}(hi:DInv m){cs:List CF}(i:SF cs m.fs)(l:QAk m.fs nm.toList=true) :
  ∃c f,cs[QAR m.fs nm.toList]? = some c/\m.fs[QAR m.fs nm.toList]? = some f/\m.fs.getD (QAR m.fs nm.toList) ⟨nm,[],0⟩=f/\c.1=f.nm/\c.2.2=f.sy/\c.2.1.n=f.b.length/\c.2.1.n<=c.2.1.c/\f.b.length<=16777216/\0<=f.sy/\f.sy<=f.b.length:=by
 obtain⟨a,_⟩:=QCY (d:=⟨nm,[],0⟩) l
 have k:QAR m.fs nm.toList<cs.length:=by rw[i.len];exact (Wc.1 a).1
 have hc:=Wa k;obtain⟨h1,e,g,j⟩:=i.each _ _ _ hc a;have h:=hi.syn _ (Wp a);refine⟨_,_,hc,a,rfl,h1,e,g,j,?_,h.1,h.2⟩;have h1:=QBw a;have e:=hi.used;have g:=hi.room;omega
theorem QE0(p:Ac)(m:DM)(nm:ByteArray):Ct Pr 178 [.pointer p,.string nm] .one [.I] [QAA p m] emp
  (fun t Bs=>t.1=(QA0 m nm).2/\Bs=[QAA p (QA0 m nm).1]):=by
 refine sp1 (QFa _ _) fun B _=>?_;unfold QFa mf;dsimp only;refine QbK 0 fun hi b s cs q j x=>?_;subst q;have a:=QRY hi nm;unfold QA0 at a|-;refine xcl (QGN b s cs m nm hi.sorted j hi.len) rdb ?_;rintro⟨r,c,_⟩ _ ⟨h1,k,rfl⟩;simp only at h1 k;subst h1 k;refine QBK (ca2 (QAO (xgq (xif (fun e=>?_) (fun e=>xif (fun d=>?_) (fun d=>?_))))))
 ·rw[QGn e];exact QBM b s cs hi (QAD ⟨rfl,rfl⟩)
 ·rw[QGQ e (Si d)];exact QBM b s cs hi (QAD ⟨rfl,rfl⟩)
 have d:QAk m.fs nm.toList=true:=Si d
 rw[QKD e d]at a|-;obtain⟨c,f,hc,u,v,y,z,w,_,A,_⟩:=QRL (p:=none) hi j d;rw[v]at a|-;obtain⟨l,C⟩:=QCm m;refine QAO ?_;refine xcl (QHV b s m hi.left.1 hi.left.2) rdb ?_;rintro⟨r,_⟩ _ ⟨n,rfl⟩;simp only at n;subst n;refine QAz (ca1 (xif (fun i=>?_) (fun i=>?_)))
 ·rw[QLs (Si i)]at a|-;exact QCK 0 0 0 b s cs (QAr m).1 a (fun _ h=>by rw[l];exact h) (QAD ⟨rfl,rfl⟩)
 rw[QLp (Si i)]at a|-;have o:=(Wc.1 hc).1;refine QAP (QAO (xgq (QAO (xgq ?_))));refine QAH (h1:=o) (h:=fun _ _=>?_);refine QAa hc (h:=?_);refine QAH (h1:=o) (h:=fun _ _=>?_);refine QDB (c.1,c.2.1,(f.b.length:Int)) hc (hj:=Dc) (hv:=by simp[FILE,w]) (h:=?_);refine QAg 2 (QRB (c':=(c.1,c.2.1,(f.b.length:Int))) (f':={ f with sy:=f.b.length }) hc u (fun g h=>⟨h.1,rfl,h.2.2⟩)) ?_;exact QCK 1 1 0 b s (cs.set (QAR m.fs nm.toList) (c.1,c.2.1,(f.b.length:Int))) _ a (fun _ h=>by simp only[l];exact h) (QAD ⟨rfl,rfl⟩)
theorem Qek{s:Sl}{xs:Ab}{k:Nat}(a:k<=xs.length){g:QBs}(h:Ar U8 s xs g):Ar U8 ⟨s.p,k,s.c⟩ (xs.take k) g:=by
 obtain⟨zs,h⟩:=h;obtain⟨p,n,c⟩:=s;exact⟨xs.drop k++zs,h.shift (by rw[<-Wk,Wu]) (by simp;omega)⟩
theorem QJy(p:Ac)(m:DM)(nm:ByteArray)(n:Int):Ct Pr 177 [.pointer p,.string nm,.I n] .one [.I] [QAA p m] emp
  (fun t Bs=>t.1=(QBc m nm n).2/\Bs=[QAA p (QBc m nm n).1]):=by
 refine sp1 (QDR _ _ _) fun B _=>?_;unfold QDR mf;dsimp only;refine QbK 0 fun hi b s cs v k D=>?_;subst v;have a:=QGH hi nm n;unfold QBc at a|-;refine xcl (QGN b s cs m nm hi.sorted k hi.len) rdb ?_;rintro⟨r,c,_⟩ _ ⟨h1,o,rfl⟩;simp only at h1 o;subst h1 o;refine QBK (ca2 (QAO (xgq (xif (fun e=>?_) (fun e=>xif (fun d=>?_) (fun d=>?_))))))
 ·rw[QGn e];exact QBM b s cs hi (QAD ⟨rfl,rfl⟩)
 ·rw[QGQ e (Si d)];exact QBM b s cs hi (QAD ⟨rfl,rfl⟩)
 have d:QAk m.fs nm.toList=true:=Si d
 rw[QKD e d]at a|-;obtain⟨c,f,hc,w,y,E,z,A,F,G,_,_⟩:=QRL (p:=none) hi k d;rw[y]at a|-;have j:=(Wc.1 hc).1;obtain⟨q,H⟩:=QCm m;refine QAV (fun x As'=>x=decide (n<0\/n>f.b.length)/\As'=[Blk b (QBG m s),Ar FILE s cs,Each QCH cs m.fs]) ?_ ?_
 ·intro J l;refine QAB (fun h=>l _ _ ⟨by simp[h],rfl⟩) (fun h=>?_);refine QAO (xgq ?_);refine QAH (h1:=j) (h:=fun _ _=>?_);refine QAa hc (h:=l _ _ ⟨?_,rfl⟩);rw[A];simp[h]
 rintro _ _ ⟨rfl,rfl⟩;refine QAB (fun h=>?_) (fun h=>?_)
 ·rw[We h];exact QBM b s cs hi (QAD ⟨rfl,rfl⟩)
 rw[Wb h]at a|-;refine QAO ?_;refine xcl (QHV b s m hi.left.1 hi.left.2) rdb ?_;rintro⟨r,_⟩ _ ⟨u,rfl⟩;simp only at u;subst u;refine QAz (ca1 (xif (fun i=>?_) (fun i=>?_)))
 ·rw[QLs (Si i)]at a|-;exact QCK 0 0 0 b s cs (QAr m).1 a (fun _ h=>by rw[q];exact h) (QAD ⟨rfl,rfl⟩)
 rw[QLp (Si i)]at a|-;refine QAO (xgq ?_);refine QAH (h1:=j) (h:=fun _ _=>QAP (QAO ?_));refine QAa hc (h:=?_);refine QXx rfl Om Om (QAO ?_);refine QAa hc (h:=QAO ?_);refine QDB (c.1,⟨c.2.1.p,n.toNat,c.2.1.c⟩,c.2.2) hc (hj:=Dc) (hv:=by simp[FILE]) (h:=QAO ?_);have C:(cs.set (QAR m.fs nm.toList) (c.1,⟨c.2.1.p,n.toNat,c.2.1.c⟩,c.2.2))[QAR m.fs nm.toList]? = some (c.1,⟨c.2.1.p,n.toNat,c.2.1.c⟩,c.2.2):=Wy j;refine QDB (c.1,⟨c.2.1.p,n.toNat,c.2.1.c⟩,if n<f.sy then n else f.sy) C (hj:=Dc) (hv:=by simp[FILE,z]) (h:=?_);rw[Zc];refine QAg 2 (QRB (c':=(c.1,⟨c.2.1.p,n.toNat,c.2.1.c⟩,if n<f.sy then n else f.sy)) (f':={ f with b:=f.b.take n.toNat,sy:=if n<f.sy then n else f.sy }) hc w (fun g h=>⟨h.1,rfl,Qek Om h.2.2⟩)) ?_;exact QCK 1 1 0 b s (cs.set (QAR m.fs nm.toList) (c.1,⟨c.2.1.p,n.toNat,c.2.1.c⟩,if n<f.sy then n else f.sy)) _ a (fun _ h=>by simp only[q];exact h) (QAD ⟨rfl,rfl⟩)
theorem QFA(p:Ac)(m:DM)(nm:ByteArray):Ct Pr 182 [.pointer p,.string nm] .one [.I] [QAA p m] emp
  (fun t Bs=>t.1=(QAJ m nm).2/\Bs=[QAA p (QAJ m nm).1]):=by
 refine sp1 (QES _ _) fun B _=>?_;unfold QES mf;dsimp only;refine QbK 0 fun hi b s cs o i x=>?_;subst o;have d:=QKX hi nm;unfold QAJ at d|-;refine xcl (QGN b s cs m nm hi.sorted i hi.len) rdb ?_;rintro⟨r,c,_⟩ _ ⟨h1,k,rfl⟩;simp only at h1 k;subst h1 k;refine QBK (ca2 (QAO (xgq (xif (fun e=>?_) (fun e=>xif (fun a=>?_) (fun a=>?_))))))
 ·rw[QGn e];exact QBM b s cs hi (QAD ⟨rfl,rfl⟩)
 ·rw[QGQ e (Si a)];exact QBM b s cs hi (QAD ⟨rfl,rfl⟩)
 have a:QAk m.fs nm.toList=true:=Si a
 rw[QKD e a]at d|-;obtain⟨c,f,hc,u,y,z,A,C,D,E,_,_⟩:=QRL (p:=none) hi i a;have w:=(Wc.1 hc).1;have G:=hi.len;have H:=i.len;obtain⟨l,F⟩:=QCm m;refine QAO ?_;refine xcl (QHV b s m hi.left.1 hi.left.2) rdb ?_;rintro⟨r,_⟩ _ ⟨n,rfl⟩;simp only at n;subst n;refine QAz (ca1 (xif (fun j=>?_) (fun j=>?_)))
 ·rw[QLs (Si j)]at d|-;exact QCK 0 0 0 b s cs (QAr m).1 d (fun _ h=>by rw[l];exact h) (QAD ⟨rfl,rfl⟩)
 rw[QLp (Si j)]at d|-;refine QAO (xgq ?_);rw[QAE _ Om];refine xcl (QNK s cs (QAR m.fs nm.toList) w Om) rdb ?_;rintro⟨v,_⟩ _ rfl;refine QAz (ca1 (QAO (xsq ?_)));refine Qc1 2 [QCH c f,Each QCH (cs.eraseIdx (QAR m.fs nm.toList)) (m.fs.eraseIdx (QAR m.fs nm.toList))] (fun g q=>QCA q hc u) (QBK (QCD 0 ?_));exact QCK 2 1 0 b v (cs.eraseIdx (QAR m.fs nm.toList)) _ d (fun _ h=>by simp only[l];exact h) (QAD ⟨rfl,rfl⟩)
theorem QXl{α d:Type}{R:α->d->HP}:∀(k:Nat) {xs:List α}{ys:List d}{g:QBs},Each R xs ys g->QBr [Each R (xs.take k) (ys.take k),Each R (xs.drop k) (ys.drop k)] g:=by
 intro k
 induction k with
 | zero=>
  intro xs ys g h;exact⟨fun _=>none,g,(trivial:Each R [] [] _),QCe h,fun _=>.inl rfl,fun _ _ e=>(by cases e),Sub.refl _⟩
 | succ k ih=>
  intro xs ys g h
  cases xs with
  | nil=>
   cases ys with
   | cons=>exact h.elim
   | nil=>exact⟨fun _=>none,g,(trivial:Each R [] [] _),QCe h,fun _=>.inl rfl,fun _ _ e=>(by cases e),Sub.refl _⟩
  | cons x xs=>
   cases ys with
   | nil=>exact h.elim
   | cons y ys=>
    have h1:QBr [R x y,Each R (xs.take k) (ys.take k),Each R (xs.drop k) (ys.drop k)] g:=QBC (l:=[Each R xs ys]) (fun g c=>by
     obtain⟨a,b,f,_,_,i,_⟩:=c
     exact QCn _ (ih f) i) h
    exact QDf (l:=[R x y,Each R (xs.take k) (ys.take k)]) (fun g c=>c) h1
theorem QXI{α d:Type}{R:α->d->HP}{x:α}{y:d}(k:Nat){xs:List α}{ys:List d}{g:QBs}(h:QBr [R x y,Each R xs ys] g):Each R (xs.take k++x::xs.drop k) (ys.take k++y::ys.drop k) g:=by
 have h1:QBr [R x y,Each R (xs.take k) (ys.take k),Each R (xs.drop k) (ys.drop k)] g:=QBC (l:=[Each R xs ys]) (fun g c=>by
  obtain⟨a,b,e,_,_,f,_⟩:=c
  exact QCn _ (QXl k e) f) h
 have i:QBr [Each R (xs.take k) (ys.take k),R x y,Each R (xs.drop k) (ys.drop k)] g:=QDz h1;refine QVj (QBC (l':=[Each R (x::xs.drop k) (y::ys.drop k)]) (fun g c=>QCe c) i)
def QKp(m:DM)(nm:ByteArray):List DF:=if QAk m.fs nm.toList then m.fs else QK1 m.fs (QAR m.fs nm.toList) ⟨nm,[],0⟩
theorem QZa(m:DM)(nm:ByteArray):∃f,(QKp m nm)[QAR m.fs nm.toList]? = some f/\(QKp m nm).getD (QAR m.fs nm.toList) ⟨nm,[],0⟩=f/\f.b.length<=QBu m.fs:=by
 unfold QKp
 cases c:QAk m.fs nm.toList with
 | true=>
  obtain⟨a,_⟩:=QCY (d:=⟨nm,[],0⟩) c;simp only[O7];refine⟨_,a,rfl,?_⟩;have:=QBw a;omega
 | false=>
  have h:=QRD m.fs (QAR m.fs nm.toList) ⟨nm,[],0⟩ (QGW _ _);simp only[Wi,Oa];exact⟨_,h,by simp[h],by simp⟩
theorem QXv{m:DM}{nm:ByteArray}{a:Ab}(h1:QDN nm=true)(c:m.down=false)(d:((!(QAk m.fs nm.toList)&&decide ((m.fs.length:Int)>=64))||decide ((a.length:Int)>m.room - QBu m.fs))=false)(e:(QAr m).2=true) :
  QAF m nm a=({ (QAr m).1 with fs:=(QKp m nm).set (QAR m.fs nm.toList) { ((QKp m nm).getD (QAR m.fs nm.toList) ⟨nm,[],0⟩) with b:=((QKp m nm).getD (QAR m.fs nm.toList) ⟨nm,[],0⟩).b++a } },0):=by
 unfold QAF;rw[h1,c,d,e];rfl
theorem QE3(p:Ac)(m:DM)(nm:ByteArray)(d:Sl)(a:Ab):Ct Pr 30 [.pointer p,.string nm,d.v] .one [.I] [QAA p m] (RAr U8 d a)
  (fun t Bs=>t.1=(QAF m nm a).2/\Bs=[QAA p (QAF m nm a).1]):=by
 refine sp1 (QEM _ _ _) fun B l=>?_;have a2:Fro B d U8 a:=⟨l⟩;have W:=l.1;unfold QEM mf;dsimp only;refine QbK 0 fun hi b s cs M F N=>?_;subst M;have z:=QHy hi nm a;have a3:=hi.len;have X:=F.len;have a4:=hi.used;have a5:=hi.room;refine xcl (QGN b s cs m nm hi.sorted F hi.len) rdb ?_;rintro⟨r,c,_⟩ _ ⟨h1,L,rfl⟩;simp only at h1 L;subst h1 L;refine QBK (ca2 ?_);refine xcl (QO1 nm) rdb ?_;rintro⟨c,_⟩ _ ⟨h1,rfl⟩;simp only at h1;subst h1;refine QA2 (ca1 (xif (fun hn=>?_) (fun hn=>?_)))
 ·have e:QAF m nm a=(m,8):=by unfold QAF;rw[We hn]
  rw[e];exact QBM b s cs hi (QAD ⟨rfl,rfl⟩)
 have hn:QDN nm=true:=Si hn
 refine QAO (xgq (xif (fun j=>?_) (fun j=>?_)))
 ·have j:m.down=true:=j
  have e:QAF m nm a=(m,10):=by unfold QAF;rw[hn,j];rfl
  rw[e];exact QBM b s cs hi (QAD ⟨rfl,rfl⟩)
 have j:m.down=false:=j;refine QAV (fun x As'=>x=(!(QAk m.fs nm.toList)&&decide ((m.fs.length:Int)>=64))/\As'=[Blk b (QBG m s),Ar FILE s cs,Each QCH cs m.fs]) ?_ ?_
 ·intro J n;refine xif (fun h=>QAO (xgq (n _ _ ⟨?_,rfl⟩))) (fun h=>n _ _ ⟨by rw[h];rfl,rfl⟩);rw[h,N,X];rfl
 rintro _ _ ⟨rfl,rfl⟩;refine QAV (fun x As'=>x=((!(QAk m.fs nm.toList)&&decide ((m.fs.length:Int)>=64))||decide ((a.length:Int)>m.room - QBu m.fs))/\As'=[Blk b (QBG m s),Ar FILE s cs,Each QCH cs m.fs]) ?_ ?_
 ·intro J n;refine xif (fun h=>n _ _ ⟨by rw[h];rfl,rfl⟩) (fun h=>?_);refine xcl (QXJ b s cs m hi F) rdb ?_;rintro⟨r,_⟩ _ ⟨l,rfl⟩;simp only at l;subst l;refine QBK (ca1 (n _ _ ⟨?_,rfl⟩));rw[h,<-W];rfl
 rintro _ _ ⟨rfl,rfl⟩;refine xif (fun u=>?_) (fun u=>?_)
 ·have e:QAF m nm a=(m,9):=by unfold QAF;rw[hn,j,u];rfl
  rw[e];exact QBM b s cs hi (QAD ⟨rfl,rfl⟩)
 obtain⟨S,Y⟩:=QCm m;refine QAO ?_;refine xcl (QHV b s m hi.left.1 hi.left.2) rdb ?_;rintro⟨r,_⟩ _ ⟨l,rfl⟩;simp only at l;subst l;refine QAz (ca1 (xif (fun o=>?_) (fun o=>?_)))
 ·have o:(QAr m).2=false:=Si o
  have e:QAF m nm a=((QAr m).1,10):=by unfold QAF;rw[hn,j,u,o];rfl
  rw[e]at z|-;exact QCK 0 0 0 b s cs (QAr m).1 z (fun _ h=>by rw[S];exact h) (QAD ⟨rfl,rfl⟩)
 have o:(QAr m).2=true:=Si o
 rw[QXv hn j u o]at z|-
 have a6:(a.length:Int)<=m.room - QBu m.fs:=by
  have:=(O0.1 u).2;simpa using this
 refine QBh (fun As'=>∃C cs',As'=[Blk b (QBG (QAr m).1 C),Ar FILE C cs',Each QCH cs' (QKp m nm)]) ?_ ?_
 ·intro J n;refine xif (fun h=>?_) (fun h=>?_)
  ·have H:QAk m.fs nm.toList=false:=Si h
   have a7:=QGW m.fs nm.toList;refine QAO (xgq (QiF fun O=>?_));refine xcl (QMI s cs (QAR m.fs nm.toList) O (nm,⟨none,0,0⟩,0) Om Om) rdb ?_;rintro⟨G,_⟩ _ rfl;refine QAz (ca1 (QAO (xsq ?_)));refine QZM (A:=QCH (nm,⟨none,0,0⟩,0) ⟨nm,[],0⟩) ⟨rfl,rfl,[],rfl,rfl,.inl ⟨rfl,rfl⟩⟩ ?_;refine QRv 0 2 (Q:=Each QCH (cs.take (QAR m.fs nm.toList)++(nm,⟨none,0,0⟩,0)::cs.drop (QAR m.fs nm.toList)) (QKp m nm)) (fun g k=>?_) ?_
   ·unfold QKp;rw[H];exact QXI _ k
   ·exact QAK [Blk b (QBG (QAr m).1 G),Ar FILE G (cs.take (QAR m.fs nm.toList)++(nm,⟨none,0,0⟩,0)::cs.drop (QAR m.fs nm.toList)),Each QCH (cs.take (QAR m.fs nm.toList)++(nm,⟨none,0,0⟩,0)::cs.drop (QAR m.fs nm.toList)) (QKp m nm)] (n _ ⟨G,_,rfl⟩)
  ·have H:QAk m.fs nm.toList=true:=Si h
   refine n _ ⟨s,cs,?_⟩;unfold QKp;rw[H];rfl
 rintro _ ⟨C,cs',rfl⟩;obtain⟨f,D,T,Z⟩:=QZa m nm;rw[T]at z|-;refine QB6 2 (fun g k=>Qdy k) fun K=>?_
 have E:QAR m.fs nm.toList<cs'.length:=by rw[K.len];exact (Wc.1 D).1
 have hc:=Wa E;generalize cs'[QAR m.fs nm.toList]=c at hc;obtain⟨U,V,a0,a1⟩:=K.each _ _ _ hc D
 generalize QAR m.fs nm.toList=i at *
 refine QAP (QAO (xgq (QAO (xgq ?_))));refine QAH (h1:=E) (h:=fun _ _=>?_);refine QAa hc (h:=?_);refine Qc1 2 [QCH c f,Each QCH (cs'.eraseIdx i) ((QKp m nm).eraseIdx i)] (fun g k=>QCA k hc D) (QBK ?_);refine QAg (Q:=Ar U8 c.2.1 f.b) 0 (fun g k=>k.2.2) ?_;refine QHU (y:=d) (hb:=Om) (h:=fun w=>QDK (h:=?_));refine QAH (h1:=E) (h:=fun _ _=>?_);refine QDB (c.1,w,c.2.2) hc (hj:=Dc) (hv:=rfl) (h:=?_);refine QRv 0 0 (Q:=Each QCH (cs'.set i (c.1,w,c.2.2)) ((QKp m nm).set i { f with b:=f.b++a })) (fun g k=>?_) ?_
 ·exact QC9 E (Wc.1 D).1 (QA6 (P:=Ar U8 w (f.b++a)) (fun q R=>(⟨U,V,R⟩:QCH (c.1,w,c.2.2) { f with b:=f.b++a } q)) k)
 exact QCK 1 1 0 b C (cs'.set i (c.1,w,c.2.2)) _ z (fun _ h=>h) (QAD ⟨rfl,rfl⟩)
theorem QfP{f:DF}(keep:Int)(h:0<=f.sy/\f.sy<=f.b.length)(hb:f.b.length<=16777216) :
  IntKind.i64.wrap (f.sy+(if IntKind.i64.wrap ((f.b.length:Int) - f.sy)<if 0>keep then 0 else keep then IntKind.i64.wrap ((f.b.length:Int) - f.sy) else if 0>keep then 0 else keep))=QJY keep f:=by
 rw[QAC ((f.b.length:Int) - f.sy) Om Om];have:=QRI h keep;unfold QJY at this|-;rw[QAC _ Om Om]
variable {B:QBJ}{As:List HP}
theorem Qf5(r:Nat):Int.fdiv (r:Int) (2 ^ (min (Int.toNat 1) 32))=((r / 2:Nat):Int):=by
 have e:(2:Int) ^ (min (Int.toNat 1) 32)=2:=Dc
 rw[e,Kf _ Om];omega
theorem Qdp(r:Nat)(h:r<4294967296):(if (bits .and .u32 (r:Int) 1 == 1)=true then bits .xor .u32 (Int.fdiv (r:Int) (2 ^ (min (Int.toNat 1) 32))) 3988292384 else Int.fdiv (r:Int) (2 ^ (min (Int.toNat 1) 32)))=((QgQ r:Nat):Int):=by
 have a:bits .and .u32 (r:Int) 1=((r % 2:Nat):Int):=by
  have:=u32_and_nat r 1 h Dc;rw[Nat.and_one_is_mod]at this;exact this
 rw[a,Qf5];unfold QgQ;by_cases g:r % 2=1
 ·rw[We (by rw[g];rfl),We g];exact u32_xor_nat (r / 2) 3988292384 Om Dc
 ·rw[Wb (by simp;omega),Wb g]
theorem QSB(a:Nat)(hc:a<4294967296)(b:Sl)(xs:Ab)(G:xs.length<=140737488351232):Ct Pr 247 [.int .u32 (a:Int),b.v] .one [.int .u32] [] (RAr U8 b xs) (fun t Bs=>t.1=(QFg a xs:Int)/\Bs=[]):=by
 refine sp1 (QMu _ _) fun B l=>?_;have E:Fro B b U8 xs:=⟨l⟩;have hb:=l.1;unfold QMu mf;dsimp only;have w:bits .xor .u32 4294967295 (a:Int)=((4294967295 ^^^ a:Nat):Int):=u32_xor_nat 4294967295 a Dc hc;rw[w];have hi:4294967295 ^^^ a<4294967296:=QH0 Dc hc;refine QBt (fun(n:Nat) (r:Int) (i:Int) As=>∃k:Nat,i=(k:Int)/\r=(QcF (4294967295 ^^^ a) (xs.take k):Int)/\n=xs.length - k/\k<=xs.length/\As=[]) xs.length ⟨0,rfl,rfl,rfl,Om,rfl⟩ ?_;rintro n _ _ _ K ⟨k,rfl,rfl,rfl,C,rfl⟩ u;have e:=QUz (xs.take k) hi
 have c:k<xs.length->QcF (4294967295 ^^^ a) (xs.take (k+1))=Qcs (QcF (4294967295 ^^^ a) (xs.take k)) (xs.getD k 0).toNat:=fun h=>by
  rw[Og,Wa h];show QcF _ (xs.take k++[xs[k]])=_;rw[QbM,W0,Wa h];rfl
 generalize p:QcF (4294967295 ^^^ a) (xs.take k)=r at *
 refine QAB (fun h=>?_) (fun h=>?_)
 ·have f:k<xs.length:=Om
  have hx:=Wa f;have F:=QHm xs[k];have c:=c f;rw[W0,hx]at c;simp only[Uy]at c
  generalize xs[k]=y at *
  refine QAH (h1:=f) (h:=fun _ _=>?_);refine QAN hx (h:=?_)
  have x:bits .xor .u32 (r:Int) (IntKind.u32.wrap (y.toNat:Int))=((r ^^^ y.toNat:Nat):Int):=by
   rw[QFU y.toNat Om];exact u32_xor_nat r y.toNat e Om
  rw[x];have z:r ^^^ y.toNat<4294967296:=QH0 e Om;refine QBt (fun(n:Nat) (s:Int) (i:Int) As=>∃j:Nat,i=(j:Int)/\s=(QUf j (r ^^^ y.toNat):Int)/\n=8 - j/\j<=8/\As=[]) 8 ⟨0,rfl,rfl,rfl,Om,rfl⟩ ?_;rintro n _ _ _ D ⟨j,rfl,rfl,rfl,hj,rfl⟩ m;have A:=QQr j z;refine QAB (fun h=>?_) (fun h=>?_)
  ·have o:QUf (j+1) (r ^^^ y.toNat)=QgQ (QUf j (r ^^^ y.toNat)):=rfl
   generalize QUf j (r ^^^ y.toNat)=q at *
   have d:=Qdp q A;refine QBA Dc (QAM ?_);rw[QAE j Om];refine xif (fun g=>?_) (fun g=>?_)
   ·rw[We g]at d;rw[d];exact m (8 - (j+1)) _ _ _ Om ⟨j+1,rfl,by rw[o],rfl,Om,rfl⟩
   ·rw[Wb (by rw[g];simp)]at d;rw[d];exact m (8 - (j+1)) _ _ _ Om ⟨j+1,rfl,by rw[o],rfl,Om,rfl⟩
  ·have:j=8:=Om
   subst this;rw[QAE k Om];refine u (xs.length - (k+1)) _ _ _ Om ⟨k+1,rfl,?_,rfl,Om,rfl⟩;rw[c];rfl
 ·have:k=xs.length:=Om
  subst this;rw[Uk]at p;refine QAD ⟨?_,rfl⟩;rw[show bits .xor .u32 4294967295 (r:Int)=((4294967295 ^^^ r:Nat):Int) from u32_xor_nat 4294967295 r Dc e,<-p];rfl
variable {B:QBJ}{As:List HP}
theorem QQ1(b:Sl)(xs:Ab)(c:xs.length<=140737488351232):Ct Pr 157 [b.v] .one [.int .u32] [] (RAr U8 b xs) (fun t Bs=>t.1=(QFg 0 xs:Int)/\Bs=[]):=by
 refine sp1 (QPS _) fun B a=>?_;have d:Fro B b U8 xs:=⟨a⟩;unfold QPS mf;dsimp only;refine xcl (QSB 0 Dc b xs c) rdb ?_;rintro⟨r,_⟩ _ ⟨h,rfl⟩;exact QA2 (ca1 (QAD ⟨h,rfl⟩))
theorem QOr(p:Sl)(xs:Ab)(f:xs.length<=65535):Ct Pr 264 [p.v] .one [.int .u32] [] (RAr U8 p xs) (fun t Bs=>t.1=(QXS xs:Int)/\Bs=[]):=by
 refine sp1 (QM7 _) fun B a=>?_;have e:Fro B p U8 xs:=⟨a⟩;have d:=a.1;unfold QM7 mf;dsimp only;refine QBA Dc ?_;rw[QC7 p.n _ 256 Dc,QAu,QAu,<-d];refine QAL fun b=>?_;refine QAg (Q:=Ar U8 ⟨some ⟨b,0,none⟩,2,2⟩ (hdN xs.length)) 0 (fun g c=>⟨[],QAp (hdN xs.length) 2 rfl rfl c⟩) ?_;refine xcl (QQ1 ⟨some ⟨b,0,none⟩,2,2⟩ (hdN xs.length) (by show 2<=_;omega)) rdb ?_;rintro⟨r,_⟩ _ ⟨h,rfl⟩;simp only at h;subst h;refine QA2 (ca1 ?_);refine xcl (QSB (QFg 0 (hdN xs.length)) (Qc5 Dc _) p xs Om) rdb ?_;rintro⟨r,_⟩ _ ⟨h,rfl⟩;exact QA2 (ca1 (QCD 0 (QAD ⟨h,rfl⟩)))
end Go.Cx
namespace Go.Cf
open Go
variable {B:QBJ}{As:List HP}{α:Type}
theorem QbA{P:Program}{t e:TypeId}{sz j:Nat}{z:Ad}[a:QJH P t e sz j z](E:Enc α)(n c:Nat){K:Sl->WP}(h0:n<=c)(hb:c*j<=140737488355328)(hsz:E.sz=sz:=by rfl)(J:E.f E.zero=z:=by rfl)
  (h:∀b,Ent B (Ars E ⟨some ⟨b,0,none⟩,n,c⟩ (List.replicate n E.zero) (List.replicate (c - n) E.zero)::As) (K ⟨some ⟨b,0,none⟩,n,c⟩)):Ent B As (QiC P t (.I (n:Int)) (.I (c:Int)) K):=by
 intro w u;obtain⟨i,z0,v,hi,x,y,A,k,C⟩:=QB4 a.ok;obtain⟨d,l,m,p,D⟩:=QCQ a.zero
 obtain rfl:d=i:=by rw[hi]at m;exact (W3 m).symm
 obtain rfl:l=z0:=by rw[k]at p;exact (W3 p).symm
 have L:c<=c*j:=Zv _ A
 have r:=run_make (P:=P) w t e d l v hi k .i64 .i64 (n:Int) (c:Int) Om Om (by
  have:((d.bytes*c:Nat):Int)<=281474976710656:=by rw[y,Nat.mul_comm];omega
  rw[Int.natCast_mul]at this
  exact this) Om
 rw[x,QIN _ _ _ C,<-D,<-J,QEy]at r;refine⟨⟨some ⟨w.heap.size,0,none⟩,n,c⟩,_,r,h w.heap.size _ ?_⟩;obtain⟨g,F,G,H⟩:=u.alloc (QAi E (List.replicate c E.zero)) e;refine⟨g,QA6 (fun q s=>?_) F,G,H⟩;refine Ars.of_blk (pre:=[]) (post:=[]) (b:=w.heap.size) (o:=0) ?_ rfl rfl (by simp) (by simp;omega) (by show c<=_;omega);rw[List.replicate_append_replicate,show n+(c - n)=c by omega];simpa using s
theorem Qgu{P:Program}{t u ty e:TypeId}{sz b:Nat}{z:Ad}[a:QJH P t e sz b z]{E:Enc α}{s y:Sl}{xs zs ys:List α}{F:List HP}{K:Int->WP}
  (d:∀w,Sx B (Ars E s xs zs::F) w->RAr E y ys (mem w)) (hsz:E.sz=sz:=by rfl) (hl:ys.length=xs.length) (hn:xs.length=s.n) (hc:s.n<=s.c)
  (h:∀n,Ent B (Ars E s ys zs::F) (K n)):Ent B (Ars E s xs zs::F) (QdQ P t u ty s.v y.v K):=by
 have e:s.cut 0 s.n s.c sz=s:=QGf s s.n sz
 have:=QSW (P:=P) (t:=t) (u:=u) (ty:=ty) (K:=K) (s:=s) (y:=y) (l:=0) (r:=s.n) (m:=s.c) (sz:=sz) (xs:=xs) (zs:=zs) (ys:=ys) (F:=F) (B:=B) d ys zs (hsz:=hsz) (hrm:=hc) (hlk:=Om) (hl:=hl) (he:=by
  have:min ys.length (s.n - 0)=xs.length:=Om
  rw[this,Z9,Z0,List.take_zero,Wn Om];rfl) (h:=h)
 rw[e]at this;exact this
end Go.Cf
namespace Go.Cx
variable {B:QBJ}{As:List HP}
theorem QDD(p:Sl)(xs:Ab)(l:xs.length<=1024):Ct Pr 192 [p.v] (.tup [none,none]) [.slice,.I] [] (RAr U8 p xs) (fun t Bs=>t.2.1=0/\Bs=[Ar U8 t.1 (QAY xs)]):=by
 refine sp2 (QJx _) fun B c=>?_;have k:Fro B p U8 xs:=⟨c⟩;have e:=c.1;unfold QJx mf;dsimp only;refine QBH (by rw[<-e];simp;omega) ?_;refine xcl (QOr p xs Om) rdb ?_;rintro⟨r,_⟩ _ ⟨h,rfl⟩;simp only at h;subst h;refine QA2 (ca1 ?_);rw[show IntKind.i64.wrap (6+(p.n:Int))=((6+xs.length:Nat):Int) by rw[QAC _ Om Om];omega];refine QbA U8 6 (6+xs.length) Om Om (h:=fun b=>?_);refine QBA Dc (QBA Dc (QBA Dc (QBA Dc ?_)));rw[QC7 p.n _ 256 Dc,QAu,QAu,<-e,QC7 (QXS xs) _ 16777216 Dc,QC7 (QXS xs) _ 65536 Dc,QC7 (QXS xs) _ 256 Dc,QAu,QAu,QAu,QAu];refine QAL fun d=>?_;refine QAg (Q:=Ar U8 ⟨some ⟨d,0,none⟩,6,6⟩ (hdN xs.length++QgV (QXS xs))) 0 (fun g a=>⟨[],QAp (hdN xs.length++QgV (QXS xs)) 6 rfl rfl a⟩) (QFt 1 ?_);refine Qgu (y:=⟨some ⟨d,0,none⟩,6,6⟩) (ys:=hdN xs.length++QgV (QXS xs)) (fun w f=>?_) (hl:=by rw[O1];rfl) (hn:=by rw[O1]) (hc:=by simp only;omega) (h:=fun n=>?_)
 ·obtain⟨g,a,i⟩:=f.tail.head;exact a.read.mono i
 refine xar ?_;refine QHU (y:=p) (hb:=by rw[show (hdN xs.length++QgV (QXS xs)).length=6 from rfl];omega) (h:=fun j=>?_);exact QCD 1 (QAD ⟨rfl,rfl⟩)
theorem QPh(a b i:Nat)(h:b<2 ^ i):(a*2 ^ i) ||| b=a*2 ^ i+b:=by
 rw[<-Nat.shiftLeft_eq];exact (Nat.shiftLeft_add_eq_or_of_lt h a).symm
theorem QZB(a b:Nat)(c:a<65536)(hb:b<65536):bits .or .i64 (a:Int) (b:Int)=((a ||| b:Nat):Int):=by
 have hx:a ||| b<2 ^ 16:=Nat.or_lt_two_pow Om Om;show IntKind.i64.wrap ((BitVec.ofInt 64 (a:Int) ||| BitVec.ofInt 64 (b:Int)).toNat:Int)=_;rw[BitVec.toNat_or,ofInt_u64 a Om,ofInt_u64 b Om,QAC _ Om Om]
theorem QPC(x y:UInt8):bits .or .i64 (IntKind.i64.wrap ((IntKind.i64.wrap (x.toNat:Int))*2 ^ (min (Int.toNat 8) 64))) (IntKind.i64.wrap (y.toNat:Int))=((x.toNat*256+y.toNat:Nat):Int):=by
 have hx:=QHm x;have b:=QHm y
 have e:(2:Int) ^ (min (Int.toNat 8) 64)=256:=Dc
 rw[e,QAC (x.toNat:Int) Om Om,QAC ((x.toNat:Int)*256) Om Om,QAC (y.toNat:Int) Om Om]
 have a:((x.toNat:Int)*256)=((x.toNat*256:Nat):Int):=Om
 rw[a,QZB _ _ Om Om];rw[show x.toNat*256=x.toNat*2 ^ 8 from rfl,QPh _ _ 8 Om]
theorem QhL(a b c d:UInt8):bits .or .u32 (bits .or .u32 (bits .or .u32 (IntKind.u32.wrap ((IntKind.u32.wrap (a.toNat:Int))*2 ^ (min (Int.toNat 24) 32))) (IntKind.u32.wrap ((IntKind.u32.wrap (b.toNat:Int))*2 ^ (min (Int.toNat 16) 32)))) (IntKind.u32.wrap ((IntKind.u32.wrap (c.toNat:Int))*2 ^ (min (Int.toNat 8) 32)))) (IntKind.u32.wrap (d.toNat:Int))=(((((a.toNat*256+b.toNat)*256+c.toNat)*256+d.toNat:Nat)):Int):=by
 have m:=QHm a;have hb:=QHm b;have hc:=QHm c;have n:=QHm d
 generalize a.toNat=a at *
 generalize b.toNat=b at *
 generalize c.toNat=c at *
 generalize d.toNat=d at *
 have e:(2:Int) ^ (min (Int.toNat 24) 32)=16777216:=Dc
 have f:(2:Int) ^ (min (Int.toNat 16) 32)=65536:=Dc
 have g:(2:Int) ^ (min (Int.toNat 8) 32)=256:=Dc
 rw[e,f,g,QFU a Om,QFU b Om,QFU c Om,QFU d Om]
 have h:IntKind.u32.wrap ((a:Int)*16777216)=((a*16777216:Nat):Int):=by rw[show ((a:Int)*16777216)=((a*16777216:Nat):Int) by omega,QFU _ Om]
 have i:IntKind.u32.wrap ((b:Int)*65536)=((b*65536:Nat):Int):=by rw[show ((b:Int)*65536)=((b*65536:Nat):Int) by omega,QFU _ Om]
 have j:IntKind.u32.wrap ((c:Int)*256)=((c*256:Nat):Int):=by rw[show ((c:Int)*256)=((c*256:Nat):Int) by omega,QFU _ Om]
 rw[h,i,j]
 have k:a*16777216 ||| b*65536=(a*256+b)*65536:=by
  rw[show a*16777216=a*2 ^ 24 from rfl,QPh _ _ 24 Om];omega
 have l:(a*256+b)*65536 ||| c*256=((a*256+b)*256+c)*256:=by
  rw[show (a*256+b)*65536=(a*256+b)*2 ^ 16 from rfl,QPh _ _ 16 Om];omega
 have g3:((a*256+b)*256+c)*256 ||| d=((a*256+b)*256+c)*256+d:=by
  rw[show ((a*256+b)*256+c)*256=((a*256+b)*256+c)*2 ^ 8 from rfl,QPh _ _ 8 Om]
 rw[u32_or_nat _ _ Om Om,k,u32_or_nat _ _ Om Om,l,u32_or_nat _ _ Om Om,g3]
theorem QGi(b:Sl)(xs:Ab)(R:xs.length<=140737488351232)(S:b.n<=b.c):Ct Pr 183 [b.v] (.tup [none,none,none]) [.slice,.I,.I] [] (RAr U8 b xs)
  (fun t Bs=>t.2.1=((QBX xs).2.1:Int)/\t.2.2.1=(QBX xs).2.2/\Bs=[Ar U8 t.1 (QBX xs).1]):=by
 refine sp3 (QR4 _) fun B a=>?_;have J:Fro B b U8 xs:=⟨a⟩;have hb:=a.1;unfold QR4 mf;dsimp only;refine QAB (fun h=>?_) (fun h=>?_)
 ·refine QAf U8 (QAD ?_);unfold QBX;rw[We Om];exact⟨rfl,rfl,rfl⟩
 have K:6<=xs.length:=Om
 have u:=Wa (l:=xs) (i:=0) Om;have w:=Wa (l:=xs) (i:=1) Om;have d:=Wa (l:=xs) (i:=2) Om;have f:=Wa (l:=xs) (i:=3) Om;have j:=Wa (l:=xs) (i:=4) Om;have m:=Wa (l:=xs) (i:=5) Om
 have D:QGj xs=xs[0].toNat*256+xs[1].toNat:=by unfold QGj;rw[QCw u,QCw w]
 have E:QYN xs=((xs[2].toNat*256+xs[3].toNat)*256+xs[4].toNat)*256+xs[5].toNat:=by unfold QYN;rw[QCw d,QCw f,QCw j,QCw m]
 generalize xs[0]=G at *
 generalize xs[1]=H at *
 generalize xs[2]=M at *
 generalize xs[3]=N at *
 generalize xs[4]=O at *
 generalize xs[5]=P at *
 refine QAP ?_;refine QAH (k:=0) (h1:=Om) (h:=fun _ _=>?_);refine QAN u (h:=QBA Dc ?_);refine QAH (k:=1) (h1:=Om) (h:=fun _ _=>?_);refine QAN w (h:=?_);rw[QPC G H,<-D];refine QAB (fun g=>?_) (fun g=>?_)
 ·refine QAf U8 (QAD ?_);unfold QBX;rw[Wb Om,We Om];exact⟨rfl,rfl,rfl⟩
 rw[show IntKind.i64.wrap (6+((QGj xs:Nat):Int))=((6+QGj xs:Nat):Int) by rw[QAC _ Om Om];omega];refine QAB (fun z=>?_) (fun z=>?_)
 ·refine QAf U8 (QAD ?_);unfold QBX;rw[Wb Om,Wb Om,We Om];exact⟨rfl,rfl,rfl⟩
 have x:QBX xs=if QYN xs=QXS ((xs.take (6+QGj xs)).drop 6) then ((xs.take (6+QGj xs)).drop 6,6+QGj xs,0) else ([],0,5):=by
  unfold QBX;rw[Wb Om,Wb Om,Wb Om]
 have L:Fro B (b.cut 6 (6+QGj xs) b.c 1) U8 ((xs.take (6+QGj xs)).drop 6):=⟨a.cut 6 (6+QGj xs) b.c Om Om Om⟩
 have F:((xs.take (6+QGj xs)).drop 6).length=QGj xs:=by simp;omega
 generalize (xs.take (6+QGj xs)).drop 6=q at *
 refine QAL fun o=>?_;refine QAg (Q:=Ar U8 ⟨some ⟨o,0,none⟩,0,0⟩ []) 0 (fun g A=>⟨[],QAp [] 0 rfl rfl A⟩) ?_;refine QEi Om Om Om Om ?_;simp only[Wh];refine QHU (s:=⟨some ⟨o,0,none⟩,0,0⟩) (y:=b.cut 6 (6+QGj xs) b.c 1) (hb:=by rw[F];simp;omega) (h:=fun C=>?_);rw[W6];refine QAP ?_;refine QAH (k:=2) (h1:=Om) (h:=fun _ _=>?_);refine QAN d (h:=QBA Dc ?_);refine QAH (k:=3) (h1:=Om) (h:=fun _ _=>?_);refine QAN f (h:=QBA Dc ?_);refine QAH (k:=4) (h1:=Om) (h:=fun _ _=>?_);refine QAN j (h:=QBA Dc ?_);refine QAH (k:=5) (h1:=Om) (h:=fun _ _=>?_);refine QAN m (h:=?_);refine xcl (QOr C q Om) rdb ?_;rintro⟨r,_⟩ _ ⟨p,rfl⟩;simp only at p;subst p;refine QA2 (ca1 ?_);refine QOC m (h:=?_);refine QOC j (h:=?_);refine QOC f (h:=?_);refine QOC d (h:=?_);rw[QhL,<-E];refine xif (fun e=>?_) (fun e=>?_)
 ·have e:¬QYN xs=QXS q:=by simp at e;omega
  rw[x,Wb e];exact QCD 0 (QAf U8 (QAD ⟨rfl,rfl,rfl⟩))
 ·have e:QYN xs=QXS q:=by simp at e;omega
  rw[x,We e];exact QAD ⟨rfl,rfl,rfl⟩
end Go.Cx
namespace Go.Cf
open Go
variable {B:QBJ}{As:List HP}{α:Type}
theorem QhV{P:Program}{t u ty e:TypeId}{sz b:Nat}{z:Ad}[a:QJH P t e sz b z]{E:Enc α}{s y:Sl}{xs zs ys:List α}{F:List HP}{K:Int->WP}
  (d:∀w,Sx B (Ars E s xs zs::F) w->RAr E y ys (mem w)) (hsz:E.sz=sz:=by rfl) (hl:ys.length<=xs.length) (hn:xs.length=s.n) (hc:s.n<=s.c)
  (h:∀n,Ent B (Ars E s (ys++xs.drop ys.length) zs::F) (K n)):Ent B (Ars E s xs zs::F) (QdQ P t u ty s.v y.v K):=by
 have e:s.cut 0 s.n s.c sz=s:=QGf s s.n sz
 have:=QSW (P:=P) (t:=t) (u:=u) (ty:=ty) (K:=K) (s:=s) (y:=y) (l:=0) (r:=s.n) (m:=s.c) (sz:=sz) (xs:=xs) (zs:=zs) (ys:=ys) (F:=F) (B:=B) d (ys++xs.drop ys.length) zs (hsz:=hsz) (hrm:=hc) (hlk:=Om) (hl:=by simp;omega) (he:=by
  have:min ys.length (s.n - 0)=ys.length:=Om
  rw[this,Z9,List.take_zero,Wn Om,Kz hl];simp) (h:=h)
 rw[e]at this;exact this
end Go.Cf
namespace Go.Cx
variable {B:QBJ}{As:List HP}
theorem Qdx:∀k:Nat,k<8->(2:Int) ^ (min (Int.toNat (IntKind.i64.wrap (8*(k:Int)))) 64)=((256 ^ k:Nat):Int)/\0<=IntKind.i64.wrap (8*(k:Int)):=Dc
variable {B:QBJ}{As:List HP}
theorem QiH(v:Nat)(y:UInt8)(hv:v<72057594037927936):bits .or .u64 (IntKind.u64.wrap ((v:Int)*2 ^ (min (Int.toNat 8) 64))) (IntKind.u64.wrap (y.toNat:Int))=((v*256+y.toNat:Nat):Int):=by
 have a:=QHm y
 have e:(2:Int) ^ (min (Int.toNat 8) 64)=256:=Dc
 rw[e,show (v:Int)*256=((v*256:Nat):Int) by omega,QLw _ Om,QLw _ Om,u64_or_nat _ _ Om Om,show v*256=v*2 ^ 8 from rfl,QPh _ _ 8 Om]
structure Cu where
 a:Int
 b:Int
 c:Int
abbrev QfE:Int:=1099511627776
def okN(x:Int):Bool:=decide (0<=x)&&decide (x<=QfE)
def QbP(c:Cu):Bool:=okN c.a&&(okN c.b&&okN c.c)
abbrev Cu.v(c:Cu):Value:=.agg #[.I c.a,.I c.b,.I c.c]
theorem QY5{cs:Ad}{k n:Nat}{s:Sh}{x:s.ty}{K:s.ty->WP}(h:cs[k]? = some (s.mk x))(c:k<n)(b:Ent B As (K x)):Ent B As (QM2 cs (k:Int) n s K):=
 fun w a=>⟨Om,Om,x,by rw[Wh];exact h,b w a⟩
theorem Qbi(x:Int):(decide (x<0)||decide (x>QfE)) = !(okN x):=by
 show _ = !(decide (0<=x)&&decide (x<=1099511627776));by_cases h1:x<0<;>by_cases a:x>1099511627776<;>simp[h1,a] <;> omega
variable {B:QBJ}{As:List HP}
theorem QOb(s:Sl)(xs:Ab){h:QBs}(a:RAr U8 s xs h)(b:Nat)(e:b<=xs.length)(d:s.n<=s.c):RAr U8 (s.cut b s.n s.c 1) (xs.drop b) h:=by
 have:=a.cut b s.n s.c (by have:=a.1;omega) d (by rw[a.1];exact Wt _);rw[Wn (by rw[a.1];exact Wt _)]at this;exact this
theorem QSr(b:Sl)(xs:Ab)(J:xs.length<=16777216)(s:b.n<=b.c):Ct Pr 176 [b.v] (.tup [none,none]) [.slice,.I] [] (RAr U8 b xs)
  (fun t Bs=>t.2.1=((QAx xs).2:Int)/\∃rs,Bs=[Ar SL t.1 rs,Each (Ar U8) rs (QAx xs).1]):=by
 refine sp2 (QO3 _) fun B j=>?_;have D:Fro B b U8 xs:=⟨j⟩;have hb:=j.1;have E:=(QJ0 xs.length xs (Wt _)).2.1;unfold QO3 mf;dsimp only;refine QAf SL ?_;refine QZM (A:=Each (Ar U8) [] []) trivial ?_;refine QBt (fun n l i As=>∃(k:Nat) (rs:List Sl) (a:List Ab),i=(k:Int)/\n=xs.length - k/\k<=xs.length/\QAx xs=(a++(QAx (xs.drop k)).1,k+(QAx (xs.drop k)).2)/\As=[Each (Ar U8) rs a,Ar SL l rs]) xs.length ⟨0,[],[],rfl,rfl,Om,by simp,rfl⟩ ?_;rintro n l _ _ K ⟨k,rs,a,rfl,rfl,o,d,rfl⟩ q;refine QEi Om Om Om Om ?_;simp only[Wh];have F:(xs.drop k).length=xs.length - k:=Oc;refine xcl (pre:=[]) (G:=[Each (Ar U8) rs a,Ar SL l rs]) (QGi (b.cut k b.n b.c 1) (xs.drop k) Om (by simp only[Sl.cut];omega)) (QIX fun g e _ _ _=>(QOb b xs j k o s).mono e) ?_;rintro⟨f,r,y,_⟩ _ ⟨h1,m,rfl⟩;simp only at h1 m;subst h1 m;refine QAz (ca3 ?_);refine xif (fun h=>?_) (fun h=>?_)
 ·have h:¬(QBX (xs.drop k)).2.2=0:=Si h
  rw[QNM h]at d;refine QAK [Ar SL l rs,Each (Ar U8) rs a] (QAD ⟨?_,rs,?_⟩)
  ·rw[d];simp
  ·rw[d];simp
 ·have h:(QBX (xs.drop k)).2.2=0:=Si h
  obtain⟨z,C,_⟩:=QNq h;rw[QUd h]at d;refine QB6 1 (fun g e=>Each.length e) fun u=>?_
  have H:a.length+1<=xs.length:=by
   have:=Uh (fun p=>p.1.length) d;simp only[Wd,Wl]at this;omega
  refine QAL fun w=>?_;refine QE4 f (hb:=Om) (h:=fun x=>?_);rw[show IntKind.i64.wrap ((k:Int)+((QBX (xs.drop k)).2.1:Int))=((k+(QBX (xs.drop k)).2.1:Nat):Int) by rw[QAC _ Om Om];omega];refine QBO [Each (Ar U8) rs a,Ar U8 f (QBX (xs.drop k)).1] (Each (Ar U8) (rs++[f]) (a++[(QBX (xs.drop k)).1])) (fun g e=>QEn e) ?_;refine q (xs.length - (k+(QBX (xs.drop k)).2.1)) _ _ _ Om ⟨k+(QBX (xs.drop k)).2.1,rs++[f],a++[(QBX (xs.drop k)).1],rfl,rfl,Om,?_,rfl⟩;rw[Lh]at d;rw[d];simp[Ln]
variable {B:QBJ}{As:List HP}
theorem QHd(b:Sl)(xs:Ab)(a:Nat)(m:a+8<=xs.length)(r:xs.length<=140737488351232)(s:b.n<=b.c):Ct Pr 184 [b.v,.I (a:Int),.I 8] (.tup [none,none]) [.int .u64,.I] [] (RAr U8 b xs)
  (fun t Bs=>t.1=(beV (QLo xs a):Int)/\t.2.1=0/\Bs=[]):=by
 refine sp2 (QWd _ _ _) fun B d=>?_;have p:Fro B b U8 xs:=⟨d⟩;have hb:=d.1;unfold QWd mf;dsimp only;refine QBH rfl (QBH ?_ ?_)
 ·rw[QAC _ Om Om];simp;omega
 rw[show IntKind.i64.wrap ((a:Int)+8)=((a+8:Nat):Int) by rw[QAC _ Om Om];omega];refine QEi Om Om Om Om ?_;simp only[Wh];have g:Fro B (b.cut a (a+8) b.c 1) U8 (QLo xs a):=⟨d.cut a (a+8) b.c Om Om Om⟩;have j:=QWe m;have q:=g.rd.1;refine QBt (fun(n:Nat) (v:Int) (i:Int) As=>∃k:Nat,i=(k:Int)/\v=((beV ((QLo xs a).take k):Nat):Int)/\n=8 - k/\k<=8/\As=[]) 8 ⟨0,rfl,rfl,rfl,Om,rfl⟩ ?_;rintro n _ _ _ K ⟨k,rfl,rfl,rfl,o,rfl⟩ f;refine QAB (fun h=>?_) (fun h=>?_)
 ·have e:k<8:=Om
  have hx:=Wa (l:=QLo xs a) (i:=k) Om;refine QAH (h1:=Om) (h:=fun _ _=>?_);refine QAN hx (h:=QBA Dc ?_);rw[QiH _ _ (QJq j e),QAE k Om];exact f (8 - (k+1)) _ _ _ Om ⟨k+1,rfl,by rw[QJt hx],rfl,Om,rfl⟩
 ·have e:k=8:=Om
  subst e;rw[Wn Om];exact QAD ⟨rfl,rfl,rfl⟩
end Go.Cx
