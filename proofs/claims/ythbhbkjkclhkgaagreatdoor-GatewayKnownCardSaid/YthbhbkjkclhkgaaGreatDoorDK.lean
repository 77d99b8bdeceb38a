import Derived.Test.YthbhbkjkclhkgaaGreatDoorF0
import Derived.Test.YthbhbkjkclhkgaaGreatDoorF1
import Derived.Test.YthbhbkjkclhkgaaGreatDoorF2
import Derived.Test.YthbhbkjkclhkgaaGreatDoorF3
import Derived.Test.YthbhbkjkclhkgaaGreatDoorF4
import Derived.Test.YthbhbkjkclhkgaaGreatDoorFX
import Derived.Test.YthbhbkjkclhkgaaGreatDoorA4
import Derived.Test.YthbhbkjkclhkgaaGreatDoorA3
import Derived.Laws.BitsAllLaws

namespace Go.Cx
open Go Go.Cf
set_option linter.unusedVariables false
theorem QB1{B:QBE}{F:List HP}{P Q:HP}(h1:Rds B F P)(h2:Rds B F Q):Rds B F (P.and Q):=fun w hp hF a b c d e=>⟨h1 w hp hF a b c d e,h2 w hp hF a b c d e⟩
theorem QIN(l:Sl)(xs:List UInt8)(hm:xs.length≤140737488351232) :
  Ct Pr 52 [l.v] .one [.slice] [] (RAr U8 l xs) (fun t Bs=>Bs=[Ar U8 t.1 xs]):=by
 refine sp1 (QBL _) fun B hr=>?_;have fa:Fro B l U8 xs:=⟨hr⟩;have ha:=hr.1;unfold QBL mf;dsimp only;refine xif (fun h=>?_) (fun h=>?_)
 ·have:xs=[]:=by
   refine List.eq_nil_of_length_eq_zero ?_;rw[ha];rcases Nat.eq_zero_or_pos l.n with h0|h0
   ·exact h0
   ·obtain⟨b,o,_,_,_,_,hp,_⟩:=hr.2.2 h0;rw[hp]at h;simp[QDF]at h
  subst this;exact QAd U8 (QAD rfl)
 ·refine QAL fun b=>?_;refine QhE 0 (Bs:=[Ar U8 ⟨some ⟨b,0,none⟩,0,0⟩ []]) (fun g hg=>?_) (QA5 ?_)
  ·exact⟨g,fun _=>none,⟨[],QAm [] 0 rfl rfl hg⟩,trivial,fun _=>.inr rfl,Sub.refl _,fun _ _ e=>by cases e⟩
  refine QHb (s:=⟨some ⟨b,0,none⟩,0,0⟩) (xs:=[]) (ys:=xs) (hb:=by simp;omega) (h:=fun s'=>?_);exact QAD (by simp)
variable {B:QBE}{As:List HP}
abbrev CF:=ByteArray×Sl×Int
def FILE:Enc CF:=⟨fun x=>[.string x.1,x.2.1.v,.I x.2.2],3,fun _=>rfl,fun x v h=>by simp at h;rcases h with rfl|rfl|rfl<;>rfl,by decide,(ByteArray.empty,⟨none,0,0⟩,0)⟩
theorem QFP(x:ByteArray):Ct Pr 229 [.string x] .one [.bool] [] emp (fun t Bs=>t.1=false∧Bs=[]):=by
 refine sp1 (QFG _) fun B _=>?_;unfold QFG mf;dsimp only;exact QAD ⟨by simp,rfl⟩
def Qag(a b:Key):Int:=if lt a b then -1 else if a=b then 0 else 1
theorem QCJ(x y:ByteArray):Ct Pr 146 [.string x,.string y] .one [.I] [] emp (fun t Bs=>t.1=Qag x.toList y.toList∧Bs=[]):=by
 refine sp1 (QEW _ _) fun B _=>?_;unfold QEW mf;dsimp only;refine xcl (QFP x) rdb ?_;rintro⟨c,_⟩ _ ⟨hc,rfl⟩;obtain rfl:c=false:=hc;refine QAy (ca1 ?_);refine xcl (QFP y) rdb ?_;rintro⟨c,_⟩ _ ⟨hc,rfl⟩;obtain rfl:c=false:=hc;refine QAy (ca1 (QBF rfl (QBF rfl (xif (fun h=>?_) (fun h=>?_)))))
 ·exact QAD ⟨by simp[Qag,lt,h],rfl⟩
 ·refine xif (fun h2=>?_) (fun h2=>?_)
  ·refine QAD ⟨?_,rfl⟩
   have:¬x.toList=y.toList:=fun e=>by rw[e]at h2;simp at h2
   simp[Qag,lt,h,this]
  ·refine QAD ⟨?_,rfl⟩
   have:x.toList=y.toList:=by simpa [h]using h2
   show (0:Int)=_;rw[Qag,this,lt_irrefl];simp
theorem QOQ(c:CF)(nm:ByteArray):Ct Pr 145 [.agg #[.string c.1,c.2.1.v,.I c.2.2],.string nm] .one [.I] [] emp (fun t Bs=>t.1=Qag c.1.toList nm.toList∧Bs=[]):=by
 refine sp1 (QDp _ _ _ _) fun B _=>?_;unfold QDp mf;dsimp only;refine QAL fun b=>xgq ?_;refine xcl (QCJ c.1 nm) rdb ?_;rintro⟨r,_⟩ _ ⟨hr,rfl⟩;exact QAy (ca1 (QB5 0 (QAD ⟨hr,rfl⟩)))
theorem Qeg(i j:Nat)(h:i+j≤1000000):IntKind.i64.wrap (Int.fdiv (IntKind.u64.wrap (IntKind.i64.wrap ((i:Int)+(j:Int)))) (2 ^ (min (Int.toNat 1) 64)))=(((i+j) / 2:Nat):Int):=by
 rw[QAB ((i:Int)+(j:Int)) (by omega) (by omega)]
 have e1:(2 ^ IntKind.u64.bits:Int)=18446744073709551616:=by decide
 have e3:IntKind.u64.signed=false:=rfl
 have e:IntKind.u64.wrap ((i:Int)+(j:Int))=(i:Int)+j:=by
  simp only[IntKind.wrap,e1,e3,Bool.false_and];simp;omega
 rw[e]
 have e4:(2:Int) ^ (min (Int.toNat 1) 64)=2:=by decide
 rw[e4,Int.fdiv_eq_ediv_of_nonneg _ (by omega),QAB _ (by omega) (by omega)];omega
def QRX(cs:List CF)(fs:List DF):Prop:=cs.length=fs.length∧∀(i:Nat) (c:CF) (f:DF),cs[i]? = some c→fs[i]? = some f→c.1=f.nm
theorem QTc(s:Sl)(cs:List CF)(fs:List DF)(nm:ByteArray)(hs:Sorted fs)(hn:QRX cs fs)(hl:fs.length≤64):Ct Pr 144 [s.v,.string nm,.func (.func 145) #[] #[]] (.tup [none,none]) [.I,.bool] [Ar FILE s cs] emp
  (fun t Bs=>t.1=(QAT fs nm.toList:Int)∧t.2.1=QAh fs nm.toList∧Bs=[Ar FILE s cs]):=by
 refine sp2 (QAl _ _) fun B _=>?_;unfold QAl mf;dsimp only;refine QCm s fun hn1 _=>?_;obtain⟨hcl,hnm⟩:=hn;refine QBb (fun n i j As=>∃a b:Nat,i=(a:Int)∧j=(b:Int)∧n=b - a∧a≤b∧b≤fs.length∧(∀t f,t<a→fs[t]? = some f→lt f.key nm.toList=true)∧(∀t f,b≤t→fs[t]? = some f→lt f.key nm.toList=false)∧As=[Ar FILE s cs]) fs.length ⟨0,fs.length,rfl,by rw[←hcl,hn1],by omega,by omega,by omega,fun t f h=>by omega,fun t f h hf=>?_,rfl⟩ ?_
 ·have:=(List.getElem?_eq_some_iff.1 hf).1;omega
 rintro n _ _ _ K ⟨a,b,rfl,rfl,rfl,hab,hb,hlo,hhi,rfl⟩ hK;refine QAA (fun h=>?_) (fun h=>?_)
 ·rw[Qeg a b (by omega)]
  have hm1:(a+b) / 2<fs.length:=by omega
  have hf:=List.getElem?_eq_getElem (l:=fs) hm1;have hc:=List.getElem?_eq_getElem (l:=cs) (i:=(a+b) / 2) (by omega);have hnm':=hnm _ _ _ hc hf;refine QA6 (by decide) ?_;refine QAH (h1:=by omega) (h:=fun _ _=>?_);refine QAN hc (h:=?_);refine QAZ hc (h:=?_);refine QAZ hc (h:=?_);refine xcl (QOQ cs[(a+b) / 2] nm) rdb ?_;rintro⟨r,_⟩ _ ⟨hr,rfl⟩;simp only at hr;rw[hnm']at hr;subst hr;refine QAy (ca1 (QAJ (QAA (fun g=>?_) (fun g=>?_))))
  ·have hlt:lt fs[(a+b) / 2].key nm.toList=true:=by
    unfold Qag at g;split at g
    ·assumption
    ·split at g<;>omega
   rw[QAF _ (by omega)];refine hK (b - ((a+b) / 2+1)) _ _ _ (by omega) ⟨(a+b) / 2+1,b,rfl,rfl,rfl,by omega,hb,fun t f ht hft=>?_,hhi,rfl⟩;rcases Nat.lt_or_ge t ((a+b) / 2) with h'|h'
   ·exact lt_trans (hs.get h' hft hf) hlt
   ·obtain rfl:t=(a+b) / 2:=by omega
    rw[hf]at hft;cases hft;exact hlt
  ·have hge:lt fs[(a+b) / 2].key nm.toList=false:=by
    cases hh:lt fs[(a+b) / 2].key nm.toList with
    | false=>rfl
    | true=>exact absurd (show Qag _ _<0 by simp only[DF.key]at hh;simp[Qag,hh]) g
   refine hK ((a+b) / 2 - a) _ _ _ (by omega) ⟨a,(a+b) / 2,rfl,rfl,rfl,by omega,by omega,hlo,fun t f ht hft=>?_,rfl⟩;rcases Nat.lt_or_ge ((a+b) / 2) t with h'|h'
   ·cases hh:lt f.key nm.toList with
    | false=>rfl
    | true=>have:=lt_trans (hs.get h' hf hft) hh;rw[hge]at this;cases this
   ·obtain rfl:t=(a+b) / 2:=by omega
    rw[hf]at hft;cases hft;exact hge
 ·have hab':a=b:=by omega
  subst hab';have he:QAT fs nm.toList=a:=QUq hb hlo (fun f hf=>hhi a f (Nat.le_refl _) hf);refine QAJ (QAA (fun g=>?_) (fun g=>?_))
  ·have ha:a<fs.length:=by omega
   have hf:=List.getElem?_eq_getElem (l:=fs) ha;have hc:=List.getElem?_eq_getElem (l:=cs) (i:=a) (by omega);have hnm':=hnm _ _ _ hc hf;refine QAH (h1:=by omega) (h:=fun _ _=>?_);refine QAN hc (h:=?_);refine QAZ hc (h:=?_);refine QAZ hc (h:=?_);refine xcl (QOQ cs[a] nm) rdb ?_;rintro⟨r,_⟩ _ ⟨hr,rfl⟩;simp only at hr;rw[hnm']at hr;refine QAy (ca1 (QAD ⟨by rw[he],?_,rfl⟩));show (r == 0)=_;have hge:=hhi a _ (Nat.le_refl _) hf;unfold QAh;rw[he,hf,hr];simp only[DF.key]at hge⊢;rw[Bool.eq_iff_iff];simp only[Qag,hge,Bool.false_eq_true,if_false,beq_iff_eq];constructor
   ·intro h;by_cases e:fs[a].nm.toList=nm.toList
    ·exact e
    ·rw[if_neg e]at h;cases h
   ·intro h;rw[if_pos h]
  ·refine QAD ⟨by rw[he],?_,rfl⟩;unfold QAh;rw[he,List.getElem?_eq_none (by omega)]
theorem Qfy(args:Array Value)(w:World):(callFunc 147 args).run Pr w=((Extern.SlicesOverlaps.overlaps #[134,134] #[4] args).run Pr w).andThen fun v w'=>.ok (.value v) w':=
 run_callFunc_extern (fn:=Go.Proofs.Tryz.f147) (by kernel_rfl) (by kernel_rfl) (by kernel_rfl) (by kernel_rfl) (by kernel_rfl) args w
theorem QLZ(s:Sl)(rs:List CF)(k:Nat)(hk:k<rs.length)(h63:rs.length≤9223372036854775807):Ct Pr 263 [s.v,.I (k:Int),.I ((k+1:Nat):Int)] .one [.slice] [Ar FILE s rs] emp
  (fun t Bs=>Bs=[Ar FILE t.1 (rs.eraseIdx k)]):=by
 refine sp1 (QBH _ _ _) fun B _=>?_;unfold QBH mf;dsimp only;refine QCm s fun hl hc=>?_;refine QEh (by omega) (by omega) (by omega) (by omega) ?_;refine QBF (by simp;omega) (QAO ?_);refine QEh (by omega) (by omega) (by omega) (by omega) ?_;refine QEh (by omega) (by omega) (by omega) (by omega) ?_;refine Qd8 0 fun zs _ hzl=>?_;obtain⟨p,n,c⟩:=s;simp only at hl hc hzl;refine QcD k (rs.take k) (rs.drop k++zs) (by rw[←List.append_assoc,List.take_append_drop]) (by simp;omega) ?_;have e1:(⟨p,n,c⟩:Sl).cut (Int.toNat 0) (Int.toNat (k:Int)) (Int.toNat ((c:Nat):Int)) 3=⟨p,k,c⟩:=QHM ⟨p,n,c⟩ k 3;rw[e1];show Ent B (Ars FILE ⟨p,k,c⟩ (rs.take k) (rs.drop k++zs)::[]) _;refine Qc9 (ys:=rs.drop (k+1)) (fun g hg=>?_) (by simp;omega) (by omega) (h:=?_)
 ·have h1:Ars FILE ⟨p,n,c⟩ rs zs g:=hg.shift (by rw[←List.append_assoc,List.take_append_drop]) hl;have h2:=h1.read.cut (k+1) n c (by omega) hc (by omega);rw[List.take_of_length_le (by omega)]at h2;exact h2
 have e2:k+((⟨p,n,c⟩:Sl).cut (Int.toNat ((k+1:Nat):Int)) (Int.toNat (n:Int)) (Int.toNat (c:Int)) 3).n=n - 1:=by
  show k+((n:Int).toNat - ((k+1:Nat):Int).toNat)=n - 1;omega
 rw[e2];refine QEh (by simp) (by simp only;omega) (by simp only;omega) (by simp) ?_
 have hlen:(rs.take k++rs.drop (k+1)).length=n - 1:=by simp;omega
 have e3:Int.toNat (((n - 1:Nat)):Int)=(rs.take k++rs.drop (k+1)).length:=by rw[hlen];rfl
 show Ent B _ (QcQ Pr 134 0 (Sl.cut ⟨p,n - 1,c⟩ (Int.toNat ((n - 1:Nat):Int)) (Int.toNat (n:Int)) (Int.toNat (c:Int)) 3).v _);rw[e3];refine QhG (by rw[hlen];simp only[Int.toNat_natCast];omega) (by rw[hlen];simp only[Int.toNat_natCast];omega) (by rw[hlen];simp only[Int.toNat_natCast,List.length_drop,List.length_append];omega) (by simp only;omega) (h:=?_);refine QAD ?_;rw[List.eraseIdx_eq_take_drop_succ]
theorem QMP(s:Sl)(xs:List CF)(k:Nat)(bv:Nat)(x:CF)(hk:k≤xs.length)(hl:xs.length≤1000):Ct Pr 90 [s.v,.I (k:Int),.slice (some ⟨bv,0,none⟩) 1 1] .one [.slice] [Ar FILE s xs,BlkS bv [.string x.1,x.2.1.v,.I x.2.2]] emp
  (fun t Bs=>Bs=[Ar FILE t.1 (xs.take k++x::xs.drop k)]):=by
 refine sp1 (fun K=>QBI _ _ ⟨some ⟨bv,0,none⟩,1,1⟩ K) fun B _=>?_;unfold QBI mf;dsimp only;refine QCm s fun hn hc=>?_
 have hv:∀{As F:List HP}{φ:WP} [p:Find (BlkS bv [.string x.1,x.2.1.v,.I x.2.2]) As F],Ent B (Ar FILE ⟨some ⟨bv,0,none⟩,1,1⟩ [x]::F) φ→Ent B As φ:=fun {As F φ p} h=>
  Ent.perm p.perm (QHn (fun _ hg=>QA2 (fun g hg=>⟨[],QAm [x] 1 rfl (by simp[QAf,FILE]) hg.blk⟩) hg) h)
 refine QEh (by omega) (by omega) (by omega) (by omega) (QBF rfl (xif (fun h=>?_) (fun h=>?_)))
 ·have hkn : k = xs.length := by have : (k : Int) = (s.n : Int) := by simpa using h
                                 omega
  subst hkn;refine hv ?_;refine QHb (y:=⟨some ⟨bv,0,none⟩,1,1⟩) (hb:=by simp;omega) (h:=fun s'=>?_);refine QB5 0 (QAD ?_);rw[List.take_length,List.drop_length]
 have hkn : k < xs.length := by have : ¬(k : Int) = (s.n : Int) := by simpa using h
                                omega
 have e1:IntKind.i64.wrap ((s.n:Int)+((1:Nat):Int))=((xs.length+1:Nat):Int):=by rw[QAB _ (by omega) (by omega)];omega
 have e2:IntKind.i64.wrap ((k:Int)+((1:Nat):Int))=((k+1:Nat):Int):=by rw[QAB _ (by omega) (by omega)];omega
 rw[e1];refine QAA (fun h=>?_) (fun h=>?_)
 ·-- a new array
  refine QX3 rfl (by omega) (by omega) ?_;rw[Int.toNat_natCast]
  have e3:IntKind.i64.wrap (((xs.length+1:Nat):Int) - (k:Int))=((xs.length+1 - k:Nat):Int):=by rw[QAB _ (by omega) (by omega)];omega
  rw[e3];refine QgH (k0:=.i64) (E:=FILE) (s:=⟨s.p,k,s.c⟩) (xs:=xs.take k) (by kernel_rfl) (fun w hw=>?_) (by omega) (by simp only;omega) (by simp only;omega) (h:=fun s4 h4 h4c=>?_)
  ·obtain⟨g,hg,hs⟩:=hw.head;have:=(hg.read.mono hs).cut 0 k s.c (Nat.zero_le _) (by omega) hk;rw[QHM,List.drop_zero]at this;exact this
  simp only at h4
  have h4':s4.n=xs.length+1:=by omega
  refine QEh (by omega) (by omega) (by omega) (by omega) ?_;simp only[Int.toNat_natCast];refine QGD 2 (hv (QGD 1 (Qd8 0 fun zs hz1 hz2=>?_)))
  have hlt:(xs.take k).length=k:=by simp;omega
  have hlx:(xs.take k++List.replicate (xs.length+1 - k) FILE.zero).length=xs.length+1:=by simp;omega
  refine QRY (y:=⟨some ⟨bv,0,none⟩,1,1⟩) (ys:=[x]) (fun w hw=>?_) (xs.take k++[x]++List.replicate (xs.length - k) FILE.zero) zs (hrm:=by omega) (hlk:=by simp;omega) (hl:=by simp;omega) (he:=?_) (h:=fun n=>?_)
  ·obtain⟨g,hg,hs⟩:=hw.tail.head;exact hg.read.mono hs
  ·have hm:min [x].length (s4.n - k)=1:=by simp;omega
   have e:List.replicate (xs.length+1 - k) FILE.zero=FILE.zero::List.replicate (xs.length - k) FILE.zero:=by
    rw[show xs.length+1 - k=(xs.length - k)+1 by omega];rfl
   have t1:(xs.take k++List.replicate (xs.length+1 - k) FILE.zero++zs).take k=xs.take k:=by rw[List.append_assoc,List.take_left' hlt]
   have t2:(xs.take k++List.replicate (xs.length+1 - k) FILE.zero++zs).drop (k+1)=List.replicate (xs.length - k) FILE.zero++zs:=by
    have:xs.take k++List.replicate (xs.length+1 - k) FILE.zero++zs=(xs.take k++[FILE.zero])++(List.replicate (xs.length - k) FILE.zero++zs):=by rw[e];simp
    rw[this,List.drop_left' (by rw[List.length_append,hlt];rfl)]
   rw[hm,t1,t2];simp
  refine QAO ?_;rw[e2];refine QEh (by omega) (by omega) (by omega) (by omega) ?_;refine QEh (by omega) (by omega) (by omega) (by omega) ?_;simp only[Int.toNat_natCast]
  have hld:(xs.drop k).length=xs.length - k:=by simp
  refine QRY (y:=s.cut k s.n s.c 3) (ys:=xs.drop k) (fun w hw=>?_) (xs.take k++x::xs.drop k) zs (hrm:=by omega) (hlk:=by simp only[List.length_append,List.length_take,List.length_drop,List.length_cons,List.length_nil,List.length_replicate];omega) (hl:=by simp only[List.length_append,List.length_take,List.length_drop,List.length_cons,List.length_nil,List.length_replicate];omega) (he:=?_) (h:=fun n=>?_)
  ·obtain⟨g,hg,hs⟩:=hw.tail.tail.head;have:=(hg.read.mono hs).cut k s.n s.c (by omega) hc (by omega);rw[←hn,List.take_length]at this;rw[←hn];exact this
  ·have hm:min (xs.drop k).length (s4.n - (k+1))=xs.length - k:=by rw[hld];omega
   have hl2:(xs.take k++[x]).length=k+1:=by rw[List.length_append,hlt];rfl
   have t1:(xs.take k++[x]++List.replicate (xs.length - k) FILE.zero++zs).take (k+1)=xs.take k++[x]:=by rw[List.append_assoc,List.take_left' hl2]
   have t2:(xs.take k++[x]++List.replicate (xs.length - k) FILE.zero++zs).drop (k+1+(xs.length - k))=zs:=by
    rw[List.drop_left' (by rw[List.length_append,hl2,List.length_replicate])]
   rw[hm,t1,t2,List.take_of_length_le (l:=xs.drop k) (by omega)];simp
  exact xar (QB5 1 (QB5 1 (QAD rfl)))
 ·-- in place
  have hroom:xs.length+1≤s.c:=by omega
  refine Qd8 0 fun zs hz1 hz2=>?_
  have hzl:zs≠[]:=fun e=>by subst e;simp at hz2;omega
  obtain⟨z0,zd,rfl⟩:=List.exists_cons_of_ne_nil hzl;refine QcD (xs.length+1) (xs++[z0]) zd (by simp) (by simp) ?_;refine QX3 rfl (by omega) (by omega) ?_;simp only[Int.toNat_natCast];rw[e2];refine QEh (by omega) (by first|omega|(dsimp only;omega)) (by first|omega|(dsimp only;omega)) (by first|omega|(dsimp only;omega)) ?_;simp only[Int.toNat_natCast];refine QhR (e:=140) Qfy (by kernel_rfl) (by kernel_rfl) (by simp) (by simp;omega) (by omega) (QBz rfl (QAO ?_));refine QEh (by omega) (by first|omega|(dsimp only;omega)) (by first|omega|(dsimp only;omega)) (by first|omega|(dsimp only;omega)) ?_;refine QEh (by omega) (by first|omega|(dsimp only;omega)) (by first|omega|(dsimp only;omega)) (by first|omega|(dsimp only;omega)) ?_;simp only[Int.toNat_natCast]
  have hU:(xs++[z0]).length=xs.length+1:=by simp
  have hUd:(xs++[z0]).drop k=xs.drop k++[z0]:=by rw[List.drop_append_of_le_length (by omega)]
  have hld:(xs.drop k).length=xs.length - k:=by simp
  have hUt:((xs++[z0]).take (k+1)).length=k+1:=by simp;omega
  refine QRY (s:=⟨s.p,xs.length+1,s.c⟩) (y:=(⟨s.p,xs.length+1,s.c⟩:Sl).cut k (xs.length+1) s.c 3) (ys:=(xs++[z0]).drop k) (fun w hw=>?_) ((xs++[z0]).take (k+1)++xs.drop k) zd (hrm:=by omega) (hlk:=by simp;omega) (hl:=by simp;omega) (he:=?_) (h:=fun n=>?_)
  ·obtain⟨g,hg,hs⟩:=hw.head;have:=(hg.read.mono hs).cut k (xs.length+1) s.c (by omega) hroom (by omega);rw[List.take_of_length_le (by omega)]at this;exact this
  ·have hm:min ((xs++[z0]).drop k).length (xs.length+1 - (k+1))=xs.length - k:=by rw[hUd,List.length_append,hld];simp only[List.length_singleton];omega
   have t1:(xs++[z0]++zd).take (k+1)=(xs++[z0]).take (k+1):=by rw[List.take_append_of_le_length (by rw[hU];omega)]
   have t2:(xs++[z0]++zd).drop (k+1+(xs.length - k))=zd:=by rw[List.drop_left' (by rw[hU];omega)]
   have t3:((xs++[z0]).drop k).take (xs.length - k)=xs.drop k:=by rw[hUd,List.take_left' hld]
   rw[hm,t1,t2,t3]
  refine QGD 1 (hv (QGD 1 ?_));refine QEh (by omega) (by first|omega|(dsimp only;omega)) (by first|omega|(dsimp only;omega)) (by first|omega|(dsimp only;omega)) ?_;simp only[Int.toNat_natCast];refine QRY (s:=⟨s.p,xs.length+1,s.c⟩) (y:=⟨some ⟨bv,0,none⟩,1,1⟩) (ys:=[x]) (fun w hw=>?_) (xs.take k++x::xs.drop k) zd (hrm:=by omega) (hlk:=by simp;omega) (hl:=by simp;omega) (he:=?_) (h:=fun n=>?_)
  ·obtain⟨g,hg,hs⟩:=hw.tail.head;exact hg.read.mono hs
  ·have hm:min [x].length (xs.length+1 - k)=1:=by simp;omega
   have t1:((xs++[z0]).take (k+1)++xs.drop k++zd).take k=xs.take k:=by
    rw[List.append_assoc,List.take_append_of_le_length (by rw[hUt];omega),List.take_take,Nat.min_eq_left (by omega),List.take_append_of_le_length (by omega)]
   have t2:((xs++[z0]).take (k+1)++xs.drop k++zd).drop (k+1)=xs.drop k++zd:=by rw[List.append_assoc,List.drop_left' hUt]
   rw[hm,t1,t2];simp
  exact xar (QB5 1 (QAD rfl))
end Go.Cx
namespace Go.Cx
open Go Go.Cf
set_option linter.unusedVariables false
variable {B:QBE}{As:List HP}
def QCB(c:CF)(f:DF):HP:=fun h=>c.1=f.nm∧c.2.2=f.sy∧Ar U8 c.2.1 f.b h
abbrev QBB(m:DM)(s:Sl):List Value:=[.bool m.armed,.bool m.down,.I m.left,.I m.room,s.v]
def QAC(p:Option Addr)(m:DM):HP:=fun h=>DInv m∧∃b s cs,p=some ⟨b,0,none⟩∧QBl [Blk b (QBB m s),Ar FILE s cs,Each QCB cs m.fs] h
structure SF(cs:List CF)(fs:List DF):Prop where
 len:cs.length=fs.length
 each:∀(i:Nat) (c:CF) (f:DF),cs[i]? = some c→fs[i]? = some f→c.1=f.nm∧c.2.2=f.sy∧c.2.1.n=f.b.length∧c.2.1.n≤c.2.1.c
theorem SF.names{cs:List CF}{fs:List DF}(h:SF cs fs):QRX cs fs:=⟨h.len,fun i c f a b=>(h.each i c f a b).1⟩
theorem QbF{cs:List CF}{fs:List DF}{g:QBe}(h:Each QCB cs fs g):SF cs fs:=
 ⟨h.length,fun i c f a b=>QDc (R:=QCB) (S:=fun c f _=>c.1=f.nm∧c.2.2=f.sy∧c.2.1.n=f.b.length∧c.2.1.n≤c.2.1.c) (fun _ _ _ _ h _=>h) (fun x y g ⟨h1,h2,zs,h3⟩=>⟨h1,h2,h3.1.symm,h3.cap⟩) h a b⟩
theorem QZn(i:Nat){p:Option Addr}{m:DM}{F:List HP}[q:Pick i As (QAC p m) F]{φ:WP}
  (k:DInv m→∀b s cs,p=some ⟨b,0,none⟩→SF cs m.fs→s.n=cs.length→Ent B (Blk b (QBB m s)::Ar FILE s cs::Each QCB cs m.fs::F) φ):Ent B As φ:=by
 refine Ent.perm q.perm ?_;intro w hw;obtain⟨g,⟨a,c,⟨hi,b,s,cs,hp,pa⟩,pc,d,sa,sc⟩,hm,hu⟩:=hw
 have hl:SF cs m.fs∧s.n=cs.length:=by
  obtain⟨_,_,_,⟨_,_,⟨_,par⟩,⟨_,_,pe,_⟩,_⟩,_⟩:=pa;exact⟨QbF pe,par.1.symm⟩
 exact k hi b s cs hp hl.1 hl.2 w ⟨g,(QAj [_,_,_] F).2 ⟨a,c,pa,pc,d,sa,sc⟩,hm,hu⟩
theorem QBD(b:Nat)(s:Sl)(cs:List CF){m:DM}{G:List HP}[q:Split [Blk b (QBB m s),Ar FILE s cs,Each QCB cs m.fs] As G]{φ:WP}
  (hi:DInv m) (k:Ent B (QAC (some ⟨b,0,none⟩) m::G) φ):Ent B As φ:=
 QBQ [Blk b (QBB m s),Ar FILE s cs,Each QCB cs m.fs] (QAC (some ⟨b,0,none⟩) m) (fun g hg=>⟨hi,b,s,cs,rfl,hg⟩) k
theorem QCE(i j l:Nat){P1 P2 P3:HP}{F F' F'':List HP}[p:Pick i As P1 F][q:Pick j F P2 F'][r:Pick l F' P3 F'']{φ:WP}(b:Nat)(s:Sl)(cs:List CF)(m:DM)(hi:DInv m)
  (h:∀g,QBl [P1,P2,P3] g→QBl [Blk b (QBB m s),Ar FILE s cs,Each QCB cs m.fs] g) (k:Ent B (QAC (some ⟨b,0,none⟩) m::F'') φ):Ent B As φ:=
 Qe1 i j l (fun g hg=>⟨hi,b,s,cs,rfl,h g hg⟩) k
theorem QFl(b:Nat)(s:Sl)(cs:List CF)(m:DM)(nm:ByteArray)(hs:Sorted m.fs)(sf:SF cs m.fs)(hl:m.fs.length≤64) :
  Ct Pr 87 [.pointer (some ⟨b,0,none⟩),.string nm] (.tup [none,none]) [.I,.bool] [Blk b (QBB m s),Ar FILE s cs] emp
  (fun t Bs=>t.1=(QAT m.fs nm.toList:Int)∧t.2.1=QAh m.fs nm.toList∧Bs=[Blk b (QBB m s),Ar FILE s cs]):=by
 refine sp2 (QEr _ _) fun B _=>?_;unfold QEr mf;dsimp only;refine QAQ (xgq ?_);refine xcl (QTc s cs m.fs nm hs sf.names hl) rdb ?_;rintro⟨r,c,_⟩ _ ⟨h1,h2,rfl⟩;exact QA5 (ca2 (QGD 1 (QAD ⟨h1,h2,rfl⟩)))
theorem QOY(nm:ByteArray):Ct Pr 88 [.string nm] .one [.bool] [] emp (fun t Bs=>t.1=QDT nm∧Bs=[]):=by
 refine sp1 (QKL _) fun B _=>?_;unfold QKL mf;dsimp only;exact QAD ⟨rfl,rfl⟩
theorem QGb(b:Nat)(s:Sl)(m:DM)(hl:i64 m.left)(ha:m.armed=true→0≤m.left) :
  Ct Pr 89 [.pointer (some ⟨b,0,none⟩)] .one [.bool] [Blk b (QBB m s)] emp (fun t Bs=>t.1=(QAu m).2∧Bs=[Blk b (QBB (QAu m).1 s)]):=by
 refine sp1 (QEk _) fun B _=>?_;unfold QEk mf;dsimp only;refine QAQ (xgq ?_);refine QAS (fun x As'=>x=(m.armed&&m.left == 0)∧As'=[Blk b (QBB m s)]) ?_ ?_
 ·intro J hJ;refine xif (fun h=>QAQ (xgq (hJ _ _ ⟨?_,rfl⟩))) (fun h=>hJ _ _ ⟨?_,rfl⟩)
  ·have h':m.armed=true:=h;simp[h']
  ·have h':m.armed=false:=h;simp[h']
 ·rintro _ _ ⟨rfl,rfl⟩;refine xif (fun h=>?_) (fun h=>?_)
  ·refine QAQ (xsq (QAD ⟨?_,?_⟩))
   ·simp[QAu,h]
   ·simp[QAu,h,QBB]
  ·refine QAQ (xgq (QAJ (xif (fun g=>?_) (fun g=>?_))))
   ·have g':m.armed=true:=g;have h0:=ha g'
    have hne:¬m.left=0:=fun e=>by simp[g',e]at h
    refine QAQ (xgq (QAQ (xsq ?_)))
    have e1:IntKind.i64.wrap (m.left - 1)=m.left - 1:=by unfold i64 at hl;exact QAB _ (by omega) (by omega)
    have hsp:QAu m=({ m with left:=m.left - 1 },true):=by
     unfold QAu;rw[h,if_neg (by simp),if_pos g']
    rw[hsp,e1];exact QAD ⟨rfl,rfl⟩
   ·have g':m.armed=false:=g;refine QAD ⟨?_,?_⟩<;>simp[QAu,g']
theorem Qbw(room:Int):Ct Pr 21 [.I room] (.tup [none,none]) [.ptr,.I] [] emp
  (fun t Bs=>(((room<0∨room>16777216)∧t.1=none∧t.2.1=3∧Bs=[])∨(0≤room∧room≤16777216∧t.2.1=0∧(∃b,t.1=some ⟨b,0,none⟩)∧Bs=[QAC t.1 ⟨false,false,0,room,[]⟩]))):=by
 refine sp2 (QNo _) fun B _=>?_;unfold QNo mf;dsimp only;refine xif (fun h=>?_) (fun h=>?_)
 ·refine QAD (.inl ⟨?_,rfl,rfl,rfl⟩);simpa using h
 ·have h':0≤room∧room≤16777216:=by simp at h;omega
  refine QAL fun b=>QAd FILE (QX1 (A:=Each QCB [] []) trivial ?_);refine QCE 2 1 0 b ⟨none,0,0⟩ [] ⟨false,false,0,room,[]⟩ ⟨List.Pairwise.nil,by simp,by simp,by simp[QBs];omega,h',by simp,⟨by simp,by simp⟩,fun h=>by cases h⟩ (fun _ h=>h) ?_;exact QAD (.inr ⟨h'.1,h'.2,rfl,⟨b,rfl⟩,rfl⟩)
theorem QVa(fs:List DF)(k:Nat)(h:k<fs.length):QBs (fs.take (k+1))=QBs (fs.take k)+fs[k].b.length:=by
 unfold QBs;rw[List.take_add_one,List.getElem?_eq_getElem h,List.map_append,List.sum_append];simp
theorem QOm(fs:List DF)(k:Nat):QBs (fs.take k)≤QBs fs:=by
 conv=>rhs;rw[←List.take_append_drop k fs]
 unfold QBs;rw[List.map_append,List.sum_append];omega
theorem Qal(b:Nat)(s:Sl)(cs:List CF)(m:DM)(hi:DInv m)(sf:SF cs m.fs) :
  Ct Pr 24 [.pointer (some ⟨b,0,none⟩)] .one [.I] [Blk b (QBB m s),Ar FILE s cs] emp (fun t Bs=>t.1=(QBs m.fs:Int)∧Bs=[Blk b (QBB m s),Ar FILE s cs]):=by
 refine sp1 (QEt _) fun B _=>?_;unfold QEt mf;dsimp only;have hu:=hi.used;have hroom:=hi.room;have hlen:=hi.len;refine QCm s fun hn _=>QAQ (xgq ?_);refine QBb (fun n u i As=>∃k:Nat,i=(k:Int)∧u=(QBs (m.fs.take k):Int)∧n=m.fs.length - k∧k≤m.fs.length∧As=[Blk b (QBB m s),Ar FILE s cs]) m.fs.length ⟨0,rfl,rfl,rfl,by omega,rfl⟩ ?_;rintro n _ _ _ K ⟨k,rfl,rfl,rfl,hk,rfl⟩ hK;have hcl:=sf.len;refine QAA (fun h=>?_) (fun h=>?_)
 ·have hf:=List.getElem?_eq_getElem (l:=m.fs) (i:=k) (by omega);have hc:=List.getElem?_eq_getElem (l:=cs) (i:=k) (by omega);obtain⟨_,_,h3,_⟩:=sf.each _ _ _ hc hf;have e:=QVa m.fs k (by omega);have hle:=QOm m.fs (k+1);refine QAH (h1:=by omega) (h:=fun _ _=>?_);refine QAN hc (h:=?_);refine QAZ hc (h:=?_);refine QAZ hc (h:=QAL fun b1=>xsq (xsq (xsq (xgq ?_))));rw[QAF k (by omega),h3,QAB _ (by omega) (by omega)];refine QB5 0 (hK (m.fs.length - (k+1)) _ _ _ (by omega) ⟨k+1,rfl,?_,rfl,by omega,rfl⟩);rw[e];show (_:Int)=_;simp
 ·have:k=m.fs.length:=by omega
  subst this;refine QAD ⟨?_,rfl⟩;rw[List.take_length]
theorem QUN(b:Nat)(s:Sl)(cs:List CF)(m:DM)(hi:DInv m)(sf:SF cs m.fs) :
  Ct Pr 72 [.pointer (some ⟨b,0,none⟩)] .one [.I] [Blk b (QBB m s),Ar FILE s cs] emp (fun t Bs=>t.1=m.room - (QBs m.fs:Int)∧Bs=[Blk b (QBB m s),Ar FILE s cs]):=by
 refine sp1 (QEm _) fun B _=>?_;unfold QEm mf;dsimp only;have hu:=hi.used;have hroom:=hi.room;refine QAO (QAQ (xgq ?_));refine xcl (Qal b s cs m hi sf) rdb ?_;rintro⟨r,_⟩ _ ⟨hr,rfl⟩;simp only at hr;subst hr;refine QBM (ca1 (QC6 (h:=?_)));rw[QAB _ (by omega) (by omega)];exact QAD ⟨rfl,rfl⟩
theorem QZU(p:Option Addr)(m:DM):Ct Pr 72 [.pointer p] .one [.I] [QAC p m] emp (fun t Bs=>t.1=m.room - (QBs m.fs:Int)∧Bs=[QAC p m]):=by
 refine QGr (φ:=QAb Pr 72 [.pointer p] .one [.I]) id fun B _=>?_;refine QZn 0 fun hi b s cs hp sf hn=>?_;subst hp;refine xcl (QUN b s cs m hi sf) rdb ?_;rintro⟨r,_⟩ _ ⟨hr,rfl⟩;exact QBM (ca1 (QBD b s cs hi (QAD ⟨hr,rfl⟩)))
theorem QMb(p:Option Addr)(m:DM):Ct Pr 74 [.pointer p] .one [.bool] [QAC p m] emp (fun t Bs=>t.1=m.down∧Bs=[QAC p m]):=by
 refine sp1 (QFT _) fun B _=>?_;unfold QFT mf;dsimp only;refine QZn 0 fun hi b s cs hp sf hn=>?_;subst hp;exact QAQ (xgq (QBD b s cs hi (QAD ⟨rfl,rfl⟩)))
theorem QIj(p:Option Addr)(m:DM)(nm:ByteArray):Ct Pr 77 [.pointer p,.string nm] (.tup [none,none]) [.slice,.I] [QAC p m] emp
  (fun t Bs=>t.2.1=(QAW m nm).2∧Bs=[QAC p m,Ar U8 t.1 (QAW m nm).1]):=by
 refine sp2 (QEn _ _) fun B _=>?_;unfold QEn mf;dsimp only;refine QZn 0 fun hi b s cs hp sf hsn=>?_;subst hp;refine xcl (QFl b s cs m nm hi.sorted sf hi.len) rdb ?_;rintro⟨r,c,_⟩ _ ⟨h1,h2,rfl⟩;simp only at h1 h2;subst h1 h2;refine QBM (ca2 (xif (fun h=>?_) (fun h=>?_)))
 ·have h':QAh m.fs nm.toList=false:=by simpa using h
  refine QAd U8 (QBD b s cs hi (QAD ?_));simp[QAW,h']
 ·have h':QAh m.fs nm.toList=true:=by simpa using h
  obtain⟨hf,_⟩:=QCO (d:=⟨nm,[],0⟩) h'
  have hlt:QAT m.fs nm.toList<cs.length:=by rw[sf.len];exact (List.getElem?_eq_some_iff.1 hf).1
  have hc:=List.getElem?_eq_getElem hlt
  have hb:(m.fs.getD (QAT m.fs nm.toList) ⟨nm,[],0⟩).b.length≤16777216:=by
   have h1:=QBi hf;have h2:=hi.used;have h3:=hi.room;omega
  refine QAQ (xgq ?_);refine QAH (h1:=hlt) (h:=fun _ _=>?_);refine QAZ hc (h:=?_);refine xcl (QIN _ (m.fs.getD (QAT m.fs nm.toList) ⟨nm,[],0⟩).b (by omega)) (QK1 2 (fun g hg=>QDc (R:=QCB) (S:=fun c f=>RAr U8 c.2.1 f.b) (fun _ _ _ _ h s=>h.mono s) (fun _ _ _ h=>h.2.2.read) hg hc hf) (fun _ _ h s=>h.mono s)) ?_;rintro⟨r,_⟩ _ rfl;refine QA5 (ca1 (QBD b s cs hi (QAD ?_)));simp[QAW,h']
theorem QWc(p:Option Addr)(m:DM):Ct Pr 23 [.pointer p] .one [.slice] [QAC p m] emp (fun t Bs=>Bs=[QAC p m,Ar ST t.1 (m.fs.map (·.nm))]):=by
 refine sp1 (QEK _) fun B _=>?_;unfold QEK mf;dsimp only;refine QZn 0 fun hi b s cs hp sf hsn=>?_;subst hp;have hlen:=hi.len;have hcl:=sf.len;refine QAQ (xgq (QAd ST ?_));refine QBb (fun n o i As=>∃k:Nat,i=(k:Int)∧n=m.fs.length - k∧k≤m.fs.length∧As=[Ar ST o ((m.fs.map fun f:DF=>f.nm).take k),Blk b (QBB m s),Ar FILE s cs,Each QCB cs m.fs]) m.fs.length ⟨0,rfl,rfl,by omega,rfl⟩ ?_;rintro n o _ _ K ⟨k,rfl,rfl,hk,rfl⟩ hK;refine QAA (fun h=>?_) (fun h=>?_)
 ·have hf:=List.getElem?_eq_getElem (l:=m.fs) (i:=k) (by omega);have hc:=List.getElem?_eq_getElem (l:=cs) (i:=k) (by omega);obtain⟨h1,_⟩:=sf.each _ _ _ hc hf;refine QAH (h1:=by omega) (h:=fun _ _=>?_);refine QAN hc (h:=?_);refine QAZ hc (h:=?_);refine QAZ hc (h:=QAL fun b1=>xsq (xsq (xsq (xgq (QAL fun b2=>?_)))));refine QEc cs[k].1 (hb:=by simp;omega) (h:=fun s'=>?_);rw[QAF k (by omega)];refine QB5 0 (hK (m.fs.length - (k+1)) _ _ _ (by omega) ⟨k+1,rfl,rfl,by omega,?_⟩);rw[List.take_add_one,List.getElem?_map,hf,h1];rfl
 ·have:k=m.fs.length:=by omega
  subst this;rw[List.take_of_length_le (by simp)];exact QBD b s cs hi (QAD rfl)
end Go.Cx
namespace Go.Cx
open Go Go.Cf
set_option linter.unusedVariables false
variable {B:QBE}{As:List HP}
theorem QFh{m:DM}{nm:ByteArray}{g:Nat→DF→DM→DM×Int}(h:m.down=true):QBk m nm g=(m,10):=by simp[QBk,h]
theorem QFg{m:DM}{nm:ByteArray}{g:Nat→DF→DM→DM×Int}(h:m.down=false)(ht:QAh m.fs nm.toList=false):QBk m nm g=(m,6):=by simp[QBk,h,ht]
theorem QJL{m:DM}{nm:ByteArray}{g:Nat→DF→DM→DM×Int}(h:m.down=false)(ht:QAh m.fs nm.toList=true):QBk m nm g=g (QAT m.fs nm.toList) (m.fs.getD (QAT m.fs nm.toList) ⟨nm,[],0⟩) m:=by
 unfold QBk;rw[h,ht];rfl
theorem QKn{m:DM}{g:DM→DM}(h:(QAu m).2=false):QE7 m g=((QAu m).1,10):=by simp[QE7,h]
theorem QKy{m:DM}{g:DM→DM}(h:(QAu m).2=true):QE7 m g=(g (QAu m).1,0):=by simp[QE7,h]
theorem QPW{cs:List CF}{fs:List DF}{k:Nat}{c c':CF}{f f':DF}(hc:cs[k]? = some c)(hf:fs[k]? = some f)(h:∀g,QCB c f g→QCB c' f' g)(g:QBe)(hg:Each QCB cs fs g):Each QCB (cs.set k c') (fs.set k f') g:=
 QDP (List.getElem?_eq_some_iff.1 hc).1 (List.getElem?_eq_some_iff.1 hf).1 (QA2 (h) (QCI hg hc hf))
theorem QPy{p:Option Addr}{m:DM}{nm:ByteArray}(hi:DInv m){cs:List CF}(sf:SF cs m.fs)(ht:QAh m.fs nm.toList=true) :
  ∃c f,cs[QAT m.fs nm.toList]? = some c∧m.fs[QAT m.fs nm.toList]? = some f∧m.fs.getD (QAT m.fs nm.toList) ⟨nm,[],0⟩=f∧c.1=f.nm∧c.2.2=f.sy∧c.2.1.n=f.b.length∧c.2.1.n≤c.2.1.c∧f.b.length≤16777216∧0≤f.sy∧f.sy≤f.b.length:=by
 obtain⟨hf,_⟩:=QCO (d:=⟨nm,[],0⟩) ht
 have hlt:QAT m.fs nm.toList<cs.length:=by rw[sf.len];exact (List.getElem?_eq_some_iff.1 hf).1
 have hc:=List.getElem?_eq_getElem hlt;obtain⟨h1,h2,h3,h4⟩:=sf.each _ _ _ hc hf;have h5:=hi.syn _ (List.mem_of_getElem? hf);refine⟨_,_,hc,hf,rfl,h1,h2,h3,h4,?_,h5.1,h5.2⟩;have h1:=QBi hf;have h2:=hi.used;have h3:=hi.room;omega
theorem QHD(p:Option Addr)(m:DM)(nm:ByteArray):Ct Pr 178 [.pointer p,.string nm] .one [.I] [QAC p m] emp
  (fun t Bs=>t.1=(QBK m nm).2∧Bs=[QAC p (QBK m nm).1]):=by
 refine sp1 (QEy _ _) fun B _=>?_;unfold QEy mf;dsimp only;refine QZn 0 fun hi b s cs hp sf hsn=>?_;subst hp;have hinv:=QPI hi nm;unfold QBK at hinv⊢;refine xcl (QFl b s cs m nm hi.sorted sf hi.len) rdb ?_;rintro⟨r,c,_⟩ _ ⟨h1,h2,rfl⟩;simp only at h1 h2;subst h1 h2;refine QBM (ca2 (QAQ (xgq (xif (fun hd=>?_) (fun hd=>xif (fun ht=>?_) (fun ht=>?_))))))
 ·rw[QFh hd];exact QBD b s cs hi (QAD ⟨rfl,rfl⟩)
 ·rw[QFg hd (by simpa using ht)];exact QBD b s cs hi (QAD ⟨rfl,rfl⟩)
 have ht:QAh m.fs nm.toList=true:=by simpa using ht
 rw[QJL hd ht]at hinv⊢;obtain⟨c,f,hc,hf,hgd,e1,e2,e3,_,hfb,_⟩:=QPy (p:=none) hi sf ht;rw[hgd]at hinv⊢;obtain⟨q1,q2⟩:=QCb m;refine QAQ ?_;refine xcl (QGb b s m hi.left.1 hi.left.2) rdb ?_;rintro⟨r,_⟩ _ ⟨hr,rfl⟩;simp only at hr;subst hr;refine QA5 (ca1 (xif (fun hsp=>?_) (fun hsp=>?_)))
 ·rw[QKn (by simpa using hsp)]at hinv⊢;exact QCE 0 0 0 b s cs (QAu m).1 hinv (fun _ h=>by rw[q1];exact h) (QAD ⟨rfl,rfl⟩)
 rw[QKy (by simpa using hsp)]at hinv⊢;have hlt:=(List.getElem?_eq_some_iff.1 hc).1;refine QAO (QAQ (xgq (QAQ (xgq ?_))));refine QAH (h1:=hlt) (h:=fun _ _=>?_);refine QAZ hc (h:=?_);refine QAH (h1:=hlt) (h:=fun _ _=>?_);refine QCx (c.1,c.2.1,(f.b.length:Int)) hc (hj:=by decide) (hv:=by simp[FILE,e3]) (h:=?_);refine QAe 2 (QPW (c':=(c.1,c.2.1,(f.b.length:Int))) (f':={ f with sy:=f.b.length }) hc hf (fun g h=>⟨h.1,rfl,h.2.2⟩)) ?_;exact QCE 1 1 0 b s (cs.set (QAT m.fs nm.toList) (c.1,c.2.1,(f.b.length:Int))) _ hinv (fun _ h=>by simp only[q1];exact h) (QAD ⟨rfl,rfl⟩)
theorem Qce{s:Sl}{xs:List UInt8}{k:Nat}(hk:k≤xs.length){g:QBe}(h:Ar U8 s xs g):Ar U8 ⟨s.p,k,s.c⟩ (xs.take k) g:=by
 obtain⟨zs,h⟩:=h;obtain⟨p,n,c⟩:=s;exact⟨xs.drop k++zs,h.shift (by rw[←List.append_assoc,List.take_append_drop]) (by simp;omega)⟩
theorem QIu(p:Option Addr)(m:DM)(nm:ByteArray)(n:Int):Ct Pr 177 [.pointer p,.string nm,.I n] .one [.I] [QAC p m] emp
  (fun t Bs=>t.1=(QBR m nm n).2∧Bs=[QAC p (QBR m nm n).1]):=by
 refine sp1 (QC8 _ _ _) fun B _=>?_;unfold QC8 mf;dsimp only;refine QZn 0 fun hi b s cs hp sf hsn=>?_;subst hp;have hinv:=QFd hi nm n;unfold QBR at hinv⊢;refine xcl (QFl b s cs m nm hi.sorted sf hi.len) rdb ?_;rintro⟨r,c,_⟩ _ ⟨h1,h2,rfl⟩;simp only at h1 h2;subst h1 h2;refine QBM (ca2 (QAQ (xgq (xif (fun hd=>?_) (fun hd=>xif (fun ht=>?_) (fun ht=>?_))))))
 ·rw[QFh hd];exact QBD b s cs hi (QAD ⟨rfl,rfl⟩)
 ·rw[QFg hd (by simpa using ht)];exact QBD b s cs hi (QAD ⟨rfl,rfl⟩)
 have ht:QAh m.fs nm.toList=true:=by simpa using ht
 rw[QJL hd ht]at hinv⊢;obtain⟨c,f,hc,hf,hgd,e1,e2,e3,e4,hfb,_,_⟩:=QPy (p:=none) hi sf ht;rw[hgd]at hinv⊢;have hlt:=(List.getElem?_eq_some_iff.1 hc).1;obtain⟨q1,q2⟩:=QCb m;refine QAS (fun x As'=>x=decide (n<0∨n>f.b.length)∧As'=[Blk b (QBB m s),Ar FILE s cs,Each QCB cs m.fs]) ?_ ?_
 ·intro J hJ;refine QAA (fun h=>hJ _ _ ⟨by simp[h],rfl⟩) (fun h=>?_);refine QAQ (xgq ?_);refine QAH (h1:=hlt) (h:=fun _ _=>?_);refine QAZ hc (h:=hJ _ _ ⟨?_,rfl⟩);rw[e3];simp[h]
 rintro _ _ ⟨rfl,rfl⟩;refine QAA (fun h=>?_) (fun h=>?_)
 ·rw[if_pos h];exact QBD b s cs hi (QAD ⟨rfl,rfl⟩)
 rw[if_neg h]at hinv⊢;refine QAQ ?_;refine xcl (QGb b s m hi.left.1 hi.left.2) rdb ?_;rintro⟨r,_⟩ _ ⟨hr,rfl⟩;simp only at hr;subst hr;refine QA5 (ca1 (xif (fun hsp=>?_) (fun hsp=>?_)))
 ·rw[QKn (by simpa using hsp)]at hinv⊢;exact QCE 0 0 0 b s cs (QAu m).1 hinv (fun _ h=>by rw[q1];exact h) (QAD ⟨rfl,rfl⟩)
 rw[QKy (by simpa using hsp)]at hinv⊢;refine QAQ (xgq ?_);refine QAH (h1:=hlt) (h:=fun _ _=>QAO (QAQ ?_));refine QAZ hc (h:=?_);refine QX3 rfl (by omega) (by omega) (QAQ ?_);refine QAZ hc (h:=QAQ ?_);refine QCx (c.1,⟨c.2.1.p,n.toNat,c.2.1.c⟩,c.2.2) hc (hj:=by decide) (hv:=by simp[FILE]) (h:=QAQ ?_);have hc2:(cs.set (QAT m.fs nm.toList) (c.1,⟨c.2.1.p,n.toNat,c.2.1.c⟩,c.2.2))[QAT m.fs nm.toList]? = some (c.1,⟨c.2.1.p,n.toNat,c.2.1.c⟩,c.2.2):=List.getElem?_set_self hlt;refine QCx (c.1,⟨c.2.1.p,n.toNat,c.2.1.c⟩,if n<f.sy then n else f.sy) hc2 (hj:=by decide) (hv:=by simp[FILE,e2]) (h:=?_);rw[List.set_set];refine QAe 2 (QPW (c':=(c.1,⟨c.2.1.p,n.toNat,c.2.1.c⟩,if n<f.sy then n else f.sy)) (f':={ f with b:=f.b.take n.toNat,sy:=if n<f.sy then n else f.sy }) hc hf (fun g h=>⟨h.1,rfl,Qce (by omega) h.2.2⟩)) ?_;exact QCE 1 1 0 b s (cs.set (QAT m.fs nm.toList) (c.1,⟨c.2.1.p,n.toNat,c.2.1.c⟩,if n<f.sy then n else f.sy)) _ hinv (fun _ h=>by simp only[q1];exact h) (QAD ⟨rfl,rfl⟩)
theorem QF8(p:Option Addr)(m:DM)(nm:ByteArray):Ct Pr 182 [.pointer p,.string nm] .one [.I] [QAC p m] emp
  (fun t Bs=>t.1=(QAV m nm).2∧Bs=[QAC p (QAV m nm).1]):=by
 refine sp1 (QDv _ _) fun B _=>?_;unfold QDv mf;dsimp only;refine QZn 0 fun hi b s cs hp sf hsn=>?_;subst hp;have hinv:=QJq hi nm;unfold QAV at hinv⊢;refine xcl (QFl b s cs m nm hi.sorted sf hi.len) rdb ?_;rintro⟨r,c,_⟩ _ ⟨h1,h2,rfl⟩;simp only at h1 h2;subst h1 h2;refine QBM (ca2 (QAQ (xgq (xif (fun hd=>?_) (fun hd=>xif (fun ht=>?_) (fun ht=>?_))))))
 ·rw[QFh hd];exact QBD b s cs hi (QAD ⟨rfl,rfl⟩)
 ·rw[QFg hd (by simpa using ht)];exact QBD b s cs hi (QAD ⟨rfl,rfl⟩)
 have ht:QAh m.fs nm.toList=true:=by simpa using ht
 rw[QJL hd ht]at hinv⊢;obtain⟨c,f,hc,hf,hgd,e1,e2,e3,e4,hfb,_,_⟩:=QPy (p:=none) hi sf ht;have hlt:=(List.getElem?_eq_some_iff.1 hc).1;have hlen:=hi.len;have hcl:=sf.len;obtain⟨q1,q2⟩:=QCb m;refine QAQ ?_;refine xcl (QGb b s m hi.left.1 hi.left.2) rdb ?_;rintro⟨r,_⟩ _ ⟨hr,rfl⟩;simp only at hr;subst hr;refine QA5 (ca1 (xif (fun hsp=>?_) (fun hsp=>?_)))
 ·rw[QKn (by simpa using hsp)]at hinv⊢;exact QCE 0 0 0 b s cs (QAu m).1 hinv (fun _ h=>by rw[q1];exact h) (QAD ⟨rfl,rfl⟩)
 rw[QKy (by simpa using hsp)]at hinv⊢;refine QAQ (xgq ?_);rw[QAF _ (by omega)];refine xcl (QLZ s cs (QAT m.fs nm.toList) hlt (by omega)) rdb ?_;rintro⟨s',_⟩ _ rfl;refine QA5 (ca1 (QAQ (xsq ?_)));refine QdZ 2 [QCB c f,Each QCB (cs.eraseIdx (QAT m.fs nm.toList)) (m.fs.eraseIdx (QAT m.fs nm.toList))] (fun g hg=>QCI hg hc hf) (QBM (QB5 0 ?_));exact QCE 2 1 0 b s' (cs.eraseIdx (QAT m.fs nm.toList)) _ hinv (fun _ h=>by simp only[q1];exact h) (QAD ⟨rfl,rfl⟩)
theorem QWt{α β:Type}{R:α→β→HP}:∀(k:Nat) {xs:List α}{ys:List β}{g:QBe},Each R xs ys g→QBl [Each R (xs.take k) (ys.take k),Each R (xs.drop k) (ys.drop k)] g:=by
 intro k
 induction k with
 | zero=>
  intro xs ys g h;exact⟨fun _=>none,g,(trivial:Each R [] [] _),QCh h,fun _=>.inl rfl,fun _ _ e=>(by cases e),Sub.refl _⟩
 | succ k ih=>
  intro xs ys g h
  cases xs with
  | nil=>
   cases ys with
   | cons=>exact h.elim
   | nil=>exact⟨fun _=>none,g,(trivial:Each R [] [] _),QCh h,fun _=>.inl rfl,fun _ _ e=>(by cases e),Sub.refl _⟩
  | cons x xs=>
   cases ys with
   | nil=>exact h.elim
   | cons y ys=>
    have h1:QBl [R x y,Each R (xs.take k) (ys.take k),Each R (xs.drop k) (ys.drop k)] g:=QBC (l:=[Each R xs ys]) (fun g hg=>by
     obtain⟨a,b,pa,_,_,sa,_⟩:=hg
     exact QCc _ (ih pa) sa) h
    exact QDL (l:=[R x y,Each R (xs.take k) (ys.take k)]) (fun g hg=>hg) h1
theorem QUh{α β:Type}{R:α→β→HP}{x:α}{y:β}(k:Nat){xs:List α}{ys:List β}{g:QBe}(h:QBl [R x y,Each R xs ys] g):Each R (xs.take k++x::xs.drop k) (ys.take k++y::ys.drop k) g:=by
 have h1:QBl [R x y,Each R (xs.take k) (ys.take k),Each R (xs.drop k) (ys.drop k)] g:=QBC (l:=[Each R xs ys]) (fun g hg=>by
  obtain⟨a,b,pa,_,_,sa,_⟩:=hg
  exact QCc _ (QWt k pa) sa) h
 have h2:QBl [Each R (xs.take k) (ys.take k),R x y,Each R (xs.drop k) (ys.drop k)] g:=QDV h1;refine QUB (QBC (l':=[Each R (x::xs.drop k) (y::ys.drop k)]) (fun g hg=>QCh hg) h2)
def QJs(m:DM)(nm:ByteArray):List DF:=if QAh m.fs nm.toList then m.fs else QMx m.fs (QAT m.fs nm.toList) ⟨nm,[],0⟩
theorem QYP(m:DM)(nm:ByteArray):∃f,(QJs m nm)[QAT m.fs nm.toList]? = some f∧(QJs m nm).getD (QAT m.fs nm.toList) ⟨nm,[],0⟩=f∧f.b.length≤QBs m.fs:=by
 unfold QJs
 cases ht:QAh m.fs nm.toList with
 | true=>
  obtain⟨hf,_⟩:=QCO (d:=⟨nm,[],0⟩) ht;simp only[if_true];refine⟨_,hf,rfl,?_⟩;have:=QBi hf;omega
 | false=>
  have h:=QO6 m.fs (QAT m.fs nm.toList) ⟨nm,[],0⟩ (QFn _ _);simp only[Bool.false_eq_true,if_false];exact⟨_,h,by simp[h],by simp⟩
theorem QVf{m:DM}{nm:ByteArray}{bs:List UInt8}(h1:QDT nm=true)(h2:m.down=false)(h3:((!(QAh m.fs nm.toList)&&decide ((m.fs.length:Int)≥64))||decide ((bs.length:Int)>m.room - QBs m.fs))=false)(h4:(QAu m).2=true) :
  QAM m nm bs=({ (QAu m).1 with fs:=(QJs m nm).set (QAT m.fs nm.toList) { ((QJs m nm).getD (QAT m.fs nm.toList) ⟨nm,[],0⟩) with b:=((QJs m nm).getD (QAT m.fs nm.toList) ⟨nm,[],0⟩).b++bs } },0):=by
 unfold QAM;rw[h1,h2,h3,h4];rfl
theorem QH3(p:Option Addr)(m:DM)(nm:ByteArray)(d:Sl)(bs:List UInt8):Ct Pr 30 [.pointer p,.string nm,d.v] .one [.I] [QAC p m] (RAr U8 d bs)
  (fun t Bs=>t.1=(QAM m nm bs).2∧Bs=[QAC p (QAM m nm bs).1]):=by
 refine sp1 (QD4 _ _ _) fun B hr=>?_;have fd:Fro B d U8 bs:=⟨hr⟩;have hdn:=hr.1;unfold QD4 mf;dsimp only;refine QZn 0 fun hi b s cs hp sf hsn=>?_;subst hp;have hinv:=QHV hi nm bs;have hlen:=hi.len;have hcl:=sf.len;have hu:=hi.used;have hroom:=hi.room;refine xcl (QFl b s cs m nm hi.sorted sf hi.len) rdb ?_;rintro⟨r,c,_⟩ _ ⟨h1,h2,rfl⟩;simp only at h1 h2;subst h1 h2;refine QBM (ca2 ?_);refine xcl (QOY nm) rdb ?_;rintro⟨c,_⟩ _ ⟨h1,rfl⟩;simp only at h1;subst h1;refine QAy (ca1 (xif (fun hn=>?_) (fun hn=>?_)))
 ·have e:QAM m nm bs=(m,8):=by unfold QAM;rw[if_pos hn]
  rw[e];exact QBD b s cs hi (QAD ⟨rfl,rfl⟩)
 have hn:QDT nm=true:=by simpa using hn
 refine QAQ (xgq (xif (fun hd=>?_) (fun hd=>?_)))
 ·have hd:m.down=true:=hd
  have e:QAM m nm bs=(m,10):=by unfold QAM;rw[hn,hd];rfl
  rw[e];exact QBD b s cs hi (QAD ⟨rfl,rfl⟩)
 have hd:m.down=false:=hd;refine QAS (fun x As'=>x=(!(QAh m.fs nm.toList)&&decide ((m.fs.length:Int)≥64))∧As'=[Blk b (QBB m s),Ar FILE s cs,Each QCB cs m.fs]) ?_ ?_
 ·intro J hJ;refine xif (fun h=>QAQ (xgq (hJ _ _ ⟨?_,rfl⟩))) (fun h=>hJ _ _ ⟨by rw[h];rfl,rfl⟩);rw[h,hsn,hcl];rfl
 rintro _ _ ⟨rfl,rfl⟩;refine QAS (fun x As'=>x=((!(QAh m.fs nm.toList)&&decide ((m.fs.length:Int)≥64))||decide ((bs.length:Int)>m.room - QBs m.fs))∧As'=[Blk b (QBB m s),Ar FILE s cs,Each QCB cs m.fs]) ?_ ?_
 ·intro J hJ;refine xif (fun h=>hJ _ _ ⟨by rw[h];rfl,rfl⟩) (fun h=>?_);refine xcl (QUN b s cs m hi sf) rdb ?_;rintro⟨r,_⟩ _ ⟨hr,rfl⟩;simp only at hr;subst hr;refine QBM (ca1 (hJ _ _ ⟨?_,rfl⟩));rw[h,←hdn];rfl
 rintro _ _ ⟨rfl,rfl⟩;refine xif (fun hfull=>?_) (fun hfull=>?_)
 ·have e:QAM m nm bs=(m,9):=by unfold QAM;rw[hn,hd,hfull];rfl
  rw[e];exact QBD b s cs hi (QAD ⟨rfl,rfl⟩)
 obtain⟨q1,q2⟩:=QCb m;refine QAQ ?_;refine xcl (QGb b s m hi.left.1 hi.left.2) rdb ?_;rintro⟨r,_⟩ _ ⟨hr,rfl⟩;simp only at hr;subst hr;refine QA5 (ca1 (xif (fun hsp=>?_) (fun hsp=>?_)))
 ·have hsp:(QAu m).2=false:=by simpa using hsp
  have e:QAM m nm bs=((QAu m).1,10):=by unfold QAM;rw[hn,hd,hfull,hsp];rfl
  rw[e]at hinv⊢;exact QCE 0 0 0 b s cs (QAu m).1 hinv (fun _ h=>by rw[q1];exact h) (QAD ⟨rfl,rfl⟩)
 have hsp:(QAu m).2=true:=by simpa using hsp
 rw[QVf hn hd hfull hsp]at hinv⊢
 have hbs:(bs.length:Int)≤m.room - QBs m.fs:=by
  have:=(Bool.or_eq_false_iff.1 hfull).2;simpa using this
 refine QBu (fun As'=>∃s' cs',As'=[Blk b (QBB (QAu m).1 s'),Ar FILE s' cs',Each QCB cs' (QJs m nm)]) ?_ ?_
 ·intro J hJ;refine xif (fun h=>?_) (fun h=>?_)
  ·have ht:QAh m.fs nm.toList=false:=by simpa using h
   have hle:=QFn m.fs nm.toList;refine QAQ (xgq (QeT fun b1=>?_));refine xcl (QMP s cs (QAT m.fs nm.toList) b1 (nm,⟨none,0,0⟩,0) (by omega) (by omega)) rdb ?_;rintro⟨s2,_⟩ _ rfl;refine QA5 (ca1 (QAQ (xsq ?_)));refine QX1 (A:=QCB (nm,⟨none,0,0⟩,0) ⟨nm,[],0⟩) ⟨rfl,rfl,[],rfl,rfl,.inl ⟨rfl,rfl⟩⟩ ?_;refine QRS 0 2 (Q:=Each QCB (cs.take (QAT m.fs nm.toList)++(nm,⟨none,0,0⟩,0)::cs.drop (QAT m.fs nm.toList)) (QJs m nm)) (fun g hg=>?_) ?_
   ·unfold QJs;rw[ht];exact QUh _ hg
   ·exact QAK [Blk b (QBB (QAu m).1 s2),Ar FILE s2 (cs.take (QAT m.fs nm.toList)++(nm,⟨none,0,0⟩,0)::cs.drop (QAT m.fs nm.toList)),Each QCB (cs.take (QAT m.fs nm.toList)++(nm,⟨none,0,0⟩,0)::cs.drop (QAT m.fs nm.toList)) (QJs m nm)] (hJ _ ⟨s2,_,rfl⟩)
  ·have ht:QAh m.fs nm.toList=true:=by simpa using h
   refine hJ _ ⟨s,cs,?_⟩;unfold QJs;rw[ht];rfl
 rintro _ ⟨s',cs',rfl⟩;obtain⟨f,hf,hgd,hfu⟩:=QYP m nm;rw[hgd]at hinv⊢;refine QBx 2 (fun g hg=>QbF hg) fun sf'=>?_
 have hlt:QAT m.fs nm.toList<cs'.length:=by rw[sf'.len];exact (List.getElem?_eq_some_iff.1 hf).1
 have hc:=List.getElem?_eq_getElem hlt;generalize cs'[QAT m.fs nm.toList]=c at hc;obtain⟨e1,e2,e3,e4⟩:=sf'.each _ _ _ hc hf
 generalize QAT m.fs nm.toList=i at *
 refine QAO (QAQ (xgq (QAQ (xgq ?_))));refine QAH (h1:=hlt) (h:=fun _ _=>?_);refine QAZ hc (h:=?_);refine QdZ 2 [QCB c f,Each QCB (cs'.eraseIdx i) ((QJs m nm).eraseIdx i)] (fun g hg=>QCI hg hc hf) (QBM ?_);refine QAe (Q:=Ar U8 c.2.1 f.b) 0 (fun g hg=>hg.2.2) ?_;refine QHb (y:=d) (hb:=by omega) (h:=fun s6=>QC6 (h:=?_));refine QAH (h1:=hlt) (h:=fun _ _=>?_);refine QCx (c.1,s6,c.2.2) hc (hj:=by decide) (hv:=rfl) (h:=?_);refine QRS 0 0 (Q:=Each QCB (cs'.set i (c.1,s6,c.2.2)) ((QJs m nm).set i { f with b:=f.b++bs })) (fun g hg=>?_) ?_
 ·exact QDP hlt (List.getElem?_eq_some_iff.1 hf).1 (QA2 (P:=Ar U8 s6 (f.b++bs)) (fun q hq=>(⟨e1,e2,hq⟩:QCB (c.1,s6,c.2.2) { f with b:=f.b++bs } q)) hg)
 exact QCE 1 1 0 b s' (cs'.set i (c.1,s6,c.2.2)) _ hinv (fun _ h=>h) (QAD ⟨rfl,rfl⟩)
theorem Qc8{f:DF}(keep:Int)(h:0≤f.sy∧f.sy≤f.b.length)(hb:f.b.length≤16777216) :
  IntKind.i64.wrap (f.sy+(if IntKind.i64.wrap ((f.b.length:Int) - f.sy)<if 0>keep then 0 else keep then IntKind.i64.wrap ((f.b.length:Int) - f.sy) else if 0>keep then 0 else keep))=QI9 keep f:=by
 rw[QAB ((f.b.length:Int) - f.sy) (by omega) (by omega)];have:=QP7 h keep;unfold QI9 at this⊢;rw[QAB _ (by omega) (by omega)]
end Go.Cx
namespace Go.Cx
open Go Go.Cf
set_option linter.unusedVariables false
variable {B:QBE}{As:List HP}
theorem Qdk(r:Nat):Int.fdiv (r:Int) (2 ^ (min (Int.toNat 1) 32))=((r / 2:Nat):Int):=by
 have e:(2:Int) ^ (min (Int.toNat 1) 32)=2:=by decide
 rw[e,Int.fdiv_eq_ediv_of_nonneg _ (by omega)];omega
theorem QaD(r:Nat)(h:r<4294967296):(if (bits .and .u32 (r:Int) 1 == 1)=true then bits .xor .u32 (Int.fdiv (r:Int) (2 ^ (min (Int.toNat 1) 32))) 3988292384 else Int.fdiv (r:Int) (2 ^ (min (Int.toNat 1) 32)))=((Qdt r:Nat):Int):=by
 have e1:bits .and .u32 (r:Int) 1=((r % 2:Nat):Int):=by
  have:=u32_and_nat r 1 h (by decide);rw[Nat.and_one_is_mod]at this;exact this
 rw[e1,Qdk];unfold Qdt;by_cases g:r % 2=1
 ·rw[if_pos (by rw[g];rfl),if_pos g];exact u32_xor_nat (r / 2) 3988292384 (by omega) (by decide)
 ·rw[if_neg (by simp;omega),if_neg g]
theorem QQr(crc:Nat)(hc:crc<4294967296)(b:Sl)(xs:List UInt8)(hm:xs.length≤140737488351232):Ct Pr 247 [.int .u32 (crc:Int),b.v] .one [.int .u32] [] (RAr U8 b xs) (fun t Bs=>t.1=(QFZ crc xs:Int)∧Bs=[]):=by
 refine sp1 (QL2 _ _) fun B hr=>?_;have fb:Fro B b U8 xs:=⟨hr⟩;have hb:=hr.1;unfold QL2 mf;dsimp only;have e0:bits .xor .u32 4294967295 (crc:Int)=((4294967295 ^^^ crc:Nat):Int):=u32_xor_nat 4294967295 crc (by decide) hc;rw[e0];have hi:4294967295 ^^^ crc<4294967296:=QHQ (by decide) hc;refine QBb (fun(n:Nat) (r:Int) (i:Int) As=>∃k:Nat,i=(k:Int)∧r=(QZ3 (4294967295 ^^^ crc) (xs.take k):Int)∧n=xs.length - k∧k≤xs.length∧As=[]) xs.length ⟨0,rfl,rfl,rfl,by omega,rfl⟩ ?_;rintro n _ _ _ K ⟨k,rfl,rfl,rfl,hk,rfl⟩ hK;have hlt:=QSm (xs.take k) hi
 have hs:k<xs.length→QZ3 (4294967295 ^^^ crc) (xs.take (k+1))=QbU (QZ3 (4294967295 ^^^ crc) (xs.take k)) (xs.getD k 0).toNat:=fun h=>by
  rw[List.take_add_one,List.getElem?_eq_getElem h];show QZ3 _ (xs.take k++[xs[k]])=_;rw[QXc,List.getD_eq_getElem?_getD,List.getElem?_eq_getElem h];rfl
 generalize hr':QZ3 (4294967295 ^^^ crc) (xs.take k)=r at *
 refine QAA (fun h=>?_) (fun h=>?_)
 ·have hkl:k<xs.length:=by omega
  have hx:=List.getElem?_eq_getElem hkl;have hy:=QGe xs[k];have hs:=hs hkl;rw[List.getD_eq_getElem?_getD,hx]at hs;simp only[Option.getD_some]at hs
  generalize xs[k]=y at *
  refine QAH (h1:=hkl) (h:=fun _ _=>?_);refine QAN hx (h:=?_)
  have e1:bits .xor .u32 (r:Int) (IntKind.u32.wrap (y.toNat:Int))=((r ^^^ y.toNat:Nat):Int):=by
   rw[QEv y.toNat (by omega)];exact u32_xor_nat r y.toNat hlt (by omega)
  rw[e1];have h2:r ^^^ y.toNat<4294967296:=QHQ hlt (by omega);refine QBb (fun(n:Nat) (r1:Int) (i:Int) As=>∃j:Nat,i=(j:Int)∧r1=(QTv j (r ^^^ y.toNat):Int)∧n=8 - j∧j≤8∧As=[]) 8 ⟨0,rfl,rfl,rfl,by omega,rfl⟩ ?_;rintro n _ _ _ K2 ⟨j,rfl,rfl,rfl,hj,rfl⟩ hK2;have hl2:=QPw j h2;refine QAA (fun h=>?_) (fun h=>?_)
  ·have hstep:QTv (j+1) (r ^^^ y.toNat)=Qdt (QTv j (r ^^^ y.toNat)):=rfl
   generalize QTv j (r ^^^ y.toNat)=q at *
   have eb:=QaD q hl2;refine QA6 (by decide) (QAJ ?_);rw[QAF j (by omega)];refine xif (fun g=>?_) (fun g=>?_)
   ·rw[if_pos g]at eb;rw[eb];exact hK2 (8 - (j+1)) _ _ _ (by omega) ⟨j+1,rfl,by rw[hstep],rfl,by omega,rfl⟩
   ·rw[if_neg (by rw[g];simp)]at eb;rw[eb];exact hK2 (8 - (j+1)) _ _ _ (by omega) ⟨j+1,rfl,by rw[hstep],rfl,by omega,rfl⟩
  ·have:j=8:=by omega
   subst this;rw[QAF k (by omega)];refine hK (xs.length - (k+1)) _ _ _ (by omega) ⟨k+1,rfl,?_,rfl,by omega,rfl⟩;rw[hs];rfl
 ·have:k=xs.length:=by omega
  subst this;rw[List.take_length]at hr';refine QAD ⟨?_,rfl⟩;rw[show bits .xor .u32 4294967295 (r:Int)=((4294967295 ^^^ r:Nat):Int) from u32_xor_nat 4294967295 r (by decide) hlt,←hr'];rfl
end Go.Cx
namespace Go.Cx
open Go Go.Cf
set_option linter.unusedVariables false
variable {B:QBE}{As:List HP}
theorem QOo(b:Sl)(xs:List UInt8)(hm:xs.length≤140737488351232):Ct Pr 157 [b.v] .one [.int .u32] [] (RAr U8 b xs) (fun t Bs=>t.1=(QFZ 0 xs:Int)∧Bs=[]):=by
 refine sp1 (QNS _) fun B hr=>?_;have fb:Fro B b U8 xs:=⟨hr⟩;unfold QNS mf;dsimp only;refine xcl (QQr 0 (by decide) b xs hm) rdb ?_;rintro⟨r,_⟩ _ ⟨h,rfl⟩;exact QAy (ca1 (QAD ⟨h,rfl⟩))
theorem QOT(p:Sl)(xs:List UInt8)(hm:xs.length≤65535):Ct Pr 264 [p.v] .one [.int .u32] [] (RAr U8 p xs) (fun t Bs=>t.1=(QWz xs:Int)∧Bs=[]):=by
 refine sp1 (QLR _) fun B hr=>?_;have fb:Fro B p U8 xs:=⟨hr⟩;have hp:=hr.1;unfold QLR mf;dsimp only;refine QA6 (by decide) ?_;rw[QCw p.n _ 256 (by decide),QAr,QAr,←hp];refine QAL fun b=>?_;refine QAe (Q:=Ar U8 ⟨some ⟨b,0,none⟩,2,2⟩ (hdN xs.length)) 0 (fun g hg=>⟨[],QAm (hdN xs.length) 2 rfl rfl hg⟩) ?_;refine xcl (QOo ⟨some ⟨b,0,none⟩,2,2⟩ (hdN xs.length) (by show 2≤_;omega)) rdb ?_;rintro⟨r,_⟩ _ ⟨h,rfl⟩;simp only at h;subst h;refine QAy (ca1 ?_);refine xcl (QQr (QFZ 0 (hdN xs.length)) (Qab (by decide) _) p xs (by omega)) rdb ?_;rintro⟨r,_⟩ _ ⟨h,rfl⟩;exact QAy (ca1 (QB5 0 (QAD ⟨h,rfl⟩)))
end Go.Cx
namespace Go.Cf
open Go
set_option linter.unusedVariables false
variable {B:QBE}{As:List HP}{α:Type}
theorem QYn{P:Program}{t e:TypeId}{sz by_:Nat}{z:List Value}[a:QIH P t e sz by_ z](E:Enc α)(n c:Nat){K:Sl→WP}(h0:n≤c)(hb:c*by_≤140737488355328)(hsz:E.sz=sz:=by rfl)(hz:E.f E.zero=z:=by rfl)
  (h:∀b,Ent B (Ars E ⟨some ⟨b,0,none⟩,n,c⟩ (List.replicate n E.zero) (List.replicate (c - n) E.zero)::As) (K ⟨some ⟨b,0,none⟩,n,c⟩)):Ent B As (QeB P t (.I (n:Int)) (.I (c:Int)) K):=by
 intro w hw;obtain⟨i,z0,ht,hi,hsize,hbytes,hpos,hz0,hzs⟩:=QBq a.ok;obtain⟨i',z',hi',hz',hzf⟩:=QCM a.zero
 obtain rfl:i'=i:=by rw[hi]at hi';exact (Option.some.inj hi').symm
 obtain rfl:z'=z0:=by rw[hz0]at hz';exact (Option.some.inj hz').symm
 have hle:c≤c*by_:=Nat.le_mul_of_pos_right _ hpos
 have hr:=run_make (P:=P) w t e i' z' ht hi hz0 .i64 .i64 (n:Int) (c:Int) (by omega) (by omega) (by
  have:((i'.bytes*c:Nat):Int)≤281474976710656:=by rw[hbytes,Nat.mul_comm];omega
  rw[Int.natCast_mul]at this
  exact this) (by omega)
 rw[hsize,QHg _ _ _ hzs,←hzf,←hz,QEf]at hr;refine⟨⟨some ⟨w.heap.size,0,none⟩,n,c⟩,_,hr,h w.heap.size _ ?_⟩;obtain⟨g,hg,hm,hu⟩:=hw.alloc (QAf E (List.replicate c E.zero)) e;refine⟨g,QA2 (fun q hq=>?_) hg,hm,hu⟩;refine Ars.of_blk (pre:=[]) (post:=[]) (b:=w.heap.size) (o:=0) ?_ rfl rfl (by simp) (by simp;omega) (by show c≤_;omega);rw[List.replicate_append_replicate,show n+(c - n)=c by omega];simpa using hq
theorem Qd1{P:Program}{t u ty e:TypeId}{sz by_:Nat}{z:List Value}[a:QIH P t e sz by_ z]{E:Enc α}{s y:Sl}{xs zs ys:List α}{F:List HP}{K:Int→WP}
  (hy:∀w,Sx B (Ars E s xs zs::F) w→RAr E y ys (mem w)) (hsz:E.sz=sz:=by rfl) (hl:ys.length=xs.length) (hn:xs.length=s.n) (hc:s.n≤s.c)
  (h:∀n,Ent B (Ars E s ys zs::F) (K n)):Ent B (Ars E s xs zs::F) (QbH P t u ty s.v y.v K):=by
 have e:s.cut 0 s.n s.c sz=s:=QHM s s.n sz
 have:=QRY (P:=P) (t:=t) (u:=u) (ty:=ty) (K:=K) (s:=s) (y:=y) (l:=0) (r:=s.n) (m:=s.c) (sz:=sz) (xs:=xs) (zs:=zs) (ys:=ys) (F:=F) (B:=B) hy ys zs (hsz:=hsz) (hrm:=hc) (hlk:=by omega) (hl:=hl) (he:=by
  have:min ys.length (s.n - 0)=xs.length:=by omega
  rw[this,Nat.zero_add,List.drop_left,List.take_zero,List.take_of_length_le (by omega)];rfl) (h:=h)
 rw[e]at this;exact this
end Go.Cf
namespace Go.Cx
open Go Go.Cf
set_option linter.unusedVariables false
variable {B:QBE}{As:List HP}
theorem QFw(p:Sl)(xs:List UInt8)(hm:xs.length≤1024):Ct Pr 192 [p.v] (.tup [none,none]) [.slice,.I] [] (RAr U8 p xs) (fun t Bs=>t.2.1=0∧Bs=[Ar U8 t.1 (QAn xs)]):=by
 refine sp2 (QIs _) fun B hr=>?_;have fb:Fro B p U8 xs:=⟨hr⟩;have hp:=hr.1;unfold QIs mf;dsimp only;refine QBF (by rw[←hp];simp;omega) ?_;refine xcl (QOT p xs (by omega)) rdb ?_;rintro⟨r,_⟩ _ ⟨h,rfl⟩;simp only at h;subst h;refine QAy (ca1 ?_);rw[show IntKind.i64.wrap (6+(p.n:Int))=((6+xs.length:Nat):Int) by rw[QAB _ (by omega) (by omega)];omega];refine QYn U8 6 (6+xs.length) (by omega) (by omega) (h:=fun b=>?_);refine QA6 (by decide) (QA6 (by decide) (QA6 (by decide) (QA6 (by decide) ?_)));rw[QCw p.n _ 256 (by decide),QAr,QAr,←hp,QCw (QWz xs) _ 16777216 (by decide),QCw (QWz xs) _ 65536 (by decide),QCw (QWz xs) _ 256 (by decide),QAr,QAr,QAr,QAr];refine QAL fun b1=>?_;refine QAe (Q:=Ar U8 ⟨some ⟨b1,0,none⟩,6,6⟩ (hdN xs.length++Qep (QWz xs))) 0 (fun g hg=>⟨[],QAm (hdN xs.length++Qep (QWz xs)) 6 rfl rfl hg⟩) (QGD 1 ?_);refine Qd1 (y:=⟨some ⟨b1,0,none⟩,6,6⟩) (ys:=hdN xs.length++Qep (QWz xs)) (fun w hw=>?_) (hl:=by rw[List.length_replicate];rfl) (hn:=by rw[List.length_replicate]) (hc:=by simp only;omega) (h:=fun n=>?_)
 ·obtain⟨g,hg,hs⟩:=hw.tail.head;exact hg.read.mono hs
 refine xar ?_;refine QHb (y:=p) (hb:=by rw[show (hdN xs.length++Qep (QWz xs)).length=6 from rfl];omega) (h:=fun s1=>?_);exact QB5 1 (QAD ⟨rfl,rfl⟩)
theorem QOD(a b i:Nat)(h:b<2 ^ i):(a*2 ^ i) ||| b=a*2 ^ i+b:=by
 rw[←Nat.shiftLeft_eq];exact (Nat.shiftLeft_add_eq_or_of_lt h a).symm
theorem QWs(a b:Nat)(ha:a<65536)(hb:b<65536):bits .or .i64 (a:Int) (b:Int)=((a ||| b:Nat):Int):=by
 have hx:a ||| b<2 ^ 16:=Nat.or_lt_two_pow (by omega) (by omega);show IntKind.i64.wrap ((BitVec.ofInt 64 (a:Int) ||| BitVec.ofInt 64 (b:Int)).toNat:Int)=_;rw[BitVec.toNat_or,ofInt_u64 a (by omega),ofInt_u64 b (by omega),QAB _ (by omega) (by omega)]
theorem QOb(x y:UInt8):bits .or .i64 (IntKind.i64.wrap ((IntKind.i64.wrap (x.toNat:Int))*2 ^ (min (Int.toNat 8) 64))) (IntKind.i64.wrap (y.toNat:Int))=((x.toNat*256+y.toNat:Nat):Int):=by
 have hx:=QGe x;have hy:=QGe y
 have e:(2:Int) ^ (min (Int.toNat 8) 64)=256:=by decide
 rw[e,QAB (x.toNat:Int) (by omega) (by omega),QAB ((x.toNat:Int)*256) (by omega) (by omega),QAB (y.toNat:Int) (by omega) (by omega)]
 have e2:((x.toNat:Int)*256)=((x.toNat*256:Nat):Int):=by omega
 rw[e2,QWs _ _ (by omega) (by omega)];rw[show x.toNat*256=x.toNat*2 ^ 8 from rfl,QOD _ _ 8 (by omega)]
theorem QeK(a b c d:UInt8):bits .or .u32 (bits .or .u32 (bits .or .u32 (IntKind.u32.wrap ((IntKind.u32.wrap (a.toNat:Int))*2 ^ (min (Int.toNat 24) 32))) (IntKind.u32.wrap ((IntKind.u32.wrap (b.toNat:Int))*2 ^ (min (Int.toNat 16) 32)))) (IntKind.u32.wrap ((IntKind.u32.wrap (c.toNat:Int))*2 ^ (min (Int.toNat 8) 32)))) (IntKind.u32.wrap (d.toNat:Int))=(((((a.toNat*256+b.toNat)*256+c.toNat)*256+d.toNat:Nat)):Int):=by
 have ha:=QGe a;have hb:=QGe b;have hc:=QGe c;have hd:=QGe d
 generalize a.toNat=a at *
 generalize b.toNat=b at *
 generalize c.toNat=c at *
 generalize d.toNat=d at *
 have e1:(2:Int) ^ (min (Int.toNat 24) 32)=16777216:=by decide
 have e2:(2:Int) ^ (min (Int.toNat 16) 32)=65536:=by decide
 have e3:(2:Int) ^ (min (Int.toNat 8) 32)=256:=by decide
 rw[e1,e2,e3,QEv a (by omega),QEv b (by omega),QEv c (by omega),QEv d (by omega)]
 have f1:IntKind.u32.wrap ((a:Int)*16777216)=((a*16777216:Nat):Int):=by rw[show ((a:Int)*16777216)=((a*16777216:Nat):Int) by omega,QEv _ (by omega)]
 have f2:IntKind.u32.wrap ((b:Int)*65536)=((b*65536:Nat):Int):=by rw[show ((b:Int)*65536)=((b*65536:Nat):Int) by omega,QEv _ (by omega)]
 have f3:IntKind.u32.wrap ((c:Int)*256)=((c*256:Nat):Int):=by rw[show ((c:Int)*256)=((c*256:Nat):Int) by omega,QEv _ (by omega)]
 rw[f1,f2,f3]
 have g1:a*16777216 ||| b*65536=(a*256+b)*65536:=by
  rw[show a*16777216=a*2 ^ 24 from rfl,QOD _ _ 24 (by omega)];omega
 have g2:(a*256+b)*65536 ||| c*256=((a*256+b)*256+c)*256:=by
  rw[show (a*256+b)*65536=(a*256+b)*2 ^ 16 from rfl,QOD _ _ 16 (by omega)];omega
 have g3:((a*256+b)*256+c)*256 ||| d=((a*256+b)*256+c)*256+d:=by
  rw[show ((a*256+b)*256+c)*256=((a*256+b)*256+c)*2 ^ 8 from rfl,QOD _ _ 8 (by omega)]
 rw[u32_or_nat _ _ (by omega) (by omega),g1,u32_or_nat _ _ (by omega) (by omega),g2,u32_or_nat _ _ (by omega) (by omega),g3]
theorem QFi(b:Sl)(xs:List UInt8)(hm:xs.length≤140737488351232)(hcap:b.n≤b.c):Ct Pr 183 [b.v] (.tup [none,none,none]) [.slice,.I,.I] [] (RAr U8 b xs)
  (fun t Bs=>t.2.1=((QBN xs).2.1:Int)∧t.2.2.1=(QBN xs).2.2∧Bs=[Ar U8 t.1 (QBN xs).1]):=by
 refine sp3 (QQE _) fun B hr=>?_;have fb:Fro B b U8 xs:=⟨hr⟩;have hb:=hr.1;unfold QQE mf;dsimp only;refine QAA (fun h=>?_) (fun h=>?_)
 ·refine QAd U8 (QAD ?_);unfold QBN;rw[if_pos (by omega)];exact⟨rfl,rfl,rfl⟩
 have h6:6≤xs.length:=by omega
 have x0:=List.getElem?_eq_getElem (l:=xs) (i:=0) (by omega);have x1:=List.getElem?_eq_getElem (l:=xs) (i:=1) (by omega);have x2:=List.getElem?_eq_getElem (l:=xs) (i:=2) (by omega);have x3:=List.getElem?_eq_getElem (l:=xs) (i:=3) (by omega);have x4:=List.getElem?_eq_getElem (l:=xs) (i:=4) (by omega);have x5:=List.getElem?_eq_getElem (l:=xs) (i:=5) (by omega)
 have hfl:QFy xs=xs[0].toNat*256+xs[1].toNat:=by unfold QFy;rw[QCf x0,QCf x1]
 have hcr:QV9 xs=((xs[2].toNat*256+xs[3].toNat)*256+xs[4].toNat)*256+xs[5].toNat:=by unfold QV9;rw[QCf x2,QCf x3,QCf x4,QCf x5]
 generalize xs[0]=y0 at *
 generalize xs[1]=y1 at *
 generalize xs[2]=y2 at *
 generalize xs[3]=y3 at *
 generalize xs[4]=y4 at *
 generalize xs[5]=y5 at *
 refine QAO ?_;refine QAH (k:=0) (h1:=by omega) (h:=fun _ _=>?_);refine QAN x0 (h:=QA6 (by decide) ?_);refine QAH (k:=1) (h1:=by omega) (h:=fun _ _=>?_);refine QAN x1 (h:=?_);rw[QOb y0 y1,←hfl];refine QAA (fun g=>?_) (fun g=>?_)
 ·refine QAd U8 (QAD ?_);unfold QBN;rw[if_neg (by omega),if_pos (by omega)];exact⟨rfl,rfl,rfl⟩
 rw[show IntKind.i64.wrap (6+((QFy xs:Nat):Int))=((6+QFy xs:Nat):Int) by rw[QAB _ (by omega) (by omega)];omega];refine QAA (fun g2=>?_) (fun g2=>?_)
 ·refine QAd U8 (QAD ?_);unfold QBN;rw[if_neg (by omega),if_neg (by omega),if_pos (by omega)];exact⟨rfl,rfl,rfl⟩
 have hgo:QBN xs=if QV9 xs=QWz ((xs.take (6+QFy xs)).drop 6) then ((xs.take (6+QFy xs)).drop 6,6+QFy xs,0) else ([],0,5):=by
  unfold QBN;rw[if_neg (by omega),if_neg (by omega),if_neg (by omega)]
 have fc:Fro B (b.cut 6 (6+QFy xs) b.c 1) U8 ((xs.take (6+QFy xs)).drop 6):=⟨hr.cut 6 (6+QFy xs) b.c (by omega) (by omega) (by omega)⟩
 have hpl:((xs.take (6+QFy xs)).drop 6).length=QFy xs:=by simp;omega
 generalize (xs.take (6+QFy xs)).drop 6=q at *
 refine QAL fun b1=>?_;refine QAe (Q:=Ar U8 ⟨some ⟨b1,0,none⟩,0,0⟩ []) 0 (fun g hg=>⟨[],QAm [] 0 rfl rfl hg⟩) ?_;refine QEh (by omega) (by omega) (by omega) (by omega) ?_;simp only[Int.toNat_natCast];refine QHb (s:=⟨some ⟨b1,0,none⟩,0,0⟩) (y:=b.cut 6 (6+QFy xs) b.c 1) (hb:=by rw[hpl];simp;omega) (h:=fun s1=>?_);rw[List.nil_append];refine QAO ?_;refine QAH (k:=2) (h1:=by omega) (h:=fun _ _=>?_);refine QAN x2 (h:=QA6 (by decide) ?_);refine QAH (k:=3) (h1:=by omega) (h:=fun _ _=>?_);refine QAN x3 (h:=QA6 (by decide) ?_);refine QAH (k:=4) (h1:=by omega) (h:=fun _ _=>?_);refine QAN x4 (h:=QA6 (by decide) ?_);refine QAH (k:=5) (h1:=by omega) (h:=fun _ _=>?_);refine QAN x5 (h:=?_);refine xcl (QOT s1 q (by omega)) rdb ?_;rintro⟨r,_⟩ _ ⟨hs,rfl⟩;simp only at hs;subst hs;refine QAy (ca1 ?_);refine QM1 x5 (h:=?_);refine QM1 x4 (h:=?_);refine QM1 x3 (h:=?_);refine QM1 x2 (h:=?_);rw[QeK,←hcr];refine xif (fun e=>?_) (fun e=>?_)
 ·have e:¬QV9 xs=QWz q:=by simp at e;omega
  rw[hgo,if_neg e];exact QB5 0 (QAd U8 (QAD ⟨rfl,rfl,rfl⟩))
 ·have e:QV9 xs=QWz q:=by simp at e;omega
  rw[hgo,if_pos e];exact QAD ⟨rfl,rfl,rfl⟩
end Go.Cx
namespace Go.Cf
open Go
set_option linter.unusedVariables false
variable {B:QBE}{As:List HP}{α:Type}
theorem QfF{P:Program}{t u ty e:TypeId}{sz by_:Nat}{z:List Value}[a:QIH P t e sz by_ z]{E:Enc α}{s y:Sl}{xs zs ys:List α}{F:List HP}{K:Int→WP}
  (hy:∀w,Sx B (Ars E s xs zs::F) w→RAr E y ys (mem w)) (hsz:E.sz=sz:=by rfl) (hl:ys.length≤xs.length) (hn:xs.length=s.n) (hc:s.n≤s.c)
  (h:∀n,Ent B (Ars E s (ys++xs.drop ys.length) zs::F) (K n)):Ent B (Ars E s xs zs::F) (QbH P t u ty s.v y.v K):=by
 have e:s.cut 0 s.n s.c sz=s:=QHM s s.n sz
 have:=QRY (P:=P) (t:=t) (u:=u) (ty:=ty) (K:=K) (s:=s) (y:=y) (l:=0) (r:=s.n) (m:=s.c) (sz:=sz) (xs:=xs) (zs:=zs) (ys:=ys) (F:=F) (B:=B) hy (ys++xs.drop ys.length) zs (hsz:=hsz) (hrm:=hc) (hlk:=by omega) (hl:=by simp;omega) (he:=by
  have:min ys.length (s.n - 0)=ys.length:=by omega
  rw[this,Nat.zero_add,List.take_zero,List.take_of_length_le (by omega),List.drop_append_of_le_length hl];simp) (h:=h)
 rw[e]at this;exact this
end Go.Cf
namespace Go.Cx
open Go Go.Cf
set_option linter.unusedVariables false
variable {B:QBE}{As:List HP}
theorem QaQ:∀k:Nat,k<8→(2:Int) ^ (min (Int.toNat (IntKind.i64.wrap (8*(k:Int)))) 64)=((256 ^ k:Nat):Int)∧0≤IntKind.i64.wrap (8*(k:Int)):=by decide
end Go.Cx
namespace Go.Cx
open Go Go.Cf
set_option linter.unusedVariables false
variable {B:QBE}{As:List HP}
theorem QfW(v:Nat)(y:UInt8)(hv:v<72057594037927936):bits .or .u64 (IntKind.u64.wrap ((v:Int)*2 ^ (min (Int.toNat 8) 64))) (IntKind.u64.wrap (y.toNat:Int))=((v*256+y.toNat:Nat):Int):=by
 have hy:=QGe y
 have e:(2:Int) ^ (min (Int.toNat 8) 64)=256:=by decide
 rw[e,show (v:Int)*256=((v*256:Nat):Int) by omega,QPO _ (by omega),QPO _ (by omega),u64_or_nat _ _ (by omega) (by omega),show v*256=v*2 ^ 8 from rfl,QOD _ _ 8 (by omega)]
structure Cu where
 a:Int
 b:Int
 c:Int
abbrev QdN:Int:=1099511627776
def okN(x:Int):Bool:=decide (0≤x)&&decide (x≤QdN)
def QYz(c:Cu):Bool:=okN c.a&&(okN c.b&&okN c.c)
abbrev Cu.v(c:Cu):Value:=.agg #[.I c.a,.I c.b,.I c.c]
theorem QWW{cs:List Value}{k n:Nat}{s:Sh}{x:s.ty}{K:s.ty→WP}(h:cs[k]? = some (s.mk x))(hk:k<n)(hK:Ent B As (K x)):Ent B As (QRs cs (k:Int) n s K):=
 fun w hw=>⟨by omega,by omega,x,by rw[Int.toNat_natCast];exact h,hK w hw⟩
theorem QZh(x:Int):(decide (x<0)||decide (x>QdN)) = !(okN x):=by
 show _ = !(decide (0≤x)&&decide (x≤1099511627776));by_cases h1:x<0<;>by_cases h2:x>1099511627776<;>simp[h1,h2] <;> omega
end Go.Cx
namespace Go.Cx
open Go Go.Cf
set_option linter.unusedVariables false
variable {B:QBE}{As:List HP}
theorem QOH(s:Sl)(xs:List UInt8){h:QBe}(hr:RAr U8 s xs h)(at':Nat)(ha:at'≤xs.length)(hcap:s.n≤s.c):RAr U8 (s.cut at' s.n s.c 1) (xs.drop at') h:=by
 have:=hr.cut at' s.n s.c (by have:=hr.1;omega) hcap (by rw[hr.1];exact Nat.le_refl _);rw[List.take_of_length_le (by rw[hr.1];exact Nat.le_refl _)]at this;exact this
theorem QRj(b:Sl)(xs:List UInt8)(hm:xs.length≤16777216)(hcap:b.n≤b.c):Ct Pr 176 [b.v] (.tup [none,none]) [.slice,.I] [] (RAr U8 b xs)
  (fun t Bs=>t.2.1=((QAv xs).2:Int)∧∃rs,Bs=[Ar SL t.1 rs,Each (Ar U8) rs (QAv xs).1]):=by
 refine sp2 (QNz _) fun B hr=>?_;have fb:Fro B b U8 xs:=⟨hr⟩;have hb:=hr.1;have hlen:=(QIf xs.length xs (Nat.le_refl _)).2.1;unfold QNz mf;dsimp only;refine QAd SL ?_;refine QX1 (A:=Each (Ar U8) [] []) trivial ?_;refine QBb (fun n l i As=>∃(k:Nat) (rs:List Sl) (done:List (List UInt8)),i=(k:Int)∧n=xs.length - k∧k≤xs.length∧QAv xs=(done++(QAv (xs.drop k)).1,k+(QAv (xs.drop k)).2)∧As=[Each (Ar U8) rs done,Ar SL l rs]) xs.length ⟨0,[],[],rfl,rfl,by omega,by simp,rfl⟩ ?_;rintro n l _ _ K ⟨k,rs,done,rfl,rfl,hk,hsc,rfl⟩ hK;refine QEh (by omega) (by omega) (by omega) (by omega) ?_;simp only[Int.toNat_natCast];have hdl:(xs.drop k).length=xs.length - k:=List.length_drop;refine xcl (pre:=[]) (G:=[Each (Ar U8) rs done,Ar SL l rs]) (QFi (b.cut k b.n b.c 1) (xs.drop k) (by omega) (by simp only[Sl.cut];omega)) (QKF fun g hg _ _ _=>(QOH b xs hr k hk hcap).mono hg) ?_;rintro⟨s1,r,r1,_⟩ _ ⟨h1,h2,rfl⟩;simp only at h1 h2;subst h1 h2;refine QA5 (ca3 ?_);refine xif (fun h=>?_) (fun h=>?_)
 ·have h:¬(QBN (xs.drop k)).2.2=0:=by simpa using h
  rw[QLw h]at hsc;refine QAK [Ar SL l rs,Each (Ar U8) rs done] (QAD ⟨?_,rs,?_⟩)
  ·rw[hsc];simp
  ·rw[hsc];simp
 ·have h:(QBN (xs.drop k)).2.2=0:=by simpa using h
  obtain⟨g1,g2,_⟩:=QLS h;rw[QS8 h]at hsc;refine QBx 1 (fun g hg=>Each.length hg) fun hrl=>?_
  have hdn:done.length+1≤xs.length:=by
   have:=congrArg (fun p=>p.1.length) hsc;simp only[List.length_append,List.length_cons]at this;omega
  refine QAL fun b1=>?_;refine QEc s1 (hb:=by omega) (h:=fun s2=>?_);rw[show IntKind.i64.wrap ((k:Int)+((QBN (xs.drop k)).2.1:Int))=((k+(QBN (xs.drop k)).2.1:Nat):Int) by rw[QAB _ (by omega) (by omega)];omega];refine QBQ [Each (Ar U8) rs done,Ar U8 s1 (QBN (xs.drop k)).1] (Each (Ar U8) (rs++[s1]) (done++[(QBN (xs.drop k)).1])) (fun g hg=>QEL hg) ?_;refine hK (xs.length - (k+(QBN (xs.drop k)).2.1)) _ _ _ (by omega) ⟨k+(QBN (xs.drop k)).2.1,rs++[s1],done++[(QBN (xs.drop k)).1],rfl,rfl,by omega,?_,rfl⟩;rw[List.drop_drop]at hsc;rw[hsc];simp[Nat.add_assoc]
end Go.Cx
namespace Go.Cx
open Go Go.Cf
set_option linter.unusedVariables false
end Go.Cx
namespace Go.Cx
open Go Go.Cf
set_option linter.unusedVariables false
variable {B:QBE}{As:List HP}
theorem QGf(b:Sl)(xs:List UInt8)(a:Nat)(ha:a+8≤xs.length)(hm:xs.length≤140737488351232)(hcap:b.n≤b.c):Ct Pr 184 [b.v,.I (a:Int),.I 8] (.tup [none,none]) [.int .u64,.I] [] (RAr U8 b xs)
  (fun t Bs=>t.1=(beV (QKm xs a):Int)∧t.2.1=0∧Bs=[]):=by
 refine sp2 (QUQ _ _ _) fun B hr=>?_;have fb:Fro B b U8 xs:=⟨hr⟩;have hb:=hr.1;unfold QUQ mf;dsimp only;refine QBF rfl (QBF ?_ ?_)
 ·rw[QAB _ (by omega) (by omega)];simp;omega
 rw[show IntKind.i64.wrap ((a:Int)+8)=((a+8:Nat):Int) by rw[QAB _ (by omega) (by omega)];omega];refine QEh (by omega) (by omega) (by omega) (by omega) ?_;simp only[Int.toNat_natCast];have fc:Fro B (b.cut a (a+8) b.c 1) U8 (QKm xs a):=⟨hr.cut a (a+8) b.c (by omega) (by omega) (by omega)⟩;have hq:=QVV ha;have hsn:=fc.rd.1;refine QBb (fun(n:Nat) (v:Int) (i:Int) As=>∃k:Nat,i=(k:Int)∧v=((beV ((QKm xs a).take k):Nat):Int)∧n=8 - k∧k≤8∧As=[]) 8 ⟨0,rfl,rfl,rfl,by omega,rfl⟩ ?_;rintro n _ _ _ K ⟨k,rfl,rfl,rfl,hk,rfl⟩ hK;refine QAA (fun h=>?_) (fun h=>?_)
 ·have hk8:k<8:=by omega
  have hx:=List.getElem?_eq_getElem (l:=QKm xs a) (i:=k) (by omega);refine QAH (h1:=by omega) (h:=fun _ _=>?_);refine QAN hx (h:=QA6 (by decide) ?_);rw[QfW _ _ (QJH hq hk8),QAF k (by omega)];exact hK (8 - (k+1)) _ _ _ (by omega) ⟨k+1,rfl,by rw[QKp hx],rfl,by omega,rfl⟩
 ·have hk8:k=8:=by omega
  subst hk8;rw[List.take_of_length_le (by omega)];exact QAD ⟨rfl,rfl,rfl⟩
end Go.Cx
