/-
All formulas.
-/
import Derived.Test.YthbhbkjkclhkgaaGreatDoorF0
import Derived.Test.YthbhbkjkclhkgaaGreatDoorF1
import Derived.Test.YthbhbkjkclhkgaaGreatDoorF2
import Derived.Test.YthbhbkjkclhkgaaGreatDoorF3
import Derived.Test.YthbhbkjkclhkgaaGreatDoorF4
import Derived.Test.YthbhbkjkclhkgaaGreatDoorF5
import Derived.Test.YthbhbkjkclhkgaaGreatDoorF6
import Derived.Test.YthbhbkjkclhkgaaGreatDoorF7
import Derived.Test.YthbhbkjkclhkgaaGreatDoorFX
import Derived.Test.YthbhbkjkclhkgaaGreatDoorA4
import Derived.Test.YthbhbkjkclhkgaaGreatDoorA3
import Derived.Laws.BitsAllLaws

namespace Go.Cx
open Go Go.Cf
set_option linter.unusedVariables false
theorem QDG{B:QBG}{F:List HP}{P Q:HP}(h1:Rds B F P)(h2:Rds B F Q):Rds B F (P.and Q):=fun w hp hF a b c d e=>⟨h1 w hp hF a b c d e,h2 w hp hF a b c d e⟩
theorem QIH(l:Sl)(xs:List UInt8)(hm:xs.length≤140737488351232) :
  Ct Pr 52 [l.v] .one [.slice] [] (RAr U8 l xs) (fun t Bs=>Bs=[Ar U8 t.1 xs]):=by
 refine sp1 (QBL _) fun B hr=>?_;have fa:Fro B l U8 xs:=⟨hr⟩;have ha:=hr.1;unfold QBL mf;dsimp only;refine xif (fun h=>?_) (fun h=>?_)
 ·have:xs=[]:=by
   refine List.eq_nil_of_length_eq_zero ?_;rw[ha];rcases Nat.eq_zero_or_pos l.n with h0|h0
   ·exact h0
   ·obtain⟨b,o,_,_,_,_,hp,_⟩:=hr.2.2 h0;rw[hp]at h;simp[QCv]at h
  subst this;exact QAd U8 (QAE rfl)
 ·refine QAL fun b=>?_;refine QhV 0 (Bs:=[Ar U8 ⟨some ⟨b,0,none⟩,0,0⟩ []]) (fun g hg=>?_) (QA8 ?_)
  ·exact⟨g,fun _=>none,⟨[],QAm [] 0 rfl rfl hg⟩,trivial,fun _=>.inr rfl,Sub.refl _,fun _ _ e=>by cases e⟩
  refine QHX (s:=⟨some ⟨b,0,none⟩,0,0⟩) (xs:=[]) (ys:=xs) (hb:=by simp;omega) (h:=fun s'=>?_);exact QAE (by simp)
variable {B:QBG}{As:List HP}
abbrev CF:=ByteArray×Sl×Int
def FILE:Enc CF:=⟨fun x=>[.string x.1,x.2.1.v,.I x.2.2],3,fun _=>rfl,fun x v h=>by simp at h;rcases h with rfl|rfl|rfl<;>rfl,by decide,(ByteArray.empty,⟨none,0,0⟩,0)⟩
theorem QFC(x:ByteArray):Ct Pr 229 [.string x] .one [.bool] [] emp (fun t Bs=>t.1=false∧Bs=[]):=by
 refine sp1 (QFT _) fun B _=>?_;unfold QFT mf;dsimp only;exact QAE ⟨by simp,rfl⟩
def QcI(a b:Key):Int:=if lt a b then -1 else if a=b then 0 else 1
theorem QCG(x y:ByteArray):Ct Pr 146 [.string x,.string y] .one [.I] [] emp (fun t Bs=>t.1=QcI x.toList y.toList∧Bs=[]):=by
 refine sp1 (QEK _ _) fun B _=>?_;unfold QEK mf;dsimp only;refine xcl (QFC x) rdb ?_;rintro⟨c,_⟩ _ ⟨hc,rfl⟩;obtain rfl:c=false:=hc;refine QAz (ca1 ?_);refine xcl (QFC y) rdb ?_;rintro⟨c,_⟩ _ ⟨hc,rfl⟩;obtain rfl:c=false:=hc;refine QAz (ca1 (QBF rfl (QBF rfl (xif (fun h=>?_) (fun h=>?_)))))
 ·exact QAE ⟨by simp[QcI,lt,h],rfl⟩
 ·refine xif (fun h2=>?_) (fun h2=>?_)
  ·refine QAE ⟨?_,rfl⟩
   have:¬x.toList=y.toList:=fun e=>by rw[e]at h2;simp at h2
   simp[QcI,lt,h,this]
  ·refine QAE ⟨?_,rfl⟩
   have:x.toList=y.toList:=by simpa [h]using h2
   show (0:Int)=_;rw[QcI,this,lt_irrefl];simp
theorem QOD(c:CF)(nm:ByteArray):Ct Pr 145 [.agg #[.string c.1,c.2.1.v,.I c.2.2],.string nm] .one [.I] [] emp (fun t Bs=>t.1=QcI c.1.toList nm.toList∧Bs=[]):=by
 refine sp1 (QDo _ _ _ _) fun B _=>?_;unfold QDo mf;dsimp only;refine QAL fun b=>xgq ?_;refine xcl (QCG c.1 nm) rdb ?_;rintro⟨r,_⟩ _ ⟨hr,rfl⟩;exact QAz (ca1 (QB1 0 (QAE ⟨hr,rfl⟩)))
theorem Qen(i j:Nat)(h:i+j≤1000000):IntKind.i64.wrap (Int.fdiv (IntKind.u64.wrap (IntKind.i64.wrap ((i:Int)+(j:Int)))) (2 ^ (min (Int.toNat 1) 64)))=(((i+j) / 2:Nat):Int):=by
 rw[QAD ((i:Int)+(j:Int)) (by omega) (by omega)]
 have e1:(2 ^ IntKind.u64.bits:Int)=18446744073709551616:=by decide
 have e3:IntKind.u64.signed=false:=rfl
 have e:IntKind.u64.wrap ((i:Int)+(j:Int))=(i:Int)+j:=by
  simp only[IntKind.wrap,e1,e3,Bool.false_and];simp;omega
 rw[e]
 have e4:(2:Int) ^ (min (Int.toNat 1) 64)=2:=by decide
 rw[e4,Int.fdiv_eq_ediv_of_nonneg _ (by omega),QAD _ (by omega) (by omega)];omega
def QQ8(cs:List CF)(fs:List DF):Prop:=cs.length=fs.length∧∀(i:Nat) (c:CF) (f:DF),cs[i]? = some c→fs[i]? = some f→c.1=f.nm
theorem QTE(s:Sl)(cs:List CF)(fs:List DF)(nm:ByteArray)(hs:Sorted fs)(hn:QQ8 cs fs)(hl:fs.length≤64):Ct Pr 144 [s.v,.string nm,.func (.func 145) #[] #[]] (.tup [none,none]) [.I,.bool] [Ar FILE s cs] emp
  (fun t Bs=>t.1=(QAT fs nm.toList:Int)∧t.2.1=QAi fs nm.toList∧Bs=[Ar FILE s cs]):=by
 refine sp2 (QAl _ _) fun B _=>?_;unfold QAl mf;dsimp only;refine QCn s fun hn1 _=>?_;obtain⟨hcl,hnm⟩:=hn;refine QBb (fun n i j As=>∃a b:Nat,i=(a:Int)∧j=(b:Int)∧n=b - a∧a≤b∧b≤fs.length∧(∀t f,t<a→fs[t]? = some f→lt f.key nm.toList=true)∧(∀t f,b≤t→fs[t]? = some f→lt f.key nm.toList=false)∧As=[Ar FILE s cs]) fs.length ⟨0,fs.length,rfl,by rw[←hcl,hn1],by omega,by omega,by omega,fun t f h=>by omega,fun t f h hf=>?_,rfl⟩ ?_
 ·have:=(List.getElem?_eq_some_iff.1 hf).1;omega
 rintro n _ _ _ K ⟨a,b,rfl,rfl,rfl,hab,hb,hlo,hhi,rfl⟩ hK;refine QAB (fun h=>?_) (fun h=>?_)
 ·rw[Qen a b (by omega)]
  have hm1:(a+b) / 2<fs.length:=by omega
  have hf:=List.getElem?_eq_getElem (l:=fs) hm1;have hc:=List.getElem?_eq_getElem (l:=cs) (i:=(a+b) / 2) (by omega);have hnm':=hnm _ _ _ hc hf;refine QA6 (by decide) ?_;refine QAI (h1:=by omega) (h:=fun _ _=>?_);refine QAO hc (h:=?_);refine QAb hc (h:=?_);refine QAb hc (h:=?_);refine xcl (QOD cs[(a+b) / 2] nm) rdb ?_;rintro⟨r,_⟩ _ ⟨hr,rfl⟩;simp only at hr;rw[hnm']at hr;subst hr;refine QAz (ca1 (QAJ (QAB (fun g=>?_) (fun g=>?_))))
  ·have hlt:lt fs[(a+b) / 2].key nm.toList=true:=by
    unfold QcI at g;split at g
    ·assumption
    ·split at g<;>omega
   rw[QAF _ (by omega)];refine hK (b - ((a+b) / 2+1)) _ _ _ (by omega) ⟨(a+b) / 2+1,b,rfl,rfl,rfl,by omega,hb,fun t f ht hft=>?_,hhi,rfl⟩;rcases Nat.lt_or_ge t ((a+b) / 2) with h'|h'
   ·exact lt_trans (hs.get h' hft hf) hlt
   ·obtain rfl:t=(a+b) / 2:=by omega
    rw[hf]at hft;cases hft;exact hlt
  ·have hge:lt fs[(a+b) / 2].key nm.toList=false:=by
    cases hh:lt fs[(a+b) / 2].key nm.toList with
    | false=>rfl
    | true=>exact absurd (show QcI _ _<0 by simp only[DF.key]at hh;simp[QcI,hh]) g
   refine hK ((a+b) / 2 - a) _ _ _ (by omega) ⟨a,(a+b) / 2,rfl,rfl,rfl,by omega,by omega,hlo,fun t f ht hft=>?_,rfl⟩;rcases Nat.lt_or_ge ((a+b) / 2) t with h'|h'
   ·cases hh:lt f.key nm.toList with
    | false=>rfl
    | true=>have:=lt_trans (hs.get h' hf hft) hh;rw[hge]at this;cases this
   ·obtain rfl:t=(a+b) / 2:=by omega
    rw[hf]at hft;cases hft;exact hge
 ·have hab':a=b:=by omega
  subst hab';have he:QAT fs nm.toList=a:=QUZ hb hlo (fun f hf=>hhi a f (Nat.le_refl _) hf);refine QAJ (QAB (fun g=>?_) (fun g=>?_))
  ·have ha:a<fs.length:=by omega
   have hf:=List.getElem?_eq_getElem (l:=fs) ha;have hc:=List.getElem?_eq_getElem (l:=cs) (i:=a) (by omega);have hnm':=hnm _ _ _ hc hf;refine QAI (h1:=by omega) (h:=fun _ _=>?_);refine QAO hc (h:=?_);refine QAb hc (h:=?_);refine QAb hc (h:=?_);refine xcl (QOD cs[a] nm) rdb ?_;rintro⟨r,_⟩ _ ⟨hr,rfl⟩;simp only at hr;rw[hnm']at hr;refine QAz (ca1 (QAE ⟨by rw[he],?_,rfl⟩));show (r == 0)=_;have hge:=hhi a _ (Nat.le_refl _) hf;unfold QAi;rw[he,hf,hr];simp only[DF.key]at hge⊢;rw[Bool.eq_iff_iff];simp only[QcI,hge,Bool.false_eq_true,if_false,beq_iff_eq];constructor
   ·intro h;by_cases e:fs[a].nm.toList=nm.toList
    ·exact e
    ·rw[if_neg e]at h;cases h
   ·intro h;rw[if_pos h]
  ·refine QAE ⟨by rw[he],?_,rfl⟩;unfold QAi;rw[he,List.getElem?_eq_none (by omega)]
theorem Qga(args:Array Value)(w:World):(callFunc 147 args).run Pr w=((Extern.SlicesOverlaps.overlaps #[134,134] #[4] args).run Pr w).andThen fun v w'=>.ok (.value v) w':=
 run_callFunc_extern (fn:=Go.Proofs.Tryz.f147) (by kernel_rfl) (by kernel_rfl) (by kernel_rfl) (by kernel_rfl) (by kernel_rfl) args w
theorem QLl(s:Sl)(rs:List CF)(k:Nat)(hk:k<rs.length)(h63:rs.length≤9223372036854775807):Ct Pr 263 [s.v,.I (k:Int),.I ((k+1:Nat):Int)] .one [.slice] [Ar FILE s rs] emp
  (fun t Bs=>Bs=[Ar FILE t.1 (rs.eraseIdx k)]):=by
 refine sp1 (QBH _ _ _) fun B _=>?_;unfold QBH mf;dsimp only;refine QCn s fun hl hc=>?_;refine QEf (by omega) (by omega) (by omega) (by omega) ?_;refine QBF (by simp;omega) (QAP ?_);refine QEf (by omega) (by omega) (by omega) (by omega) ?_;refine QEf (by omega) (by omega) (by omega) (by omega) ?_;refine Qes 0 fun zs _ hzl=>?_;obtain⟨p,n,c⟩:=s;simp only at hl hc hzl;refine Qcu k (rs.take k) (rs.drop k++zs) (by rw[←List.append_assoc,List.take_append_drop]) (by simp;omega) ?_;have e1:(⟨p,n,c⟩:Sl).cut (Int.toNat 0) (Int.toNat (k:Int)) (Int.toNat ((c:Nat):Int)) 3=⟨p,k,c⟩:=QHN ⟨p,n,c⟩ k 3;rw[e1];show Ent B (Ars FILE ⟨p,k,c⟩ (rs.take k) (rs.drop k++zs)::[]) _;refine Qdt (ys:=rs.drop (k+1)) (fun g hg=>?_) (by simp;omega) (by omega) (h:=?_)
 ·have h1:Ars FILE ⟨p,n,c⟩ rs zs g:=hg.shift (by rw[←List.append_assoc,List.take_append_drop]) hl;have h2:=h1.read.cut (k+1) n c (by omega) hc (by omega);rw[List.take_of_length_le (by omega)]at h2;exact h2
 have e2:k+((⟨p,n,c⟩:Sl).cut (Int.toNat ((k+1:Nat):Int)) (Int.toNat (n:Int)) (Int.toNat (c:Int)) 3).n=n - 1:=by
  show k+((n:Int).toNat - ((k+1:Nat):Int).toNat)=n - 1;omega
 rw[e2];refine QEf (by simp) (by simp only;omega) (by simp only;omega) (by simp) ?_
 have hlen:(rs.take k++rs.drop (k+1)).length=n - 1:=by simp;omega
 have e3:Int.toNat (((n - 1:Nat)):Int)=(rs.take k++rs.drop (k+1)).length:=by rw[hlen];rfl
 show Ent B _ (Qcg Pr 134 0 (Sl.cut ⟨p,n - 1,c⟩ (Int.toNat ((n - 1:Nat):Int)) (Int.toNat (n:Int)) (Int.toNat (c:Int)) 3).v _);rw[e3];refine QhM (by rw[hlen];simp only[Int.toNat_natCast];omega) (by rw[hlen];simp only[Int.toNat_natCast];omega) (by rw[hlen];simp only[Int.toNat_natCast,List.length_drop,List.length_append];omega) (by simp only;omega) (h:=?_);refine QAE ?_;rw[List.eraseIdx_eq_take_drop_succ]
theorem QMY(s:Sl)(xs:List CF)(k:Nat)(bv:Nat)(x:CF)(hk:k≤xs.length)(hl:xs.length≤1000):Ct Pr 90 [s.v,.I (k:Int),.slice (some ⟨bv,0,none⟩) 1 1] .one [.slice] [Ar FILE s xs,BlkS bv [.string x.1,x.2.1.v,.I x.2.2]] emp
  (fun t Bs=>Bs=[Ar FILE t.1 (xs.take k++x::xs.drop k)]):=by
 refine sp1 (fun K=>QBI _ _ ⟨some ⟨bv,0,none⟩,1,1⟩ K) fun B _=>?_;unfold QBI mf;dsimp only;refine QCn s fun hn hc=>?_
 have hv:∀{As F:List HP}{φ:WP} [p:Find (BlkS bv [.string x.1,x.2.1.v,.I x.2.2]) As F],Ent B (Ar FILE ⟨some ⟨bv,0,none⟩,1,1⟩ [x]::F) φ→Ent B As φ:=fun {As F φ p} h=>
  Ent.perm p.perm (QHe (fun _ hg=>QA2 (fun g hg=>⟨[],QAm [x] 1 rfl (by simp[QAg,FILE]) hg.blk⟩) hg) h)
 refine QEf (by omega) (by omega) (by omega) (by omega) (QBF rfl (xif (fun h=>?_) (fun h=>?_)))
 ·have hkn : k = xs.length := by have : (k : Int) = (s.n : Int) := by simpa using h
                                 omega
  subst hkn;refine hv ?_;refine QHX (y:=⟨some ⟨bv,0,none⟩,1,1⟩) (hb:=by simp;omega) (h:=fun s'=>?_);refine QB1 0 (QAE ?_);rw[List.take_length,List.drop_length]
 have hkn : k < xs.length := by have : ¬(k : Int) = (s.n : Int) := by simpa using h
                                omega
 have e1:IntKind.i64.wrap ((s.n:Int)+((1:Nat):Int))=((xs.length+1:Nat):Int):=by rw[QAD _ (by omega) (by omega)];omega
 have e2:IntKind.i64.wrap ((k:Int)+((1:Nat):Int))=((k+1:Nat):Int):=by rw[QAD _ (by omega) (by omega)];omega
 rw[e1];refine QAB (fun h=>?_) (fun h=>?_)
 ·-- a new array
  refine QZe rfl (by omega) (by omega) ?_;rw[Int.toNat_natCast]
  have e3:IntKind.i64.wrap (((xs.length+1:Nat):Int) - (k:Int))=((xs.length+1 - k:Nat):Int):=by rw[QAD _ (by omega) (by omega)];omega
  rw[e3];refine Qf1 (k0:=.i64) (E:=FILE) (s:=⟨s.p,k,s.c⟩) (xs:=xs.take k) (by kernel_rfl) (fun w hw=>?_) (by omega) (by simp only;omega) (by simp only;omega) (h:=fun s4 h4 h4c=>?_)
  ·obtain⟨g,hg,hs⟩:=hw.head;have:=(hg.read.mono hs).cut 0 k s.c (Nat.zero_le _) (by omega) hk;rw[QHN,List.drop_zero]at this;exact this
  simp only at h4
  have h4':s4.n=xs.length+1:=by omega
  refine QEf (by omega) (by omega) (by omega) (by omega) ?_;simp only[Int.toNat_natCast];refine QGK 2 (hv (QGK 1 (Qes 0 fun zs hz1 hz2=>?_)))
  have hlt:(xs.take k).length=k:=by simp;omega
  have hlx:(xs.take k++List.replicate (xs.length+1 - k) FILE.zero).length=xs.length+1:=by simp;omega
  refine QRZ (y:=⟨some ⟨bv,0,none⟩,1,1⟩) (ys:=[x]) (fun w hw=>?_) (xs.take k++[x]++List.replicate (xs.length - k) FILE.zero) zs (hrm:=by omega) (hlk:=by simp;omega) (hl:=by simp;omega) (he:=?_) (h:=fun n=>?_)
  ·obtain⟨g,hg,hs⟩:=hw.tail.head;exact hg.read.mono hs
  ·have hm:min [x].length (s4.n - k)=1:=by simp;omega
   have e:List.replicate (xs.length+1 - k) FILE.zero=FILE.zero::List.replicate (xs.length - k) FILE.zero:=by
    rw[show xs.length+1 - k=(xs.length - k)+1 by omega];rfl
   have t1:(xs.take k++List.replicate (xs.length+1 - k) FILE.zero++zs).take k=xs.take k:=by rw[List.append_assoc,List.take_left' hlt]
   have t2:(xs.take k++List.replicate (xs.length+1 - k) FILE.zero++zs).drop (k+1)=List.replicate (xs.length - k) FILE.zero++zs:=by
    have:xs.take k++List.replicate (xs.length+1 - k) FILE.zero++zs=(xs.take k++[FILE.zero])++(List.replicate (xs.length - k) FILE.zero++zs):=by rw[e];simp
    rw[this,List.drop_left' (by rw[List.length_append,hlt];rfl)]
   rw[hm,t1,t2];simp
  refine QAP ?_;rw[e2];refine QEf (by omega) (by omega) (by omega) (by omega) ?_;refine QEf (by omega) (by omega) (by omega) (by omega) ?_;simp only[Int.toNat_natCast]
  have hld:(xs.drop k).length=xs.length - k:=by simp
  refine QRZ (y:=s.cut k s.n s.c 3) (ys:=xs.drop k) (fun w hw=>?_) (xs.take k++x::xs.drop k) zs (hrm:=by omega) (hlk:=by simp only[List.length_append,List.length_take,List.length_drop,List.length_cons,List.length_nil,List.length_replicate];omega) (hl:=by simp only[List.length_append,List.length_take,List.length_drop,List.length_cons,List.length_nil,List.length_replicate];omega) (he:=?_) (h:=fun n=>?_)
  ·obtain⟨g,hg,hs⟩:=hw.tail.tail.head;have:=(hg.read.mono hs).cut k s.n s.c (by omega) hc (by omega);rw[←hn,List.take_length]at this;rw[←hn];exact this
  ·have hm:min (xs.drop k).length (s4.n - (k+1))=xs.length - k:=by rw[hld];omega
   have hl2:(xs.take k++[x]).length=k+1:=by rw[List.length_append,hlt];rfl
   have t1:(xs.take k++[x]++List.replicate (xs.length - k) FILE.zero++zs).take (k+1)=xs.take k++[x]:=by rw[List.append_assoc,List.take_left' hl2]
   have t2:(xs.take k++[x]++List.replicate (xs.length - k) FILE.zero++zs).drop (k+1+(xs.length - k))=zs:=by
    rw[List.drop_left' (by rw[List.length_append,hl2,List.length_replicate])]
   rw[hm,t1,t2,List.take_of_length_le (l:=xs.drop k) (by omega)];simp
  exact xar (QB1 1 (QB1 1 (QAE rfl)))
 ·-- in place
  have hroom:xs.length+1≤s.c:=by omega
  refine Qes 0 fun zs hz1 hz2=>?_
  have hzl:zs≠[]:=fun e=>by subst e;simp at hz2;omega
  obtain⟨z0,zd,rfl⟩:=List.exists_cons_of_ne_nil hzl;refine Qcu (xs.length+1) (xs++[z0]) zd (by simp) (by simp) ?_;refine QZe rfl (by omega) (by omega) ?_;simp only[Int.toNat_natCast];rw[e2];refine QEf (by omega) (by first|omega|(dsimp only;omega)) (by first|omega|(dsimp only;omega)) (by first|omega|(dsimp only;omega)) ?_;simp only[Int.toNat_natCast];refine QhZ (e:=140) Qga (by kernel_rfl) (by kernel_rfl) (by simp) (by simp;omega) (by omega) (QBk rfl (QAP ?_));refine QEf (by omega) (by first|omega|(dsimp only;omega)) (by first|omega|(dsimp only;omega)) (by first|omega|(dsimp only;omega)) ?_;refine QEf (by omega) (by first|omega|(dsimp only;omega)) (by first|omega|(dsimp only;omega)) (by first|omega|(dsimp only;omega)) ?_;simp only[Int.toNat_natCast]
  have hU:(xs++[z0]).length=xs.length+1:=by simp
  have hUd:(xs++[z0]).drop k=xs.drop k++[z0]:=by rw[List.drop_append_of_le_length (by omega)]
  have hld:(xs.drop k).length=xs.length - k:=by simp
  have hUt:((xs++[z0]).take (k+1)).length=k+1:=by simp;omega
  refine QRZ (s:=⟨s.p,xs.length+1,s.c⟩) (y:=(⟨s.p,xs.length+1,s.c⟩:Sl).cut k (xs.length+1) s.c 3) (ys:=(xs++[z0]).drop k) (fun w hw=>?_) ((xs++[z0]).take (k+1)++xs.drop k) zd (hrm:=by omega) (hlk:=by simp;omega) (hl:=by simp;omega) (he:=?_) (h:=fun n=>?_)
  ·obtain⟨g,hg,hs⟩:=hw.head;have:=(hg.read.mono hs).cut k (xs.length+1) s.c (by omega) hroom (by omega);rw[List.take_of_length_le (by omega)]at this;exact this
  ·have hm:min ((xs++[z0]).drop k).length (xs.length+1 - (k+1))=xs.length - k:=by rw[hUd,List.length_append,hld];simp only[List.length_singleton];omega
   have t1:(xs++[z0]++zd).take (k+1)=(xs++[z0]).take (k+1):=by rw[List.take_append_of_le_length (by rw[hU];omega)]
   have t2:(xs++[z0]++zd).drop (k+1+(xs.length - k))=zd:=by rw[List.drop_left' (by rw[hU];omega)]
   have t3:((xs++[z0]).drop k).take (xs.length - k)=xs.drop k:=by rw[hUd,List.take_left' hld]
   rw[hm,t1,t2,t3]
  refine QGK 1 (hv (QGK 1 ?_));refine QEf (by omega) (by first|omega|(dsimp only;omega)) (by first|omega|(dsimp only;omega)) (by first|omega|(dsimp only;omega)) ?_;simp only[Int.toNat_natCast];refine QRZ (s:=⟨s.p,xs.length+1,s.c⟩) (y:=⟨some ⟨bv,0,none⟩,1,1⟩) (ys:=[x]) (fun w hw=>?_) (xs.take k++x::xs.drop k) zd (hrm:=by omega) (hlk:=by simp;omega) (hl:=by simp;omega) (he:=?_) (h:=fun n=>?_)
  ·obtain⟨g,hg,hs⟩:=hw.tail.head;exact hg.read.mono hs
  ·have hm:min [x].length (xs.length+1 - k)=1:=by simp;omega
   have t1:((xs++[z0]).take (k+1)++xs.drop k++zd).take k=xs.take k:=by
    rw[List.append_assoc,List.take_append_of_le_length (by rw[hUt];omega),List.take_take,Nat.min_eq_left (by omega),List.take_append_of_le_length (by omega)]
   have t2:((xs++[z0]).take (k+1)++xs.drop k++zd).drop (k+1)=xs.drop k++zd:=by rw[List.append_assoc,List.drop_left' hUt]
   rw[hm,t1,t2];simp
  exact xar (QB1 1 (QAE rfl))
end Go.Cx
namespace Go.Cx
open Go Go.Cf
set_option linter.unusedVariables false
variable {B:QBG}{As:List HP}
def QB8(c:CF)(f:DF):HP:=fun h=>c.1=f.nm∧c.2.2=f.sy∧Ar U8 c.2.1 f.b h
abbrev QA9(m:DM)(s:Sl):List Value:=[.bool m.armed,.bool m.down,.I m.left,.I m.room,s.v]
def QAC(p:Option Addr)(m:DM):HP:=fun h=>DInv m∧∃b s cs,p=some ⟨b,0,none⟩∧QBn [Blk b (QA9 m s),Ar FILE s cs,Each QB8 cs m.fs] h
structure SF(cs:List CF)(fs:List DF):Prop where
 len:cs.length=fs.length
 each:∀(i:Nat) (c:CF) (f:DF),cs[i]? = some c→fs[i]? = some f→c.1=f.nm∧c.2.2=f.sy∧c.2.1.n=f.b.length∧c.2.1.n≤c.2.1.c
theorem SF.names{cs:List CF}{fs:List DF}(h:SF cs fs):QQ8 cs fs:=⟨h.len,fun i c f a b=>(h.each i c f a b).1⟩
theorem Qau{cs:List CF}{fs:List DF}{g:QBh}(h:Each QB8 cs fs g):SF cs fs:=
 ⟨h.length,fun i c f a b=>QDV (R:=QB8) (S:=fun c f _=>c.1=f.nm∧c.2.2=f.sy∧c.2.1.n=f.b.length∧c.2.1.n≤c.2.1.c) (fun _ _ _ _ h _=>h) (fun x y g ⟨h1,h2,zs,h3⟩=>⟨h1,h2,h3.1.symm,h3.cap⟩) h a b⟩
theorem QXU(i:Nat){p:Option Addr}{m:DM}{F:List HP}[q:Pick i As (QAC p m) F]{φ:WP}
  (k:DInv m→∀b s cs,p=some ⟨b,0,none⟩→SF cs m.fs→s.n=cs.length→Ent B (Blk b (QA9 m s)::Ar FILE s cs::Each QB8 cs m.fs::F) φ):Ent B As φ:=by
 refine Ent.perm q.perm ?_;intro w hw;obtain⟨g,⟨a,c,⟨hi,b,s,cs,hp,pa⟩,pc,d,sa,sc⟩,hm,hu⟩:=hw
 have hl:SF cs m.fs∧s.n=cs.length:=by
  obtain⟨_,_,_,⟨_,_,⟨_,par⟩,⟨_,_,pe,_⟩,_⟩,_⟩:=pa;exact⟨Qau pe,par.1.symm⟩
 exact k hi b s cs hp hl.1 hl.2 w ⟨g,(QAj [_,_,_] F).2 ⟨a,c,pa,pc,d,sa,sc⟩,hm,hu⟩
theorem QBC(b:Nat)(s:Sl)(cs:List CF){m:DM}{G:List HP}[q:Split [Blk b (QA9 m s),Ar FILE s cs,Each QB8 cs m.fs] As G]{φ:WP}
  (hi:DInv m) (k:Ent B (QAC (some ⟨b,0,none⟩) m::G) φ):Ent B As φ:=
 QBR [Blk b (QA9 m s),Ar FILE s cs,Each QB8 cs m.fs] (QAC (some ⟨b,0,none⟩) m) (fun g hg=>⟨hi,b,s,cs,rfl,hg⟩) k
theorem QCA(i j l:Nat){P1 P2 P3:HP}{F F' F'':List HP}[p:Pick i As P1 F][q:Pick j F P2 F'][r:Pick l F' P3 F'']{φ:WP}(b:Nat)(s:Sl)(cs:List CF)(m:DM)(hi:DInv m)
  (h:∀g,QBn [P1,P2,P3] g→QBn [Blk b (QA9 m s),Ar FILE s cs,Each QB8 cs m.fs] g) (k:Ent B (QAC (some ⟨b,0,none⟩) m::F'') φ):Ent B As φ:=
 QfR i j l (fun g hg=>⟨hi,b,s,cs,rfl,h g hg⟩) k
theorem QFl(b:Nat)(s:Sl)(cs:List CF)(m:DM)(nm:ByteArray)(hs:Sorted m.fs)(sf:SF cs m.fs)(hl:m.fs.length≤64) :
  Ct Pr 87 [.pointer (some ⟨b,0,none⟩),.string nm] (.tup [none,none]) [.I,.bool] [Blk b (QA9 m s),Ar FILE s cs] emp
  (fun t Bs=>t.1=(QAT m.fs nm.toList:Int)∧t.2.1=QAi m.fs nm.toList∧Bs=[Blk b (QA9 m s),Ar FILE s cs]):=by
 refine sp2 (QEp _ _) fun B _=>?_;unfold QEp mf;dsimp only;refine QAS (xgq ?_);refine xcl (QTE s cs m.fs nm hs sf.names hl) rdb ?_;rintro⟨r,c,_⟩ _ ⟨h1,h2,rfl⟩;exact QA8 (ca2 (QGK 1 (QAE ⟨h1,h2,rfl⟩)))
theorem QNU(nm:ByteArray):Ct Pr 88 [.string nm] .one [.bool] [] emp (fun t Bs=>t.1=QDX nm∧Bs=[]):=by
 refine sp1 (QJ4 _) fun B _=>?_;unfold QJ4 mf;dsimp only;exact QAE ⟨rfl,rfl⟩
theorem QG1(b:Nat)(s:Sl)(m:DM)(hl:i64 m.left)(ha:m.armed=true→0≤m.left) :
  Ct Pr 89 [.pointer (some ⟨b,0,none⟩)] .one [.bool] [Blk b (QA9 m s)] emp (fun t Bs=>t.1=(QAp m).2∧Bs=[Blk b (QA9 (QAp m).1 s)]):=by
 refine sp1 (QEu _) fun B _=>?_;unfold QEu mf;dsimp only;refine QAS (xgq ?_);refine QAU (fun x As'=>x=(m.armed&&m.left == 0)∧As'=[Blk b (QA9 m s)]) ?_ ?_
 ·intro J hJ;refine xif (fun h=>QAS (xgq (hJ _ _ ⟨?_,rfl⟩))) (fun h=>hJ _ _ ⟨?_,rfl⟩)
  ·have h':m.armed=true:=h;simp[h']
  ·have h':m.armed=false:=h;simp[h']
 ·rintro _ _ ⟨rfl,rfl⟩;refine xif (fun h=>?_) (fun h=>?_)
  ·refine QAS (xsq (QAE ⟨?_,?_⟩))
   ·simp[QAp,h]
   ·simp[QAp,h,QA9]
  ·refine QAS (xgq (QAJ (xif (fun g=>?_) (fun g=>?_))))
   ·have g':m.armed=true:=g;have h0:=ha g'
    have hne:¬m.left=0:=fun e=>by simp[g',e]at h
    refine QAS (xgq (QAS (xsq ?_)))
    have e1:IntKind.i64.wrap (m.left - 1)=m.left - 1:=by unfold i64 at hl;exact QAD _ (by omega) (by omega)
    have hsp:QAp m=({ m with left:=m.left - 1 },true):=by
     unfold QAp;rw[h,if_neg (by simp),if_pos g']
    rw[hsp,e1];exact QAE ⟨rfl,rfl⟩
   ·have g':m.armed=false:=g;refine QAE ⟨?_,?_⟩<;>simp[QAp,g']
theorem QUD(room:Int):Ct Pr 21 [.I room] (.tup [none,none]) [.ptr,.I] [] emp
  (fun t Bs=>(((room<0∨room>16777216)∧t.1=none∧t.2.1=3∧Bs=[])∨(0≤room∧room≤16777216∧t.2.1=0∧(∃b,t.1=some ⟨b,0,none⟩)∧Bs=[QAC t.1 ⟨false,false,0,room,[]⟩]))):=by
 refine sp2 (QNh _) fun B _=>?_;unfold QNh mf;dsimp only;refine xif (fun h=>?_) (fun h=>?_)
 ·refine QAE (.inl ⟨?_,rfl,rfl,rfl⟩);simpa using h
 ·have h':0≤room∧room≤16777216:=by simp at h;omega
  refine QAL fun b=>QAd FILE (QYz (A:=Each QB8 [] []) trivial ?_);refine QCA 2 1 0 b ⟨none,0,0⟩ [] ⟨false,false,0,room,[]⟩ ⟨List.Pairwise.nil,by simp,by simp,by simp[QBo];omega,h',by simp,⟨by simp,by simp⟩,fun h=>by cases h⟩ (fun _ h=>h) ?_;exact QAE (.inr ⟨h'.1,h'.2,rfl,⟨b,rfl⟩,rfl⟩)
theorem QWD(fs:List DF)(k:Nat)(h:k<fs.length):QBo (fs.take (k+1))=QBo (fs.take k)+fs[k].b.length:=by
 unfold QBo;rw[List.take_add_one,List.getElem?_eq_getElem h,List.map_append,List.sum_append];simp
theorem QPR(fs:List DF)(k:Nat):QBo (fs.take k)≤QBo fs:=by
 conv=>rhs;rw[←List.take_append_drop k fs]
 unfold QBo;rw[List.map_append,List.sum_append];omega
theorem QUv(b:Nat)(s:Sl)(cs:List CF)(m:DM)(hi:DInv m)(sf:SF cs m.fs) :
  Ct Pr 24 [.pointer (some ⟨b,0,none⟩)] .one [.I] [Blk b (QA9 m s),Ar FILE s cs] emp (fun t Bs=>t.1=(QBo m.fs:Int)∧Bs=[Blk b (QA9 m s),Ar FILE s cs]):=by
 refine sp1 (QEn _) fun B _=>?_;unfold QEn mf;dsimp only;have hu:=hi.used;have hroom:=hi.room;have hlen:=hi.len;refine QCn s fun hn _=>QAS (xgq ?_);refine QBb (fun n u i As=>∃k:Nat,i=(k:Int)∧u=(QBo (m.fs.take k):Int)∧n=m.fs.length - k∧k≤m.fs.length∧As=[Blk b (QA9 m s),Ar FILE s cs]) m.fs.length ⟨0,rfl,rfl,rfl,by omega,rfl⟩ ?_;rintro n _ _ _ K ⟨k,rfl,rfl,rfl,hk,rfl⟩ hK;have hcl:=sf.len;refine QAB (fun h=>?_) (fun h=>?_)
 ·have hf:=List.getElem?_eq_getElem (l:=m.fs) (i:=k) (by omega);have hc:=List.getElem?_eq_getElem (l:=cs) (i:=k) (by omega);obtain⟨_,_,h3,_⟩:=sf.each _ _ _ hc hf;have e:=QWD m.fs k (by omega);have hle:=QPR m.fs (k+1);refine QAI (h1:=by omega) (h:=fun _ _=>?_);refine QAO hc (h:=?_);refine QAb hc (h:=?_);refine QAb hc (h:=QAL fun b1=>xsq (xsq (xsq (xgq ?_))));rw[QAF k (by omega),h3,QAD _ (by omega) (by omega)];refine QB1 0 (hK (m.fs.length - (k+1)) _ _ _ (by omega) ⟨k+1,rfl,?_,rfl,by omega,rfl⟩);rw[e];show (_:Int)=_;simp
 ·have:k=m.fs.length:=by omega
  subst this;refine QAE ⟨?_,rfl⟩;rw[List.take_length]
theorem QUK(b:Nat)(s:Sl)(cs:List CF)(m:DM)(hi:DInv m)(sf:SF cs m.fs) :
  Ct Pr 72 [.pointer (some ⟨b,0,none⟩)] .one [.I] [Blk b (QA9 m s),Ar FILE s cs] emp (fun t Bs=>t.1=m.room - (QBo m.fs:Int)∧Bs=[Blk b (QA9 m s),Ar FILE s cs]):=by
 refine sp1 (QEi _) fun B _=>?_;unfold QEi mf;dsimp only;have hu:=hi.used;have hroom:=hi.room;refine QAP (QAS (xgq ?_));refine xcl (QUv b s cs m hi sf) rdb ?_;rintro⟨r,_⟩ _ ⟨hr,rfl⟩;simp only at hr;subst hr;refine QBM (ca1 (QC7 (h:=?_)));rw[QAD _ (by omega) (by omega)];exact QAE ⟨rfl,rfl⟩
theorem QYe(p:Option Addr)(m:DM):Ct Pr 24 [.pointer p] .one [.I] [QAC p m] emp (fun t Bs=>t.1=(QBo m.fs:Int)∧Bs=[QAC p m]):=by
 refine QGR (φ:=QAe Pr 24 [.pointer p] .one [.I]) id fun B _=>?_;refine QXU 0 fun hi b s cs hp sf hn=>?_;subst hp;refine xcl (QUv b s cs m hi sf) rdb ?_;rintro⟨r,_⟩ _ ⟨hr,rfl⟩;exact QBM (ca1 (QBC b s cs hi (QAE ⟨hr,rfl⟩)))
theorem QZh(p:Option Addr)(m:DM):Ct Pr 72 [.pointer p] .one [.I] [QAC p m] emp (fun t Bs=>t.1=m.room - (QBo m.fs:Int)∧Bs=[QAC p m]):=by
 refine QGR (φ:=QAe Pr 72 [.pointer p] .one [.I]) id fun B _=>?_;refine QXU 0 fun hi b s cs hp sf hn=>?_;subst hp;refine xcl (QUK b s cs m hi sf) rdb ?_;rintro⟨r,_⟩ _ ⟨hr,rfl⟩;exact QBM (ca1 (QBC b s cs hi (QAE ⟨hr,rfl⟩)))
theorem QLa(p:Option Addr)(m:DM):Ct Pr 74 [.pointer p] .one [.bool] [QAC p m] emp (fun t Bs=>t.1=m.down∧Bs=[QAC p m]):=by
 refine sp1 (QFF _) fun B _=>?_;unfold QFF mf;dsimp only;refine QXU 0 fun hi b s cs hp sf hn=>?_;subst hp;exact QAS (xgq (QBC b s cs hi (QAE ⟨rfl,rfl⟩)))
theorem QJA(p:Option Addr)(m:DM)(nm:ByteArray):Ct Pr 77 [.pointer p,.string nm] (.tup [none,none]) [.slice,.I] [QAC p m] emp
  (fun t Bs=>t.2.1=(QAX m nm).2∧Bs=[QAC p m,Ar U8 t.1 (QAX m nm).1]):=by
 refine sp2 (QEx _ _) fun B _=>?_;unfold QEx mf;dsimp only;refine QXU 0 fun hi b s cs hp sf hsn=>?_;subst hp;refine xcl (QFl b s cs m nm hi.sorted sf hi.len) rdb ?_;rintro⟨r,c,_⟩ _ ⟨h1,h2,rfl⟩;simp only at h1 h2;subst h1 h2;refine QBM (ca2 (xif (fun h=>?_) (fun h=>?_)))
 ·have h':QAi m.fs nm.toList=false:=by simpa using h
  refine QAd U8 (QBC b s cs hi (QAE ?_));simp[QAX,h']
 ·have h':QAi m.fs nm.toList=true:=by simpa using h
  obtain⟨hf,_⟩:=QCK (d:=⟨nm,[],0⟩) h'
  have hlt:QAT m.fs nm.toList<cs.length:=by rw[sf.len];exact (List.getElem?_eq_some_iff.1 hf).1
  have hc:=List.getElem?_eq_getElem hlt
  have hb:(m.fs.getD (QAT m.fs nm.toList) ⟨nm,[],0⟩).b.length≤16777216:=by
   have h1:=QBg hf;have h2:=hi.used;have h3:=hi.room;omega
  refine QAS (xgq ?_);refine QAI (h1:=hlt) (h:=fun _ _=>?_);refine QAb hc (h:=?_);refine xcl (QIH _ (m.fs.getD (QAT m.fs nm.toList) ⟨nm,[],0⟩).b (by omega)) (QKq 2 (fun g hg=>QDV (R:=QB8) (S:=fun c f=>RAr U8 c.2.1 f.b) (fun _ _ _ _ h s=>h.mono s) (fun _ _ _ h=>h.2.2.read) hg hc hf) (fun _ _ h s=>h.mono s)) ?_;rintro⟨r,_⟩ _ rfl;refine QA8 (ca1 (QBC b s cs hi (QAE ?_)));simp[QAX,h']
theorem QJn(p:Option Addr)(m:DM):Ct Pr 23 [.pointer p] .one [.slice] [QAC p m] emp (fun t Bs=>Bs=[QAC p m,Ar ST t.1 (m.fs.map (·.nm))]):=by
 refine sp1 (QEG _) fun B _=>?_;unfold QEG mf;dsimp only;refine QXU 0 fun hi b s cs hp sf hsn=>?_;subst hp;have hlen:=hi.len;have hcl:=sf.len;refine QAS (xgq (QAd ST ?_));refine QBb (fun n o i As=>∃k:Nat,i=(k:Int)∧n=m.fs.length - k∧k≤m.fs.length∧As=[Ar ST o ((m.fs.map fun f:DF=>f.nm).take k),Blk b (QA9 m s),Ar FILE s cs,Each QB8 cs m.fs]) m.fs.length ⟨0,rfl,rfl,by omega,rfl⟩ ?_;rintro n o _ _ K ⟨k,rfl,rfl,hk,rfl⟩ hK;refine QAB (fun h=>?_) (fun h=>?_)
 ·have hf:=List.getElem?_eq_getElem (l:=m.fs) (i:=k) (by omega);have hc:=List.getElem?_eq_getElem (l:=cs) (i:=k) (by omega);obtain⟨h1,_⟩:=sf.each _ _ _ hc hf;refine QAI (h1:=by omega) (h:=fun _ _=>?_);refine QAO hc (h:=?_);refine QAb hc (h:=?_);refine QAb hc (h:=QAL fun b1=>xsq (xsq (xsq (xgq (QAL fun b2=>?_)))));refine QEQ cs[k].1 (hb:=by simp;omega) (h:=fun s'=>?_);rw[QAF k (by omega)];refine QB1 0 (hK (m.fs.length - (k+1)) _ _ _ (by omega) ⟨k+1,rfl,rfl,by omega,?_⟩);rw[List.take_add_one,List.getElem?_map,hf,h1];rfl
 ·have:k=m.fs.length:=by omega
  subst this;rw[List.take_of_length_le (by simp)];exact QBC b s cs hi (QAE rfl)
end Go.Cx
namespace Go.Cx
open Go Go.Cf
set_option linter.unusedVariables false
variable {B:QBG}{As:List HP}
theorem QFk{m:DM}{nm:ByteArray}{g:Nat→DF→DM→DM×Int}(h:m.down=true):QBX m nm g=(m,10):=by simp[QBX,h]
theorem QGB{m:DM}{nm:ByteArray}{g:Nat→DF→DM→DM×Int}(h:m.down=false)(ht:QAi m.fs nm.toList=false):QBX m nm g=(m,6):=by simp[QBX,h,ht]
theorem QI5{m:DM}{nm:ByteArray}{g:Nat→DF→DM→DM×Int}(h:m.down=false)(ht:QAi m.fs nm.toList=true):QBX m nm g=g (QAT m.fs nm.toList) (m.fs.getD (QAT m.fs nm.toList) ⟨nm,[],0⟩) m:=by
 unfold QBX;rw[h,ht];rfl
theorem QKs{m:DM}{g:DM→DM}(h:(QAp m).2=false):QD3 m g=((QAp m).1,10):=by simp[QD3,h]
theorem QKx{m:DM}{g:DM→DM}(h:(QAp m).2=true):QD3 m g=(g (QAp m).1,0):=by simp[QD3,h]
theorem QOc{cs:List CF}{fs:List DF}{k:Nat}{c c':CF}{f f':DF}(hc:cs[k]? = some c)(hf:fs[k]? = some f)(h:∀g,QB8 c f g→QB8 c' f' g)(g:QBh)(hg:Each QB8 cs fs g):Each QB8 (cs.set k c') (fs.set k f') g:=
 QDJ (List.getElem?_eq_some_iff.1 hc).1 (List.getElem?_eq_some_iff.1 hf).1 (QA2 (h) (QCB hg hc hf))
theorem QPi{p:Option Addr}{m:DM}{nm:ByteArray}(hi:DInv m){cs:List CF}(sf:SF cs m.fs)(ht:QAi m.fs nm.toList=true) :
  ∃c f,cs[QAT m.fs nm.toList]? = some c∧m.fs[QAT m.fs nm.toList]? = some f∧m.fs.getD (QAT m.fs nm.toList) ⟨nm,[],0⟩=f∧c.1=f.nm∧c.2.2=f.sy∧c.2.1.n=f.b.length∧c.2.1.n≤c.2.1.c∧f.b.length≤16777216∧0≤f.sy∧f.sy≤f.b.length:=by
 obtain⟨hf,_⟩:=QCK (d:=⟨nm,[],0⟩) ht
 have hlt:QAT m.fs nm.toList<cs.length:=by rw[sf.len];exact (List.getElem?_eq_some_iff.1 hf).1
 have hc:=List.getElem?_eq_getElem hlt;obtain⟨h1,h2,h3,h4⟩:=sf.each _ _ _ hc hf;have h5:=hi.syn _ (List.mem_of_getElem? hf);refine⟨_,_,hc,hf,rfl,h1,h2,h3,h4,?_,h5.1,h5.2⟩;have h1:=QBg hf;have h2:=hi.used;have h3:=hi.room;omega
theorem QGe(p:Option Addr)(m:DM)(nm:ByteArray):Ct Pr 178 [.pointer p,.string nm] .one [.I] [QAC p m] emp
  (fun t Bs=>t.1=(QBE m nm).2∧Bs=[QAC p (QBE m nm).1]):=by
 refine sp1 (QEv _ _) fun B _=>?_;unfold QEv mf;dsimp only;refine QXU 0 fun hi b s cs hp sf hsn=>?_;subst hp;have hinv:=QO5 hi nm;unfold QBE at hinv⊢;refine xcl (QFl b s cs m nm hi.sorted sf hi.len) rdb ?_;rintro⟨r,c,_⟩ _ ⟨h1,h2,rfl⟩;simp only at h1 h2;subst h1 h2;refine QBM (ca2 (QAS (xgq (xif (fun hd=>?_) (fun hd=>xif (fun ht=>?_) (fun ht=>?_))))))
 ·rw[QFk hd];exact QBC b s cs hi (QAE ⟨rfl,rfl⟩)
 ·rw[QGB hd (by simpa using ht)];exact QBC b s cs hi (QAE ⟨rfl,rfl⟩)
 have ht:QAi m.fs nm.toList=true:=by simpa using ht
 rw[QI5 hd ht]at hinv⊢;obtain⟨c,f,hc,hf,hgd,e1,e2,e3,_,hfb,_⟩:=QPi (p:=none) hi sf ht;rw[hgd]at hinv⊢;obtain⟨q1,q2⟩:=QCU m;refine QAS ?_;refine xcl (QG1 b s m hi.left.1 hi.left.2) rdb ?_;rintro⟨r,_⟩ _ ⟨hr,rfl⟩;simp only at hr;subst hr;refine QA8 (ca1 (xif (fun hsp=>?_) (fun hsp=>?_)))
 ·rw[QKs (by simpa using hsp)]at hinv⊢;exact QCA 0 0 0 b s cs (QAp m).1 hinv (fun _ h=>by rw[q1];exact h) (QAE ⟨rfl,rfl⟩)
 rw[QKx (by simpa using hsp)]at hinv⊢;have hlt:=(List.getElem?_eq_some_iff.1 hc).1;refine QAP (QAS (xgq (QAS (xgq ?_))));refine QAI (h1:=hlt) (h:=fun _ _=>?_);refine QAb hc (h:=?_);refine QAI (h1:=hlt) (h:=fun _ _=>?_);refine QCr (c.1,c.2.1,(f.b.length:Int)) hc (hj:=by decide) (hv:=by simp[FILE,e3]) (h:=?_);refine QAf 2 (QOc (c':=(c.1,c.2.1,(f.b.length:Int))) (f':={ f with sy:=f.b.length }) hc hf (fun g h=>⟨h.1,rfl,h.2.2⟩)) ?_;exact QCA 1 1 0 b s (cs.set (QAT m.fs nm.toList) (c.1,c.2.1,(f.b.length:Int))) _ hinv (fun _ h=>by simp only[q1];exact h) (QAE ⟨rfl,rfl⟩)
theorem QcM{s:Sl}{xs:List UInt8}{k:Nat}(hk:k≤xs.length){g:QBh}(h:Ar U8 s xs g):Ar U8 ⟨s.p,k,s.c⟩ (xs.take k) g:=by
 obtain⟨zs,h⟩:=h;obtain⟨p,n,c⟩:=s;exact⟨xs.drop k++zs,h.shift (by rw[←List.append_assoc,List.take_append_drop]) (by simp;omega)⟩
theorem QIP(p:Option Addr)(m:DM)(nm:ByteArray)(n:Int):Ct Pr 177 [.pointer p,.string nm,.I n] .one [.I] [QAC p m] emp
  (fun t Bs=>t.1=(QBP m nm n).2∧Bs=[QAC p (QBP m nm n).1]):=by
 refine sp1 (QC2 _ _ _) fun B _=>?_;unfold QC2 mf;dsimp only;refine QXU 0 fun hi b s cs hp sf hsn=>?_;subst hp;have hinv:=QFL hi nm n;unfold QBP at hinv⊢;refine xcl (QFl b s cs m nm hi.sorted sf hi.len) rdb ?_;rintro⟨r,c,_⟩ _ ⟨h1,h2,rfl⟩;simp only at h1 h2;subst h1 h2;refine QBM (ca2 (QAS (xgq (xif (fun hd=>?_) (fun hd=>xif (fun ht=>?_) (fun ht=>?_))))))
 ·rw[QFk hd];exact QBC b s cs hi (QAE ⟨rfl,rfl⟩)
 ·rw[QGB hd (by simpa using ht)];exact QBC b s cs hi (QAE ⟨rfl,rfl⟩)
 have ht:QAi m.fs nm.toList=true:=by simpa using ht
 rw[QI5 hd ht]at hinv⊢;obtain⟨c,f,hc,hf,hgd,e1,e2,e3,e4,hfb,_,_⟩:=QPi (p:=none) hi sf ht;rw[hgd]at hinv⊢;have hlt:=(List.getElem?_eq_some_iff.1 hc).1;obtain⟨q1,q2⟩:=QCU m;refine QAU (fun x As'=>x=decide (n<0∨n>f.b.length)∧As'=[Blk b (QA9 m s),Ar FILE s cs,Each QB8 cs m.fs]) ?_ ?_
 ·intro J hJ;refine QAB (fun h=>hJ _ _ ⟨by simp[h],rfl⟩) (fun h=>?_);refine QAS (xgq ?_);refine QAI (h1:=hlt) (h:=fun _ _=>?_);refine QAb hc (h:=hJ _ _ ⟨?_,rfl⟩);rw[e3];simp[h]
 rintro _ _ ⟨rfl,rfl⟩;refine QAB (fun h=>?_) (fun h=>?_)
 ·rw[if_pos h];exact QBC b s cs hi (QAE ⟨rfl,rfl⟩)
 rw[if_neg h]at hinv⊢;refine QAS ?_;refine xcl (QG1 b s m hi.left.1 hi.left.2) rdb ?_;rintro⟨r,_⟩ _ ⟨hr,rfl⟩;simp only at hr;subst hr;refine QA8 (ca1 (xif (fun hsp=>?_) (fun hsp=>?_)))
 ·rw[QKs (by simpa using hsp)]at hinv⊢;exact QCA 0 0 0 b s cs (QAp m).1 hinv (fun _ h=>by rw[q1];exact h) (QAE ⟨rfl,rfl⟩)
 rw[QKx (by simpa using hsp)]at hinv⊢;refine QAS (xgq ?_);refine QAI (h1:=hlt) (h:=fun _ _=>QAP (QAS ?_));refine QAb hc (h:=?_);refine QZe rfl (by omega) (by omega) (QAS ?_);refine QAb hc (h:=QAS ?_);refine QCr (c.1,⟨c.2.1.p,n.toNat,c.2.1.c⟩,c.2.2) hc (hj:=by decide) (hv:=by simp[FILE]) (h:=QAS ?_);have hc2:(cs.set (QAT m.fs nm.toList) (c.1,⟨c.2.1.p,n.toNat,c.2.1.c⟩,c.2.2))[QAT m.fs nm.toList]? = some (c.1,⟨c.2.1.p,n.toNat,c.2.1.c⟩,c.2.2):=List.getElem?_set_self hlt;refine QCr (c.1,⟨c.2.1.p,n.toNat,c.2.1.c⟩,if n<f.sy then n else f.sy) hc2 (hj:=by decide) (hv:=by simp[FILE,e2]) (h:=?_);rw[List.set_set];refine QAf 2 (QOc (c':=(c.1,⟨c.2.1.p,n.toNat,c.2.1.c⟩,if n<f.sy then n else f.sy)) (f':={ f with b:=f.b.take n.toNat,sy:=if n<f.sy then n else f.sy }) hc hf (fun g h=>⟨h.1,rfl,QcM (by omega) h.2.2⟩)) ?_;exact QCA 1 1 0 b s (cs.set (QAT m.fs nm.toList) (c.1,⟨c.2.1.p,n.toNat,c.2.1.c⟩,if n<f.sy then n else f.sy)) _ hinv (fun _ h=>by simp only[q1];exact h) (QAE ⟨rfl,rfl⟩)
theorem QFz(p:Option Addr)(m:DM)(nm:ByteArray):Ct Pr 182 [.pointer p,.string nm] .one [.I] [QAC p m] emp
  (fun t Bs=>t.1=(QAV m nm).2∧Bs=[QAC p (QAV m nm).1]):=by
 refine sp1 (QDw _ _) fun B _=>?_;unfold QDw mf;dsimp only;refine QXU 0 fun hi b s cs hp sf hsn=>?_;subst hp;have hinv:=QJY hi nm;unfold QAV at hinv⊢;refine xcl (QFl b s cs m nm hi.sorted sf hi.len) rdb ?_;rintro⟨r,c,_⟩ _ ⟨h1,h2,rfl⟩;simp only at h1 h2;subst h1 h2;refine QBM (ca2 (QAS (xgq (xif (fun hd=>?_) (fun hd=>xif (fun ht=>?_) (fun ht=>?_))))))
 ·rw[QFk hd];exact QBC b s cs hi (QAE ⟨rfl,rfl⟩)
 ·rw[QGB hd (by simpa using ht)];exact QBC b s cs hi (QAE ⟨rfl,rfl⟩)
 have ht:QAi m.fs nm.toList=true:=by simpa using ht
 rw[QI5 hd ht]at hinv⊢;obtain⟨c,f,hc,hf,hgd,e1,e2,e3,e4,hfb,_,_⟩:=QPi (p:=none) hi sf ht;have hlt:=(List.getElem?_eq_some_iff.1 hc).1;have hlen:=hi.len;have hcl:=sf.len;obtain⟨q1,q2⟩:=QCU m;refine QAS ?_;refine xcl (QG1 b s m hi.left.1 hi.left.2) rdb ?_;rintro⟨r,_⟩ _ ⟨hr,rfl⟩;simp only at hr;subst hr;refine QA8 (ca1 (xif (fun hsp=>?_) (fun hsp=>?_)))
 ·rw[QKs (by simpa using hsp)]at hinv⊢;exact QCA 0 0 0 b s cs (QAp m).1 hinv (fun _ h=>by rw[q1];exact h) (QAE ⟨rfl,rfl⟩)
 rw[QKx (by simpa using hsp)]at hinv⊢;refine QAS (xgq ?_);rw[QAF _ (by omega)];refine xcl (QLl s cs (QAT m.fs nm.toList) hlt (by omega)) rdb ?_;rintro⟨s',_⟩ _ rfl;refine QA8 (ca1 (QAS (xsq ?_)));refine QdH 2 [QB8 c f,Each QB8 (cs.eraseIdx (QAT m.fs nm.toList)) (m.fs.eraseIdx (QAT m.fs nm.toList))] (fun g hg=>QCB hg hc hf) (QBM (QB1 0 ?_));exact QCA 2 1 0 b s' (cs.eraseIdx (QAT m.fs nm.toList)) _ hinv (fun _ h=>by simp only[q1];exact h) (QAE ⟨rfl,rfl⟩)
theorem QWw{α β:Type}{R:α→β→HP}:∀(k:Nat) {xs:List α}{ys:List β}{g:QBh},Each R xs ys g→QBn [Each R (xs.take k) (ys.take k),Each R (xs.drop k) (ys.drop k)] g:=by
 intro k
 induction k with
 | zero=>
  intro xs ys g h;exact⟨fun _=>none,g,(trivial:Each R [] [] _),QCd h,fun _=>.inl rfl,fun _ _ e=>(by cases e),Sub.refl _⟩
 | succ k ih=>
  intro xs ys g h
  cases xs with
  | nil=>
   cases ys with
   | cons=>exact h.elim
   | nil=>exact⟨fun _=>none,g,(trivial:Each R [] [] _),QCd h,fun _=>.inl rfl,fun _ _ e=>(by cases e),Sub.refl _⟩
  | cons x xs=>
   cases ys with
   | nil=>exact h.elim
   | cons y ys=>
    have h1:QBn [R x y,Each R (xs.take k) (ys.take k),Each R (xs.drop k) (ys.drop k)] g:=QBA (l:=[Each R xs ys]) (fun g hg=>by
     obtain⟨a,b,pa,_,_,sa,_⟩:=hg
     exact QCV _ (ih pa) sa) h
    exact QDH (l:=[R x y,Each R (xs.take k) (ys.take k)]) (fun g hg=>hg) h1
theorem QUF{α β:Type}{R:α→β→HP}{x:α}{y:β}(k:Nat){xs:List α}{ys:List β}{g:QBh}(h:QBn [R x y,Each R xs ys] g):Each R (xs.take k++x::xs.drop k) (ys.take k++y::ys.drop k) g:=by
 have h1:QBn [R x y,Each R (xs.take k) (ys.take k),Each R (xs.drop k) (ys.drop k)] g:=QBA (l:=[Each R xs ys]) (fun g hg=>by
  obtain⟨a,b,pa,_,_,sa,_⟩:=hg
  exact QCV _ (QWw k pa) sa) h
 have h2:QBn [Each R (xs.take k) (ys.take k),R x y,Each R (xs.drop k) (ys.drop k)] g:=QDR h1;refine QVV (QBA (l':=[Each R (x::xs.drop k) (y::ys.drop k)]) (fun g hg=>QCd hg) h2)
def QJh(m:DM)(nm:ByteArray):List DF:=if QAi m.fs nm.toList then m.fs else QLf m.fs (QAT m.fs nm.toList) ⟨nm,[],0⟩
theorem QXr(m:DM)(nm:ByteArray):∃f,(QJh m nm)[QAT m.fs nm.toList]? = some f∧(QJh m nm).getD (QAT m.fs nm.toList) ⟨nm,[],0⟩=f∧f.b.length≤QBo m.fs:=by
 unfold QJh
 cases ht:QAi m.fs nm.toList with
 | true=>
  obtain⟨hf,_⟩:=QCK (d:=⟨nm,[],0⟩) ht;simp only[if_true];refine⟨_,hf,rfl,?_⟩;have:=QBg hf;omega
 | false=>
  have h:=QOp m.fs (QAT m.fs nm.toList) ⟨nm,[],0⟩ (QFf _ _);simp only[Bool.false_eq_true,if_false];exact⟨_,h,by simp[h],by simp⟩
theorem QXD{m:DM}{nm:ByteArray}{bs:List UInt8}(h1:QDX nm=true)(h2:m.down=false)(h3:((!(QAi m.fs nm.toList)&&decide ((m.fs.length:Int)≥64))||decide ((bs.length:Int)>m.room - QBo m.fs))=false)(h4:(QAp m).2=true) :
  QAK m nm bs=({ (QAp m).1 with fs:=(QJh m nm).set (QAT m.fs nm.toList) { ((QJh m nm).getD (QAT m.fs nm.toList) ⟨nm,[],0⟩) with b:=((QJh m nm).getD (QAT m.fs nm.toList) ⟨nm,[],0⟩).b++bs } },0):=by
 unfold QAK;rw[h1,h2,h3,h4];rfl
theorem QHp(p:Option Addr)(m:DM)(nm:ByteArray)(d:Sl)(bs:List UInt8):Ct Pr 30 [.pointer p,.string nm,d.v] .one [.I] [QAC p m] (RAr U8 d bs)
  (fun t Bs=>t.1=(QAK m nm bs).2∧Bs=[QAC p (QAK m nm bs).1]):=by
 refine sp1 (QDz _ _ _) fun B hr=>?_;have fd:Fro B d U8 bs:=⟨hr⟩;have hdn:=hr.1;unfold QDz mf;dsimp only;refine QXU 0 fun hi b s cs hp sf hsn=>?_;subst hp;have hinv:=QHU hi nm bs;have hlen:=hi.len;have hcl:=sf.len;have hu:=hi.used;have hroom:=hi.room;refine xcl (QFl b s cs m nm hi.sorted sf hi.len) rdb ?_;rintro⟨r,c,_⟩ _ ⟨h1,h2,rfl⟩;simp only at h1 h2;subst h1 h2;refine QBM (ca2 ?_);refine xcl (QNU nm) rdb ?_;rintro⟨c,_⟩ _ ⟨h1,rfl⟩;simp only at h1;subst h1;refine QAz (ca1 (xif (fun hn=>?_) (fun hn=>?_)))
 ·have e:QAK m nm bs=(m,8):=by unfold QAK;rw[if_pos hn]
  rw[e];exact QBC b s cs hi (QAE ⟨rfl,rfl⟩)
 have hn:QDX nm=true:=by simpa using hn
 refine QAS (xgq (xif (fun hd=>?_) (fun hd=>?_)))
 ·have hd:m.down=true:=hd
  have e:QAK m nm bs=(m,10):=by unfold QAK;rw[hn,hd];rfl
  rw[e];exact QBC b s cs hi (QAE ⟨rfl,rfl⟩)
 have hd:m.down=false:=hd;refine QAU (fun x As'=>x=(!(QAi m.fs nm.toList)&&decide ((m.fs.length:Int)≥64))∧As'=[Blk b (QA9 m s),Ar FILE s cs,Each QB8 cs m.fs]) ?_ ?_
 ·intro J hJ;refine xif (fun h=>QAS (xgq (hJ _ _ ⟨?_,rfl⟩))) (fun h=>hJ _ _ ⟨by rw[h];rfl,rfl⟩);rw[h,hsn,hcl];rfl
 rintro _ _ ⟨rfl,rfl⟩;refine QAU (fun x As'=>x=((!(QAi m.fs nm.toList)&&decide ((m.fs.length:Int)≥64))||decide ((bs.length:Int)>m.room - QBo m.fs))∧As'=[Blk b (QA9 m s),Ar FILE s cs,Each QB8 cs m.fs]) ?_ ?_
 ·intro J hJ;refine xif (fun h=>hJ _ _ ⟨by rw[h];rfl,rfl⟩) (fun h=>?_);refine xcl (QUK b s cs m hi sf) rdb ?_;rintro⟨r,_⟩ _ ⟨hr,rfl⟩;simp only at hr;subst hr;refine QBM (ca1 (hJ _ _ ⟨?_,rfl⟩));rw[h,←hdn];rfl
 rintro _ _ ⟨rfl,rfl⟩;refine xif (fun hfull=>?_) (fun hfull=>?_)
 ·have e:QAK m nm bs=(m,9):=by unfold QAK;rw[hn,hd,hfull];rfl
  rw[e];exact QBC b s cs hi (QAE ⟨rfl,rfl⟩)
 obtain⟨q1,q2⟩:=QCU m;refine QAS ?_;refine xcl (QG1 b s m hi.left.1 hi.left.2) rdb ?_;rintro⟨r,_⟩ _ ⟨hr,rfl⟩;simp only at hr;subst hr;refine QA8 (ca1 (xif (fun hsp=>?_) (fun hsp=>?_)))
 ·have hsp:(QAp m).2=false:=by simpa using hsp
  have e:QAK m nm bs=((QAp m).1,10):=by unfold QAK;rw[hn,hd,hfull,hsp];rfl
  rw[e]at hinv⊢;exact QCA 0 0 0 b s cs (QAp m).1 hinv (fun _ h=>by rw[q1];exact h) (QAE ⟨rfl,rfl⟩)
 have hsp:(QAp m).2=true:=by simpa using hsp
 rw[QXD hn hd hfull hsp]at hinv⊢
 have hbs:(bs.length:Int)≤m.room - QBo m.fs:=by
  have:=(Bool.or_eq_false_iff.1 hfull).2;simpa using this
 refine QBx (fun As'=>∃s' cs',As'=[Blk b (QA9 (QAp m).1 s'),Ar FILE s' cs',Each QB8 cs' (QJh m nm)]) ?_ ?_
 ·intro J hJ;refine xif (fun h=>?_) (fun h=>?_)
  ·have ht:QAi m.fs nm.toList=false:=by simpa using h
   have hle:=QFf m.fs nm.toList;refine QAS (xgq (QfZ fun b1=>?_));refine xcl (QMY s cs (QAT m.fs nm.toList) b1 (nm,⟨none,0,0⟩,0) (by omega) (by omega)) rdb ?_;rintro⟨s2,_⟩ _ rfl;refine QA8 (ca1 (QAS (xsq ?_)));refine QYz (A:=QB8 (nm,⟨none,0,0⟩,0) ⟨nm,[],0⟩) ⟨rfl,rfl,[],rfl,rfl,.inl ⟨rfl,rfl⟩⟩ ?_;refine QRI 0 2 (Q:=Each QB8 (cs.take (QAT m.fs nm.toList)++(nm,⟨none,0,0⟩,0)::cs.drop (QAT m.fs nm.toList)) (QJh m nm)) (fun g hg=>?_) ?_
   ·unfold QJh;rw[ht];exact QUF _ hg
   ·exact QAM [Blk b (QA9 (QAp m).1 s2),Ar FILE s2 (cs.take (QAT m.fs nm.toList)++(nm,⟨none,0,0⟩,0)::cs.drop (QAT m.fs nm.toList)),Each QB8 (cs.take (QAT m.fs nm.toList)++(nm,⟨none,0,0⟩,0)::cs.drop (QAT m.fs nm.toList)) (QJh m nm)] (hJ _ ⟨s2,_,rfl⟩)
  ·have ht:QAi m.fs nm.toList=true:=by simpa using h
   refine hJ _ ⟨s,cs,?_⟩;unfold QJh;rw[ht];rfl
 rintro _ ⟨s',cs',rfl⟩;obtain⟨f,hf,hgd,hfu⟩:=QXr m nm;rw[hgd]at hinv⊢;refine QCC 2 (fun g hg=>Qau hg) fun sf'=>?_
 have hlt:QAT m.fs nm.toList<cs'.length:=by rw[sf'.len];exact (List.getElem?_eq_some_iff.1 hf).1
 have hc:=List.getElem?_eq_getElem hlt;generalize cs'[QAT m.fs nm.toList]=c at hc;obtain⟨e1,e2,e3,e4⟩:=sf'.each _ _ _ hc hf
 generalize QAT m.fs nm.toList=i at *
 refine QAP (QAS (xgq (QAS (xgq ?_))));refine QAI (h1:=hlt) (h:=fun _ _=>?_);refine QAb hc (h:=?_);refine QdH 2 [QB8 c f,Each QB8 (cs'.eraseIdx i) ((QJh m nm).eraseIdx i)] (fun g hg=>QCB hg hc hf) (QBM ?_);refine QAf (Q:=Ar U8 c.2.1 f.b) 0 (fun g hg=>hg.2.2) ?_;refine QHX (y:=d) (hb:=by omega) (h:=fun s6=>QC7 (h:=?_));refine QAI (h1:=hlt) (h:=fun _ _=>?_);refine QCr (c.1,s6,c.2.2) hc (hj:=by decide) (hv:=rfl) (h:=?_);refine QRI 0 0 (Q:=Each QB8 (cs'.set i (c.1,s6,c.2.2)) ((QJh m nm).set i { f with b:=f.b++bs })) (fun g hg=>?_) ?_
 ·exact QDJ hlt (List.getElem?_eq_some_iff.1 hf).1 (QA2 (P:=Ar U8 s6 (f.b++bs)) (fun q hq=>(⟨e1,e2,hq⟩:QB8 (c.1,s6,c.2.2) { f with b:=f.b++bs } q)) hg)
 exact QCA 1 1 0 b s' (cs'.set i (c.1,s6,c.2.2)) _ hinv (fun _ h=>h) (QAE ⟨rfl,rfl⟩)
theorem QdA{f:DF}(keep:Int)(h:0≤f.sy∧f.sy≤f.b.length)(hb:f.b.length≤16777216) :
  IntKind.i64.wrap (f.sy+(if IntKind.i64.wrap ((f.b.length:Int) - f.sy)<if 0>keep then 0 else keep then IntKind.i64.wrap ((f.b.length:Int) - f.sy) else if 0>keep then 0 else keep))=QJQ keep f:=by
 rw[QAD ((f.b.length:Int) - f.sy) (by omega) (by omega)];have:=QP6 h keep;unfold QJQ at this⊢;rw[QAD _ (by omega) (by omega)]
end Go.Cx
namespace Go.Cx
open Go Go.Cf
set_option linter.unusedVariables false
variable {B:QBG}{As:List HP}
theorem QdI(r:Nat):Int.fdiv (r:Int) (2 ^ (min (Int.toNat 1) 32))=((r / 2:Nat):Int):=by
 have e:(2:Int) ^ (min (Int.toNat 1) 32)=2:=by decide
 rw[e,Int.fdiv_eq_ediv_of_nonneg _ (by omega)];omega
theorem QaT(r:Nat)(h:r<4294967296):(if (bits .and .u32 (r:Int) 1 == 1)=true then bits .xor .u32 (Int.fdiv (r:Int) (2 ^ (min (Int.toNat 1) 32))) 3988292384 else Int.fdiv (r:Int) (2 ^ (min (Int.toNat 1) 32)))=((Qdz r:Nat):Int):=by
 have e1:bits .and .u32 (r:Int) 1=((r % 2:Nat):Int):=by
  have:=u32_and_nat r 1 h (by decide);rw[Nat.and_one_is_mod]at this;exact this
 rw[e1,QdI];unfold Qdz;by_cases g:r % 2=1
 ·rw[if_pos (by rw[g];rfl),if_pos g];exact u32_xor_nat (r / 2) 3988292384 (by omega) (by decide)
 ·rw[if_neg (by simp;omega),if_neg g]
theorem QQM(crc:Nat)(hc:crc<4294967296)(b:Sl)(xs:List UInt8)(hm:xs.length≤140737488351232):Ct Pr 247 [.int .u32 (crc:Int),b.v] .one [.int .u32] [] (RAr U8 b xs) (fun t Bs=>t.1=(QFZ crc xs:Int)∧Bs=[]):=by
 refine sp1 (QK5 _ _) fun B hr=>?_;have fb:Fro B b U8 xs:=⟨hr⟩;have hb:=hr.1;unfold QK5 mf;dsimp only;have e0:bits .xor .u32 4294967295 (crc:Int)=((4294967295 ^^^ crc:Nat):Int):=u32_xor_nat 4294967295 crc (by decide) hc;rw[e0];have hi:4294967295 ^^^ crc<4294967296:=QHQ (by decide) hc;refine QBb (fun(n:Nat) (r:Int) (i:Int) As=>∃k:Nat,i=(k:Int)∧r=(QaG (4294967295 ^^^ crc) (xs.take k):Int)∧n=xs.length - k∧k≤xs.length∧As=[]) xs.length ⟨0,rfl,rfl,rfl,by omega,rfl⟩ ?_;rintro n _ _ _ K ⟨k,rfl,rfl,rfl,hk,rfl⟩ hK;have hlt:=QTM (xs.take k) hi
 have hs:k<xs.length→QaG (4294967295 ^^^ crc) (xs.take (k+1))=QcH (QaG (4294967295 ^^^ crc) (xs.take k)) (xs.getD k 0).toNat:=fun h=>by
  rw[List.take_add_one,List.getElem?_eq_getElem h];show QaG _ (xs.take k++[xs[k]])=_;rw[QXo,List.getD_eq_getElem?_getD,List.getElem?_eq_getElem h];rfl
 generalize hr':QaG (4294967295 ^^^ crc) (xs.take k)=r at *
 refine QAB (fun h=>?_) (fun h=>?_)
 ·have hkl:k<xs.length:=by omega
  have hx:=List.getElem?_eq_getElem hkl;have hy:=QGh xs[k];have hs:=hs hkl;rw[List.getD_eq_getElem?_getD,hx]at hs;simp only[Option.getD_some]at hs
  generalize xs[k]=y at *
  refine QAI (h1:=hkl) (h:=fun _ _=>?_);refine QAO hx (h:=?_)
  have e1:bits .xor .u32 (r:Int) (IntKind.u32.wrap (y.toNat:Int))=((r ^^^ y.toNat:Nat):Int):=by
   rw[QEj y.toNat (by omega)];exact u32_xor_nat r y.toNat hlt (by omega)
  rw[e1];have h2:r ^^^ y.toNat<4294967296:=QHQ hlt (by omega);refine QBb (fun(n:Nat) (r1:Int) (i:Int) As=>∃j:Nat,i=(j:Int)∧r1=(QS2 j (r ^^^ y.toNat):Int)∧n=8 - j∧j≤8∧As=[]) 8 ⟨0,rfl,rfl,rfl,by omega,rfl⟩ ?_;rintro n _ _ _ K2 ⟨j,rfl,rfl,rfl,hj,rfl⟩ hK2;have hl2:=QOv j h2;refine QAB (fun h=>?_) (fun h=>?_)
  ·have hstep:QS2 (j+1) (r ^^^ y.toNat)=Qdz (QS2 j (r ^^^ y.toNat)):=rfl
   generalize QS2 j (r ^^^ y.toNat)=q at *
   have eb:=QaT q hl2;refine QA6 (by decide) (QAJ ?_);rw[QAF j (by omega)];refine xif (fun g=>?_) (fun g=>?_)
   ·rw[if_pos g]at eb;rw[eb];exact hK2 (8 - (j+1)) _ _ _ (by omega) ⟨j+1,rfl,by rw[hstep],rfl,by omega,rfl⟩
   ·rw[if_neg (by rw[g];simp)]at eb;rw[eb];exact hK2 (8 - (j+1)) _ _ _ (by omega) ⟨j+1,rfl,by rw[hstep],rfl,by omega,rfl⟩
  ·have:j=8:=by omega
   subst this;rw[QAF k (by omega)];refine hK (xs.length - (k+1)) _ _ _ (by omega) ⟨k+1,rfl,?_,rfl,by omega,rfl⟩;rw[hs];rfl
 ·have:k=xs.length:=by omega
  subst this;rw[List.take_length]at hr';refine QAE ⟨?_,rfl⟩;rw[show bits .xor .u32 4294967295 (r:Int)=((4294967295 ^^^ r:Nat):Int) from u32_xor_nat 4294967295 r (by decide) hlt,←hr'];rfl
end Go.Cx
namespace Go.Cx
open Go Go.Cf
set_option linter.unusedVariables false
variable {B:QBG}{As:List HP}
theorem QO3(b:Sl)(xs:List UInt8)(hm:xs.length≤140737488351232):Ct Pr 157 [b.v] .one [.int .u32] [] (RAr U8 b xs) (fun t Bs=>t.1=(QFZ 0 xs:Int)∧Bs=[]):=by
 refine sp1 (QNt _) fun B hr=>?_;have fb:Fro B b U8 xs:=⟨hr⟩;unfold QNt mf;dsimp only;refine xcl (QQM 0 (by decide) b xs hm) rdb ?_;rintro⟨r,_⟩ _ ⟨h,rfl⟩;exact QAz (ca1 (QAE ⟨h,rfl⟩))
theorem QOH(p:Sl)(xs:List UInt8)(hm:xs.length≤65535):Ct Pr 264 [p.v] .one [.int .u32] [] (RAr U8 p xs) (fun t Bs=>t.1=(QWy xs:Int)∧Bs=[]):=by
 refine sp1 (QMB _) fun B hr=>?_;have fb:Fro B p U8 xs:=⟨hr⟩;have hp:=hr.1;unfold QMB mf;dsimp only;refine QA6 (by decide) ?_;rw[QCy p.n _ 256 (by decide),QAr,QAr,←hp];refine QAL fun b=>?_;refine QAf (Q:=Ar U8 ⟨some ⟨b,0,none⟩,2,2⟩ (hdN xs.length)) 0 (fun g hg=>⟨[],QAm (hdN xs.length) 2 rfl rfl hg⟩) ?_;refine xcl (QO3 ⟨some ⟨b,0,none⟩,2,2⟩ (hdN xs.length) (by show 2≤_;omega)) rdb ?_;rintro⟨r,_⟩ _ ⟨h,rfl⟩;simp only at h;subst h;refine QAz (ca1 ?_);refine xcl (QQM (QFZ 0 (hdN xs.length)) (QcJ (by decide) _) p xs (by omega)) rdb ?_;rintro⟨r,_⟩ _ ⟨h,rfl⟩;exact QAz (ca1 (QB1 0 (QAE ⟨h,rfl⟩)))
end Go.Cx
namespace Go.Cf
open Go
set_option linter.unusedVariables false
variable {B:QBG}{As:List HP}{α:Type}
theorem QYi{P:Program}{t e:TypeId}{sz by_:Nat}{z:List Value}[a:QH9 P t e sz by_ z](E:Enc α)(n c:Nat){K:Sl→WP}(h0:n≤c)(hb:c*by_≤140737488355328)(hsz:E.sz=sz:=by rfl)(hz:E.f E.zero=z:=by rfl)
  (h:∀b,Ent B (Ars E ⟨some ⟨b,0,none⟩,n,c⟩ (List.replicate n E.zero) (List.replicate (c - n) E.zero)::As) (K ⟨some ⟨b,0,none⟩,n,c⟩)):Ent B As (QfH P t (.I (n:Int)) (.I (c:Int)) K):=by
 intro w hw;obtain⟨i,z0,ht,hi,hsize,hbytes,hpos,hz0,hzs⟩:=QBs a.ok;obtain⟨i',z',hi',hz',hzf⟩:=QCF a.zero
 obtain rfl:i'=i:=by rw[hi]at hi';exact (Option.some.inj hi').symm
 obtain rfl:z'=z0:=by rw[hz0]at hz';exact (Option.some.inj hz').symm
 have hle:c≤c*by_:=Nat.le_mul_of_pos_right _ hpos
 have hr:=run_make (P:=P) w t e i' z' ht hi hz0 .i64 .i64 (n:Int) (c:Int) (by omega) (by omega) (by
  have:((i'.bytes*c:Nat):Int)≤281474976710656:=by rw[hbytes,Nat.mul_comm];omega
  rw[Int.natCast_mul]at this
  exact this) (by omega)
 rw[hsize,QHj _ _ _ hzs,←hzf,←hz,QEJ]at hr;refine⟨⟨some ⟨w.heap.size,0,none⟩,n,c⟩,_,hr,h w.heap.size _ ?_⟩;obtain⟨g,hg,hm,hu⟩:=hw.alloc (QAg E (List.replicate c E.zero)) e;refine⟨g,QA2 (fun q hq=>?_) hg,hm,hu⟩;refine Ars.of_blk (pre:=[]) (post:=[]) (b:=w.heap.size) (o:=0) ?_ rfl rfl (by simp) (by simp;omega) (by show c≤_;omega);rw[List.replicate_append_replicate,show n+(c - n)=c by omega];simpa using hq
theorem Qep{P:Program}{t u ty e:TypeId}{sz by_:Nat}{z:List Value}[a:QH9 P t e sz by_ z]{E:Enc α}{s y:Sl}{xs zs ys:List α}{F:List HP}{K:Int→WP}
  (hy:∀w,Sx B (Ars E s xs zs::F) w→RAr E y ys (mem w)) (hsz:E.sz=sz:=by rfl) (hl:ys.length=xs.length) (hn:xs.length=s.n) (hc:s.n≤s.c)
  (h:∀n,Ent B (Ars E s ys zs::F) (K n)):Ent B (Ars E s xs zs::F) (QbC P t u ty s.v y.v K):=by
 have e:s.cut 0 s.n s.c sz=s:=QHN s s.n sz
 have:=QRZ (P:=P) (t:=t) (u:=u) (ty:=ty) (K:=K) (s:=s) (y:=y) (l:=0) (r:=s.n) (m:=s.c) (sz:=sz) (xs:=xs) (zs:=zs) (ys:=ys) (F:=F) (B:=B) hy ys zs (hsz:=hsz) (hrm:=hc) (hlk:=by omega) (hl:=hl) (he:=by
  have:min ys.length (s.n - 0)=xs.length:=by omega
  rw[this,Nat.zero_add,List.drop_left,List.take_zero,List.take_of_length_le (by omega)];rfl) (h:=h)
 rw[e]at this;exact this
end Go.Cf
namespace Go.Cx
open Go Go.Cf
set_option linter.unusedVariables false
variable {B:QBG}{As:List HP}
theorem QFe(p:Sl)(xs:List UInt8)(hm:xs.length≤1024):Ct Pr 192 [p.v] (.tup [none,none]) [.slice,.I] [] (RAr U8 p xs) (fun t Bs=>t.2.1=0∧Bs=[Ar U8 t.1 (QAk xs)]):=by
 refine sp2 (QIq _) fun B hr=>?_;have fb:Fro B p U8 xs:=⟨hr⟩;have hp:=hr.1;unfold QIq mf;dsimp only;refine QBF (by rw[←hp];simp;omega) ?_;refine xcl (QOH p xs (by omega)) rdb ?_;rintro⟨r,_⟩ _ ⟨h,rfl⟩;simp only at h;subst h;refine QAz (ca1 ?_);rw[show IntKind.i64.wrap (6+(p.n:Int))=((6+xs.length:Nat):Int) by rw[QAD _ (by omega) (by omega)];omega];refine QYi U8 6 (6+xs.length) (by omega) (by omega) (h:=fun b=>?_);refine QA6 (by decide) (QA6 (by decide) (QA6 (by decide) (QA6 (by decide) ?_)));rw[QCy p.n _ 256 (by decide),QAr,QAr,←hp,QCy (QWy xs) _ 16777216 (by decide),QCy (QWy xs) _ 65536 (by decide),QCy (QWy xs) _ 256 (by decide),QAr,QAr,QAr,QAr];refine QAL fun b1=>?_;refine QAf (Q:=Ar U8 ⟨some ⟨b1,0,none⟩,6,6⟩ (hdN xs.length++QeT (QWy xs))) 0 (fun g hg=>⟨[],QAm (hdN xs.length++QeT (QWy xs)) 6 rfl rfl hg⟩) (QGK 1 ?_);refine Qep (y:=⟨some ⟨b1,0,none⟩,6,6⟩) (ys:=hdN xs.length++QeT (QWy xs)) (fun w hw=>?_) (hl:=by rw[List.length_replicate];rfl) (hn:=by rw[List.length_replicate]) (hc:=by simp only;omega) (h:=fun n=>?_)
 ·obtain⟨g,hg,hs⟩:=hw.tail.head;exact hg.read.mono hs
 refine xar ?_;refine QHX (y:=p) (hb:=by rw[show (hdN xs.length++QeT (QWy xs)).length=6 from rfl];omega) (h:=fun s1=>?_);exact QB1 1 (QAE ⟨rfl,rfl⟩)
theorem QNZ(a b i:Nat)(h:b<2 ^ i):(a*2 ^ i) ||| b=a*2 ^ i+b:=by
 rw[←Nat.shiftLeft_eq];exact (Nat.shiftLeft_add_eq_or_of_lt h a).symm
theorem QWU(a b:Nat)(ha:a<65536)(hb:b<65536):bits .or .i64 (a:Int) (b:Int)=((a ||| b:Nat):Int):=by
 have hx:a ||| b<2 ^ 16:=Nat.or_lt_two_pow (by omega) (by omega);show IntKind.i64.wrap ((BitVec.ofInt 64 (a:Int) ||| BitVec.ofInt 64 (b:Int)).toNat:Int)=_;rw[BitVec.toNat_or,ofInt_u64 a (by omega),ofInt_u64 b (by omega),QAD _ (by omega) (by omega)]
theorem QNT(x y:UInt8):bits .or .i64 (IntKind.i64.wrap ((IntKind.i64.wrap (x.toNat:Int))*2 ^ (min (Int.toNat 8) 64))) (IntKind.i64.wrap (y.toNat:Int))=((x.toNat*256+y.toNat:Nat):Int):=by
 have hx:=QGh x;have hy:=QGh y
 have e:(2:Int) ^ (min (Int.toNat 8) 64)=256:=by decide
 rw[e,QAD (x.toNat:Int) (by omega) (by omega),QAD ((x.toNat:Int)*256) (by omega) (by omega),QAD (y.toNat:Int) (by omega) (by omega)]
 have e2:((x.toNat:Int)*256)=((x.toNat*256:Nat):Int):=by omega
 rw[e2,QWU _ _ (by omega) (by omega)];rw[show x.toNat*256=x.toNat*2 ^ 8 from rfl,QNZ _ _ 8 (by omega)]
theorem QeK(a b c d:UInt8):bits .or .u32 (bits .or .u32 (bits .or .u32 (IntKind.u32.wrap ((IntKind.u32.wrap (a.toNat:Int))*2 ^ (min (Int.toNat 24) 32))) (IntKind.u32.wrap ((IntKind.u32.wrap (b.toNat:Int))*2 ^ (min (Int.toNat 16) 32)))) (IntKind.u32.wrap ((IntKind.u32.wrap (c.toNat:Int))*2 ^ (min (Int.toNat 8) 32)))) (IntKind.u32.wrap (d.toNat:Int))=(((((a.toNat*256+b.toNat)*256+c.toNat)*256+d.toNat:Nat)):Int):=by
 have ha:=QGh a;have hb:=QGh b;have hc:=QGh c;have hd:=QGh d
 generalize a.toNat=a at *
 generalize b.toNat=b at *
 generalize c.toNat=c at *
 generalize d.toNat=d at *
 have e1:(2:Int) ^ (min (Int.toNat 24) 32)=16777216:=by decide
 have e2:(2:Int) ^ (min (Int.toNat 16) 32)=65536:=by decide
 have e3:(2:Int) ^ (min (Int.toNat 8) 32)=256:=by decide
 rw[e1,e2,e3,QEj a (by omega),QEj b (by omega),QEj c (by omega),QEj d (by omega)]
 have f1:IntKind.u32.wrap ((a:Int)*16777216)=((a*16777216:Nat):Int):=by rw[show ((a:Int)*16777216)=((a*16777216:Nat):Int) by omega,QEj _ (by omega)]
 have f2:IntKind.u32.wrap ((b:Int)*65536)=((b*65536:Nat):Int):=by rw[show ((b:Int)*65536)=((b*65536:Nat):Int) by omega,QEj _ (by omega)]
 have f3:IntKind.u32.wrap ((c:Int)*256)=((c*256:Nat):Int):=by rw[show ((c:Int)*256)=((c*256:Nat):Int) by omega,QEj _ (by omega)]
 rw[f1,f2,f3]
 have g1:a*16777216 ||| b*65536=(a*256+b)*65536:=by
  rw[show a*16777216=a*2 ^ 24 from rfl,QNZ _ _ 24 (by omega)];omega
 have g2:(a*256+b)*65536 ||| c*256=((a*256+b)*256+c)*256:=by
  rw[show (a*256+b)*65536=(a*256+b)*2 ^ 16 from rfl,QNZ _ _ 16 (by omega)];omega
 have g3:((a*256+b)*256+c)*256 ||| d=((a*256+b)*256+c)*256+d:=by
  rw[show ((a*256+b)*256+c)*256=((a*256+b)*256+c)*2 ^ 8 from rfl,QNZ _ _ 8 (by omega)]
 rw[u32_or_nat _ _ (by omega) (by omega),g1,u32_or_nat _ _ (by omega) (by omega),g2,u32_or_nat _ _ (by omega) (by omega),g3]
theorem QFc(b:Sl)(xs:List UInt8)(hm:xs.length≤140737488351232)(hcap:b.n≤b.c):Ct Pr 183 [b.v] (.tup [none,none,none]) [.slice,.I,.I] [] (RAr U8 b xs)
  (fun t Bs=>t.2.1=((QBN xs).2.1:Int)∧t.2.2.1=(QBN xs).2.2∧Bs=[Ar U8 t.1 (QBN xs).1]):=by
 refine sp3 (QQb _) fun B hr=>?_;have fb:Fro B b U8 xs:=⟨hr⟩;have hb:=hr.1;unfold QQb mf;dsimp only;refine QAB (fun h=>?_) (fun h=>?_)
 ·refine QAd U8 (QAE ?_);unfold QBN;rw[if_pos (by omega)];exact⟨rfl,rfl,rfl⟩
 have h6:6≤xs.length:=by omega
 have x0:=List.getElem?_eq_getElem (l:=xs) (i:=0) (by omega);have x1:=List.getElem?_eq_getElem (l:=xs) (i:=1) (by omega);have x2:=List.getElem?_eq_getElem (l:=xs) (i:=2) (by omega);have x3:=List.getElem?_eq_getElem (l:=xs) (i:=3) (by omega);have x4:=List.getElem?_eq_getElem (l:=xs) (i:=4) (by omega);have x5:=List.getElem?_eq_getElem (l:=xs) (i:=5) (by omega)
 have hfl:QGA xs=xs[0].toNat*256+xs[1].toNat:=by unfold QGA;rw[QCa x0,QCa x1]
 have hcr:QWm xs=((xs[2].toNat*256+xs[3].toNat)*256+xs[4].toNat)*256+xs[5].toNat:=by unfold QWm;rw[QCa x2,QCa x3,QCa x4,QCa x5]
 generalize xs[0]=y0 at *
 generalize xs[1]=y1 at *
 generalize xs[2]=y2 at *
 generalize xs[3]=y3 at *
 generalize xs[4]=y4 at *
 generalize xs[5]=y5 at *
 refine QAP ?_;refine QAI (k:=0) (h1:=by omega) (h:=fun _ _=>?_);refine QAO x0 (h:=QA6 (by decide) ?_);refine QAI (k:=1) (h1:=by omega) (h:=fun _ _=>?_);refine QAO x1 (h:=?_);rw[QNT y0 y1,←hfl];refine QAB (fun g=>?_) (fun g=>?_)
 ·refine QAd U8 (QAE ?_);unfold QBN;rw[if_neg (by omega),if_pos (by omega)];exact⟨rfl,rfl,rfl⟩
 rw[show IntKind.i64.wrap (6+((QGA xs:Nat):Int))=((6+QGA xs:Nat):Int) by rw[QAD _ (by omega) (by omega)];omega];refine QAB (fun g2=>?_) (fun g2=>?_)
 ·refine QAd U8 (QAE ?_);unfold QBN;rw[if_neg (by omega),if_neg (by omega),if_pos (by omega)];exact⟨rfl,rfl,rfl⟩
 have hgo:QBN xs=if QWm xs=QWy ((xs.take (6+QGA xs)).drop 6) then ((xs.take (6+QGA xs)).drop 6,6+QGA xs,0) else ([],0,5):=by
  unfold QBN;rw[if_neg (by omega),if_neg (by omega),if_neg (by omega)]
 have fc:Fro B (b.cut 6 (6+QGA xs) b.c 1) U8 ((xs.take (6+QGA xs)).drop 6):=⟨hr.cut 6 (6+QGA xs) b.c (by omega) (by omega) (by omega)⟩
 have hpl:((xs.take (6+QGA xs)).drop 6).length=QGA xs:=by simp;omega
 generalize (xs.take (6+QGA xs)).drop 6=q at *
 refine QAL fun b1=>?_;refine QAf (Q:=Ar U8 ⟨some ⟨b1,0,none⟩,0,0⟩ []) 0 (fun g hg=>⟨[],QAm [] 0 rfl rfl hg⟩) ?_;refine QEf (by omega) (by omega) (by omega) (by omega) ?_;simp only[Int.toNat_natCast];refine QHX (s:=⟨some ⟨b1,0,none⟩,0,0⟩) (y:=b.cut 6 (6+QGA xs) b.c 1) (hb:=by rw[hpl];simp;omega) (h:=fun s1=>?_);rw[List.nil_append];refine QAP ?_;refine QAI (k:=2) (h1:=by omega) (h:=fun _ _=>?_);refine QAO x2 (h:=QA6 (by decide) ?_);refine QAI (k:=3) (h1:=by omega) (h:=fun _ _=>?_);refine QAO x3 (h:=QA6 (by decide) ?_);refine QAI (k:=4) (h1:=by omega) (h:=fun _ _=>?_);refine QAO x4 (h:=QA6 (by decide) ?_);refine QAI (k:=5) (h1:=by omega) (h:=fun _ _=>?_);refine QAO x5 (h:=?_);refine xcl (QOH s1 q (by omega)) rdb ?_;rintro⟨r,_⟩ _ ⟨hs,rfl⟩;simp only at hs;subst hs;refine QAz (ca1 ?_);refine QNL x5 (h:=?_);refine QNL x4 (h:=?_);refine QNL x3 (h:=?_);refine QNL x2 (h:=?_);rw[QeK,←hcr];refine xif (fun e=>?_) (fun e=>?_)
 ·have e:¬QWm xs=QWy q:=by simp at e;omega
  rw[hgo,if_neg e];exact QB1 0 (QAd U8 (QAE ⟨rfl,rfl,rfl⟩))
 ·have e:QWm xs=QWy q:=by simp at e;omega
  rw[hgo,if_pos e];exact QAE ⟨rfl,rfl,rfl⟩
end Go.Cx
namespace Go.Cf
open Go
set_option linter.unusedVariables false
variable {B:QBG}{As:List HP}{α:Type}
theorem QeO{P:Program}{t u ty e:TypeId}{sz by_:Nat}{z:List Value}[a:QH9 P t e sz by_ z]{E:Enc α}{s y:Sl}{xs zs ys:List α}{F:List HP}{K:Int→WP}
  (hy:∀w,Sx B (Ars E s xs zs::F) w→RAr E y ys (mem w)) (hsz:E.sz=sz:=by rfl) (hl:ys.length≤xs.length) (hn:xs.length=s.n) (hc:s.n≤s.c)
  (h:∀n,Ent B (Ars E s (ys++xs.drop ys.length) zs::F) (K n)):Ent B (Ars E s xs zs::F) (QbC P t u ty s.v y.v K):=by
 have e:s.cut 0 s.n s.c sz=s:=QHN s s.n sz
 have:=QRZ (P:=P) (t:=t) (u:=u) (ty:=ty) (K:=K) (s:=s) (y:=y) (l:=0) (r:=s.n) (m:=s.c) (sz:=sz) (xs:=xs) (zs:=zs) (ys:=ys) (F:=F) (B:=B) hy (ys++xs.drop ys.length) zs (hsz:=hsz) (hrm:=hc) (hlk:=by omega) (hl:=by simp;omega) (he:=by
  have:min ys.length (s.n - 0)=ys.length:=by omega
  rw[this,Nat.zero_add,List.take_zero,List.take_of_length_le (by omega),List.drop_append_of_le_length hl];simp) (h:=h)
 rw[e]at this;exact this
end Go.Cf
namespace Go.Cx
open Go Go.Cf
set_option linter.unusedVariables false
variable {B:QBG}{As:List HP}
theorem Qaa:∀k:Nat,k<8→(2:Int) ^ (min (Int.toNat (IntKind.i64.wrap (8*(k:Int)))) 64)=((256 ^ k:Nat):Int)∧0≤IntKind.i64.wrap (8*(k:Int)):=by decide
end Go.Cx
namespace Go.Cx
open Go Go.Cf
set_option linter.unusedVariables false
variable {B:QBG}{As:List HP}
theorem Qfi(v:Nat)(y:UInt8)(hv:v<72057594037927936):bits .or .u64 (IntKind.u64.wrap ((v:Int)*2 ^ (min (Int.toNat 8) 64))) (IntKind.u64.wrap (y.toNat:Int))=((v*256+y.toNat:Nat):Int):=by
 have hy:=QGh y
 have e:(2:Int) ^ (min (Int.toNat 8) 64)=256:=by decide
 rw[e,show (v:Int)*256=((v*256:Nat):Int) by omega,QO0 _ (by omega),QO0 _ (by omega),u64_or_nat _ _ (by omega) (by omega),show v*256=v*2 ^ 8 from rfl,QNZ _ _ 8 (by omega)]
structure Cu where
 a:Int
 b:Int
 c:Int
abbrev QdY:Int:=1099511627776
def okN(x:Int):Bool:=decide (0≤x)&&decide (x≤QdY)
def QZl(c:Cu):Bool:=okN c.a&&(okN c.b&&okN c.c)
abbrev Cu.v(c:Cu):Value:=.agg #[.I c.a,.I c.b,.I c.c]
theorem QVx{cs:List Value}{k n:Nat}{s:Sh}{x:s.ty}{K:s.ty→WP}(h:cs[k]? = some (s.mk x))(hk:k<n)(hK:Ent B As (K x)):Ent B As (QMH cs (k:Int) n s K):=
 fun w hw=>⟨by omega,by omega,x,by rw[Int.toNat_natCast];exact h,hK w hw⟩
theorem QZw(x:Int):(decide (x<0)||decide (x>QdY)) = !(okN x):=by
 show _ = !(decide (0≤x)&&decide (x≤1099511627776));by_cases h1:x<0<;>by_cases h2:x>1099511627776<;>simp[h1,h2] <;> omega
end Go.Cx
namespace Go.Cx
open Go Go.Cf
set_option linter.unusedVariables false
variable {B:QBG}{As:List HP}
theorem QN1(s:Sl)(xs:List UInt8){h:QBh}(hr:RAr U8 s xs h)(at':Nat)(ha:at'≤xs.length)(hcap:s.n≤s.c):RAr U8 (s.cut at' s.n s.c 1) (xs.drop at') h:=by
 have:=hr.cut at' s.n s.c (by have:=hr.1;omega) hcap (by rw[hr.1];exact Nat.le_refl _);rw[List.take_of_length_le (by rw[hr.1];exact Nat.le_refl _)]at this;exact this
theorem QQT(b:Sl)(xs:List UInt8)(hm:xs.length≤16777216)(hcap:b.n≤b.c):Ct Pr 176 [b.v] (.tup [none,none]) [.slice,.I] [] (RAr U8 b xs)
  (fun t Bs=>t.2.1=((QAv xs).2:Int)∧∃rs,Bs=[Ar SL t.1 rs,Each (Ar U8) rs (QAv xs).1]):=by
 refine sp2 (QNs _) fun B hr=>?_;have fb:Fro B b U8 xs:=⟨hr⟩;have hb:=hr.1;have hlen:=(QIl xs.length xs (Nat.le_refl _)).2.1;unfold QNs mf;dsimp only;refine QAd SL ?_;refine QYz (A:=Each (Ar U8) [] []) trivial ?_;refine QBb (fun n l i As=>∃(k:Nat) (rs:List Sl) (done:List (List UInt8)),i=(k:Int)∧n=xs.length - k∧k≤xs.length∧QAv xs=(done++(QAv (xs.drop k)).1,k+(QAv (xs.drop k)).2)∧As=[Each (Ar U8) rs done,Ar SL l rs]) xs.length ⟨0,[],[],rfl,rfl,by omega,by simp,rfl⟩ ?_;rintro n l _ _ K ⟨k,rs,done,rfl,rfl,hk,hsc,rfl⟩ hK;refine QEf (by omega) (by omega) (by omega) (by omega) ?_;simp only[Int.toNat_natCast];have hdl:(xs.drop k).length=xs.length - k:=List.length_drop;refine xcl (pre:=[]) (G:=[Each (Ar U8) rs done,Ar SL l rs]) (QFc (b.cut k b.n b.c 1) (xs.drop k) (by omega) (by simp only[Sl.cut];omega)) (QJ8 fun g hg _ _ _=>(QN1 b xs hr k hk hcap).mono hg) ?_;rintro⟨s1,r,r1,_⟩ _ ⟨h1,h2,rfl⟩;simp only at h1 h2;subst h1 h2;refine QA8 (ca3 ?_);refine xif (fun h=>?_) (fun h=>?_)
 ·have h:¬(QBN (xs.drop k)).2.2=0:=by simpa using h
  rw[QMG h]at hsc;refine QAM [Ar SL l rs,Each (Ar U8) rs done] (QAE ⟨?_,rs,?_⟩)
  ·rw[hsc];simp
  ·rw[hsc];simp
 ·have h:(QBN (xs.drop k)).2.2=0:=by simpa using h
  obtain⟨g1,g2,_⟩:=QMM h;rw[QS4 h]at hsc;refine QCC 1 (fun g hg=>Each.length hg) fun hrl=>?_
  have hdn:done.length+1≤xs.length:=by
   have:=congrArg (fun p=>p.1.length) hsc;simp only[List.length_append,List.length_cons]at this;omega
  refine QAL fun b1=>?_;refine QEQ s1 (hb:=by omega) (h:=fun s2=>?_);rw[show IntKind.i64.wrap ((k:Int)+((QBN (xs.drop k)).2.1:Int))=((k+(QBN (xs.drop k)).2.1:Nat):Int) by rw[QAD _ (by omega) (by omega)];omega];refine QBR [Each (Ar U8) rs done,Ar U8 s1 (QBN (xs.drop k)).1] (Each (Ar U8) (rs++[s1]) (done++[(QBN (xs.drop k)).1])) (fun g hg=>QEV hg) ?_;refine hK (xs.length - (k+(QBN (xs.drop k)).2.1)) _ _ _ (by omega) ⟨k+(QBN (xs.drop k)).2.1,rs++[s1],done++[(QBN (xs.drop k)).1],rfl,rfl,by omega,?_,rfl⟩;rw[List.drop_drop]at hsc;rw[hsc];simp[Nat.add_assoc]
end Go.Cx
namespace Go.Cx
open Go Go.Cf
set_option linter.unusedVariables false
end Go.Cx
namespace Go.Cx
open Go Go.Cf
set_option linter.unusedVariables false
variable {B:QBG}{As:List HP}
theorem QGV(b:Sl)(xs:List UInt8)(a:Nat)(ha:a+8≤xs.length)(hm:xs.length≤140737488351232)(hcap:b.n≤b.c):Ct Pr 184 [b.v,.I (a:Int),.I 8] (.tup [none,none]) [.int .u64,.I] [] (RAr U8 b xs)
  (fun t Bs=>t.1=(beV (QKn xs a):Int)∧t.2.1=0∧Bs=[]):=by
 refine sp2 (QU8 _ _ _) fun B hr=>?_;have fb:Fro B b U8 xs:=⟨hr⟩;have hb:=hr.1;unfold QU8 mf;dsimp only;refine QBF rfl (QBF ?_ ?_)
 ·rw[QAD _ (by omega) (by omega)];simp;omega
 rw[show IntKind.i64.wrap ((a:Int)+8)=((a+8:Nat):Int) by rw[QAD _ (by omega) (by omega)];omega];refine QEf (by omega) (by omega) (by omega) (by omega) ?_;simp only[Int.toNat_natCast];have fc:Fro B (b.cut a (a+8) b.c 1) U8 (QKn xs a):=⟨hr.cut a (a+8) b.c (by omega) (by omega) (by omega)⟩;have hq:=QU3 ha;have hsn:=fc.rd.1;refine QBb (fun(n:Nat) (v:Int) (i:Int) As=>∃k:Nat,i=(k:Int)∧v=((beV ((QKn xs a).take k):Nat):Int)∧n=8 - k∧k≤8∧As=[]) 8 ⟨0,rfl,rfl,rfl,by omega,rfl⟩ ?_;rintro n _ _ _ K ⟨k,rfl,rfl,rfl,hk,rfl⟩ hK;refine QAB (fun h=>?_) (fun h=>?_)
 ·have hk8:k<8:=by omega
  have hx:=List.getElem?_eq_getElem (l:=QKn xs a) (i:=k) (by omega);refine QAI (h1:=by omega) (h:=fun _ _=>?_);refine QAO hx (h:=QA6 (by decide) ?_);rw[Qfi _ _ (QI7 hq hk8),QAF k (by omega)];exact hK (8 - (k+1)) _ _ _ (by omega) ⟨k+1,rfl,by rw[QK0 hx],rfl,by omega,rfl⟩
 ·have hk8:k=8:=by omega
  subst hk8;rw[List.take_of_length_le (by omega)];exact QAE ⟨rfl,rfl,rfl⟩
end Go.Cx
