import Derived.Test.YthbhbkjkclhkgaaGreatDoorFK1
import Derived.Test.YthbhbkjkclhkgaaGreatDoorST
import Derived.Test.YthbhbkjkclhkgaaGreatDoorSX
import Derived.Test.YthbhbkjkclhkgaaGreatDoorT1
import Derived.Test.YthbhbkjkclhkgaaGreatDoorDK
import Derived.Test.YthbhbkjkclhkgaaGreatDoorA4
import Derived.Test.YthbhbkjkclhkgaaGreatDoorA3
namespace Go.Cx.Pn
open Go Go.Cf Go.Cx Go.Proofs Go.Shelf Go.RowKit Go.Sort
set_option linter.unusedVariables false
set_option maxRecDepth 100000
variable {B:QBE}{As F:List HP}{α:Type}
structure Tag where
 name:ByteArray
 unit:Int
 kind:Int
 addr:Int
 every:Int
 wide:Bool
 sgn:Bool
 swap:Bool
 mul:Int
 div:Int
 add:Int
 dead:Int
 quiet:Int
 ulow:Bool
 uhigh:Bool
 latch:Bool
 low:Int
 high:Int
 hyst:Int
def Tag.cells(t:Tag):List Value:=[.string t.name,.I t.unit,.I t.kind,.I t.addr,.I t.every,.bool t.wide,.bool t.sgn,.bool t.swap,.I t.mul,.I t.div,.I t.add,.I t.dead,.I t.quiet,.bool t.ulow,.bool t.uhigh,.bool t.latch,.I t.low,.I t.high,.I t.hyst]
abbrev Tag.v(t:Tag):Value:=.agg #[.string t.name,.I t.unit,.I t.kind,.I t.addr,.I t.every,.bool t.wide,.bool t.sgn,.bool t.swap,.I t.mul,.I t.div,.I t.add,.I t.dead,.I t.quiet,.bool t.ulow,.bool t.uhigh,.bool t.latch,.I t.low,.I t.high,.I t.hyst]
abbrev Qgy:Tag:=⟨ByteArray.empty,0,0,0,0,false,false,false,0,0,0,0,0,false,false,false,0,0,0⟩
def TG:Enc Tag:=⟨Tag.cells,19,fun _=>rfl,fun t v h=>by
 simp only[Tag.cells,List.mem_cons,List.not_mem_nil,or_false]at h
 rcases h with h|h|h|h|h|h|h|h|h|h|h|h|h|h|h|h|h|h|h <;> (subst h;rfl),by decide,Qgy⟩
def QCZ(wide swap:Bool)(mul div add:Int):Int:=if mul=0∨mul < -1000000∨mul>1000000∨div<1∨div>1000000∨add < -1099511627776∨add>1099511627776∨(swap=true∧wide=false) then 25 else 0
def bandE(dead quiet:Int):Int:=if dead<0∨dead>1099511627776∨quiet<0∨quiet>1099511627776 then 26 else 0
def Tag.width(t:Tag):Int:=if t.wide=true∧(t.kind=3∨t.kind=4) then 2 else 1
def tagE(t:Tag):Int:=
 if QEQ t.name=false then 8
 else if t.unit<1∨t.unit>247 then 24
 else if t.kind<1∨t.kind>4 then 28
 else if t.addr<0∨t.addr>65536 - t.width then 21
 else if t.every<1∨t.every>1048576 then 3
 else if QCZ t.wide t.swap t.mul t.div t.add≠0 then QCZ t.wide t.swap t.mul t.div t.add
 else if t.kind≤2∧¬(t.wide=false∧t.sgn=false∧t.swap=false∧t.mul=1∧t.div=1∧t.add=0) then 25
 else if bandE t.dead t.quiet≠0 then bandE t.dead t.quiet
 else QZ5 t.ulow t.uhigh t.low t.high t.hyst
theorem QJK(t:Tag):t.width=1∨t.width=2:=by unfold Tag.width;split<;>simp
theorem QBg(x lo hi:Int)(h:lo≤hi):Ct Pr 348 [.I x,.I lo,.I hi] .one [.I] [] emp (fun t Bs=>((x != t.1)=(decide (x<lo)||decide (x>hi)))∧(t.1=if x<lo then lo else if x>hi then hi else x)∧Bs=[]):=by
 refine sp1 (QFS _ _ _) fun B _=>?_;unfold QFS mf;dsimp only
 have e:(if hi<if lo>x then lo else x then hi else if lo>x then lo else x)=(if x<lo then lo else if x>hi then hi else x):=by (repeat' split)<;>omega
 rw[e];refine QAD ⟨?_,rfl,rfl⟩;show (x != _)=_;by_cases h1:x<lo
 ·have h3:x≠lo:=by omega
  simp[h1,h3]
 ·by_cases h2:x>hi
  ·have h3:x≠hi:=by omega
   simp[h1,h2,h3]
  ·simp[h1,h2]
theorem QET(wide sgn swap:Bool)(mul div add:Int):Ct Pr 256 [.agg #[.bool wide,.bool sgn,.bool swap,.I mul,.I div,.I add]] .one [.I] [] emp (fun t Bs=>t.1=QCZ wide swap mul div add∧Bs=[]):=by
 refine sp1 (QMY _ _ _ _ _ _) fun B _=>?_;have fin:∀{x:Int}{As:List HP},x=QCZ wide swap mul div add→Ent B As (Ret B (ss:=[.I]) (fun t Bs=>t.1=QCZ wide swap mul div add∧Bs=[]) (x,())):=fun h=>QAa (l:=[]) (QAD ⟨h,rfl⟩);unfold QMY mf;dsimp only;refine QAL fun b=>QAO (QAJ (xgq (xif (fun h0=>?_) (fun h0=>?_))))
 ·refine QBz rfl (fin ?_);unfold QCZ;rw[if_pos (by simp at h0;omega)]
 refine xgq (xgq ?_);refine QAR (QBg _ _ _ (by decide)) rdb ?_;rintro⟨x,_⟩ _ ⟨hx,_,rfl⟩;refine QAy (ca1 (QC6 (h:=?_)));simp only at hx;rw[hx];refine xif (fun h1=>fin ?_) (fun h1=>?_)
 ·unfold QCZ;simp at h1;rw[if_pos (by omega)]
 refine QAO (xgq (xgq ?_));refine QAR (QBg _ _ _ (by decide)) rdb ?_;rintro⟨y,_⟩ _ ⟨hy,_,rfl⟩;refine QAy (ca1 (QC6 (h:=?_)));simp only at hy;rw[hy];refine xif (fun h2=>fin ?_) (fun h2=>?_)
 ·unfold QCZ;simp at h2;rw[if_pos (by omega)]
 refine QAO (xgq (xgq ?_));refine QAR (QBg _ _ _ (by decide)) rdb ?_;rintro⟨z,_⟩ _ ⟨hz,_,rfl⟩;refine QAy (ca1 (QC6 (h:=?_)));simp only at hz;rw[hz];refine xif (fun h3=>fin ?_) (fun h3=>?_)
 ·unfold QCZ;simp at h3;rw[if_pos (by omega)]
 simp at h0 h1 h2 h3;refine xgq (QAJ (xif (fun h4=>xgq ?_) (fun h4=>QBF rfl (fin ?_))))
 ·refine xif (fun h5=>fin ?_) (fun h5=>fin ?_)
  ·simp at h5;unfold QCZ;rw[if_pos (by simp[h4,h5])]
  ·simp at h5;unfold QCZ;rw[if_neg (by simp[h4,h5];omega)]
 ·unfold QCZ;rw[if_neg (by simp[h4];omega)]
theorem QM8(d q:Int):Ct Pr 257 [.agg #[.I d,.I q]] .one [.I] [] emp (fun t Bs=>t.1=bandE d q∧Bs=[]):=by
 refine sp1 (QNe _ _) fun B _=>?_;have fin:∀{x:Int}{As:List HP},x=bandE d q→Ent B As (Ret B (ss:=[.I]) (fun t Bs=>t.1=bandE d q∧Bs=[]) (x,())):=fun h=>QAa (l:=[]) (QAD ⟨h,rfl⟩);unfold QNe mf;dsimp only;refine QAL fun b=>xgq ?_;repeat' (first|refine QAJ ?_|refine QBz rfl ?_|refine QBF rfl ?_|refine xgq ?_|refine xif (fun h0=>?_) (fun h0=>?_))
 all_goals
  refine fin ?_
  simp only[decide_eq_true_eq,decide_eq_false_iff_not]at *
  unfold bandE;first|rw[if_pos (by omega)]|rw[if_neg (by omega)]
theorem QHY(t:Tag):Ct Pr 123 [t.v] .one [.I] [] emp (fun r Bs=>r.1=t.width∧Bs=[]):=by
 refine sp1 (QOE _ _ _ _ _ _ _ _ _ _ _ _ _ _ _ _ _ _ _) fun B _=>?_;have fin:∀{x:Int}{As:List HP},x=t.width→Ent B As (Ret B (ss:=[.I]) (fun r Bs=>r.1=t.width∧Bs=[]) (x,())):=fun h=>QAa (l:=[]) (QAD ⟨h,rfl⟩);unfold QOE mf;dsimp only;refine QAL fun b=>xgq (QAJ (xif (fun h=>xgq (QAJ (xif (fun h1=>QBz rfl (fin ?_)) (fun h1=>xgq (xif (fun h2=>fin ?_) (fun h2=>fin ?_)))))) (fun h=>QBF rfl (fin ?_))))
 all_goals
  unfold Tag.width;split<;>simp_all
def QhU(b:Nat)(t:Tag)(As:List HP):Prop:=As=[Blk b t.cells]
theorem QWi(t:Tag):Ct Pr 172 [t.v] .one [.I] [] emp (fun r Bs=>r.1=tagE t∧Bs=[]):=by
 refine QGr QSC fun B _=>?_;have fin:∀{x:Int}{As:List HP},x=tagE t→Ent B As (Ret B (ss:=[.I]) (fun r Bs=>r.1=tagE t∧Bs=[]) (x,())):=fun h=>QAa (l:=[]) (QAD ⟨h,rfl⟩);have hw:=QJK t;unfold QOc;refine QAL fun b=>xgq ?_;refine QAR (QQ7 _) rdb ?_;rintro⟨x,_⟩ _ ⟨hx,rfl⟩;simp only at hx;subst hx;refine QAy (ca1 (xif (fun h1=>fin ?_) (fun h1=>xgq (QAJ ?_))))
 ·unfold tagE;rw[if_pos (by simpa using h1)]
 have e1:¬QEQ t.name=false:=by simpa using h1
 have bad24:(t.unit<1∨t.unit>247)→24=tagE t:=fun h=>by unfold tagE;rw[if_neg e1,if_pos h]
 refine xif (fun h2=>QBz rfl (fin (bad24 (.inl (by simpa using h2))))) (fun h2=>QAE (h:=xif (fun h2'=>fin (bad24 (.inr (by simpa using h2')))) (fun h2'=>xgq (QAJ ?_))))
 have e2:¬(t.unit<1∨t.unit>247):=by simp at h2 h2';omega
 have bad28:(t.kind<1∨t.kind>4)→28=tagE t:=fun h=>by unfold tagE;rw[if_neg e1,if_neg e2,if_pos h]
 refine xif (fun h3=>QBz rfl (fin (bad28 (.inl (by simpa using h3))))) (fun h3=>QAE (h:=xif (fun h3'=>fin (bad28 (.inr (by simpa using h3')))) (fun h3'=>QAO (QAJ (xgq ?_)))))
 have e3:¬(t.kind<1∨t.kind>4):=by simp at h3 h3';omega
 have bad21:(t.addr<0∨t.addr>65536 - t.width)→21=tagE t:=fun h=>by unfold tagE;rw[if_neg e1,if_neg e2,if_neg e3,if_pos h]
 refine xif (fun h4=>QBz rfl (fin (bad21 (.inl (by simpa using h4))))) (fun h4=>?_);iterate 20 (refine xgq ?_)
 refine QAR (QHY t) rdb ?_;rintro⟨x,_⟩ _ ⟨hx,rfl⟩;simp only at hx;subst hx;refine QAy (ca1 (QC6 (h:=?_)));rw[QAB _ (by omega) (by omega)];refine xif (fun h4'=>fin (bad21 (.inr (by simpa using h4')))) (fun h4'=>xgq (QAJ ?_))
 have e4:¬(t.addr<0∨t.addr>65536 - t.width):=by simp at h4 h4';omega
 have bad3:(t.every<1∨t.every>1048576)→3=tagE t:=fun h=>by unfold tagE;rw[if_neg e1,if_neg e2,if_neg e3,if_neg e4,if_pos h]
 refine xif (fun h5=>QBz rfl (fin (bad3 (.inl (by simpa using h5))))) (fun h5=>QAE (h:=xif (fun h5'=>fin (bad3 (.inr (by simpa using h5')))) (fun h5'=>?_)))
 have e5:¬(t.every<1∨t.every>1048576):=by simp at h5 h5';omega
 iterate 6 (refine xgq ?_)
 refine QAR (QET _ _ _ _ _ _) rdb ?_;rintro⟨x,_⟩ _ ⟨hx,rfl⟩;simp only at hx;subst hx;refine QAy (ca1 (xif (fun h6=>fin ?_) (fun h6=>?_)))
 ·have h6:QCZ t.wide t.swap t.mul t.div t.add≠0:=by simpa using h6
  unfold tagE;rw[if_neg e1,if_neg e2,if_neg e3,if_neg e4,if_neg e5,if_pos h6]
 have e6:¬QCZ t.wide t.swap t.mul t.div t.add≠0:=by simpa using h6
 have rest:∀{As:List HP},QhU b t As→¬(t.kind≤2∧¬(t.wide=false∧t.sgn=false∧t.swap=false∧t.mul=1∧t.div=1∧t.add=0))→Ent B As
   (QAq (.I) ⟨b,11,none⟩ fun(n27:Int)=>QAq (.I) ⟨b,12,none⟩ fun(n28:Int)=>QAb Pr 257 [.agg #[.I n27,.I n28]] .one [.I]<|fun(r2:Int)=>XIf (r2 != 0) (Ret B (ss:=[.I]) (fun r Bs=>r.1=tagE t∧Bs=[]) (r2,())) (QAq .bool ⟨b,13,none⟩ fun(c18:Bool)=>QAq .bool ⟨b,14,none⟩ fun(c19:Bool)=>QAq .bool ⟨b,15,none⟩ fun(c20:Bool)=>QAq (.I) ⟨b,16,none⟩ fun(n29:Int)=>QAq (.I) ⟨b,17,none⟩ fun(n30:Int)=>QAq (.I) ⟨b,18,none⟩ fun(n31:Int)=>QAb Pr 258 [.agg #[.bool c18,.bool c19,.bool c20,.I n29,.I n30,.I n31]] .one [.I]<|fun(r3:Int)=>(Ret B (ss:=[.I]) (fun r Bs=>r.1=tagE t∧Bs=[]) (r3,())))):=by
  rintro As rfl e7;iterate 2 (refine xgq ?_)
  refine QAR (QM8 _ _) rdb ?_;rintro⟨x,_⟩ _ ⟨hx,rfl⟩;simp only at hx;subst hx;refine QAy (ca1 (xif (fun h8=>fin ?_) (fun h8=>?_)))
  ·have h8:bandE t.dead t.quiet≠0:=by simpa using h8
   unfold tagE;rw[if_neg e1,if_neg e2,if_neg e3,if_neg e4,if_neg e5,if_neg e6,if_neg e7,if_pos h8]
  have e8:¬bandE t.dead t.quiet≠0:=by simpa using h8
  iterate 6 (refine xgq ?_)
  refine QAR (QI0 _ _ _ _ _ _) rdb ?_;rintro⟨x,_⟩ _ ⟨hx,rfl⟩;simp only at hx;subst hx;refine QAy (ca1 (fin ?_));unfold tagE;rw[if_neg e1,if_neg e2,if_neg e3,if_neg e4,if_neg e5,if_neg e6,if_neg e7,if_neg e8]
 refine xgq (QAJ (xif (fun h7=>?_) (fun h7=>QBF rfl (rest rfl fun h=>?_))))
 ·iterate 6 (refine xgq ?_)
  refine xif (fun h7'=>fin ?_) (fun h7'=>rest rfl fun h=>?_)
  ·have e7:t.kind≤2∧¬(t.wide=false∧t.sgn=false∧t.swap=false∧t.mul=1∧t.div=1∧t.add=0):=by
    refine⟨by simpa using h7,?_⟩;rintro⟨q1,q2,q3,q4,q5,q6⟩;rw[q1,q2,q3,q4,q5,q6]at h7';cases h7'
   unfold tagE;rw[if_neg e1,if_neg e2,if_neg e3,if_neg e4,if_neg e5,if_neg e6,if_pos e7]
  ·refine h.2 ?_;simpa [Bool.and_eq_true,beq_iff_eq]using h7'
 ·simp at h7;omega
def QHq(ts:List Tag)(i:Nat):Int:=match ts[i]? with
 | none=>0
 | some t=>if tagE t≠0 then tagE t else match i with
  | 0=>0
  | k+1=>match ts[k]? with
   | none=>0
   | some u=>if (t.name.toList == u.name.toList)=true then 7 else if Op.bytesLess t.name.toList u.name.toList=true then 29 else 0
def QTC(ts:List Tag):Nat→Nat→Int×Int
 | 0,_=>(0,0)
 | n+1,i=>if QHq ts i≠0 then (QHq ts i,(i:Int)) else QTC ts n (i+1)
def allE(ts:List Tag):Int×Int:=if ts.length>64 then (34,0) else QTC ts ts.length 0
theorem QbL{ts:List Tag}:∀(n i:Nat),(QTC ts n i).1=0→∀k,i≤k→k<i+n→QHq ts k=0:=by
 intro n
 induction n with
 | zero=>intro i _ k h1 h2;omega
 | succ n ih=>
  intro i h k h1 h2;unfold QTC at h;split at h
  ·rename_i hb;exact absurd h hb
  ·rename_i hb
   by_cases e:k=i
   ·subst e;simpa using hb
   ·exact ih (i+1) h k (by omega) (by omega)
theorem allE_len{ts:List Tag}(h:(allE ts).1=0):ts.length≤64:=by
 unfold allE at h;split at h
 ·cases h
 ·omega
theorem allE_tag{ts:List Tag}(h:(allE ts).1=0){k:Nat}{t:Tag}(ht:ts[k]? = some t):tagE t=0:=by
 have hl:=allE_len h;unfold allE at h;rw[if_neg (by omega)]at h;have:=QbL _ _ h k (by omega) (by have:=(List.getElem?_eq_some_iff.1 ht).1;omega);unfold QHq at this;rw[ht]at this;simp only at this;split at this
 ·rename_i h0;exact absurd this h0
 ·rename_i h0;simpa using h0
theorem Qa1(x:List UInt8):Op.bytesLess x []=false:=by cases x<;>rfl
def QKg(ts:List Tag)(k:Nat):ByteArray:=match k with
 | 0=>ByteArray.empty
 | j+1=>match ts[j]? with
  | some u=>u.name
  | none=>ByteArray.empty
theorem CheckAll_spec(l:Sl)(ts:List Tag):Ct Pr 115 [l.v] (.tup [none,none]) [.I,.I] [] (RAr TG l ts) (fun r Bs=>r.1=(allE ts).1∧r.2.1=(allE ts).2∧Bs=[]):=by
 refine sp2 (QIT _) fun B hr=>?_;haveI:Fro B l TG ts:=⟨hr⟩;have hn:=hr.1;have fin:∀{x y:Int}{As:List HP},(x,y)=allE ts→Ent B As (Ret B (ss:=[.I,.I]) (fun r Bs=>r.1=(allE ts).1∧r.2.1=(allE ts).2∧Bs=[]) (x,y,())):=fun h=>QAa (l:=[]) (QAD ⟨by rw[←h],by rw[←h],rfl⟩);unfold QIT mf;dsimp only;refine QAA (fun h64=>fin ?_) (fun h64=>?_)
 ·unfold allE;rw[if_pos (by omega)]
 have hl:ts.length≤64:=by omega
 have he:allE ts=QTC ts ts.length 0:=by unfold allE;rw[if_neg (by omega)]
 refine QBb (fun n (last:ByteArray) (x:Int) As'=>∃k:Nat,x=(k:Int)∧n=ts.length - k∧k≤ts.length∧last=QKg ts k∧allE ts=QTC ts (ts.length - k) k) ts.length ⟨0,rfl,by omega,by omega,rfl,he⟩ ?_;rintro n last x As' K ⟨k,rfl,rfl,hk,rfl,hg⟩ hK;refine QAA (fun hp=>?_) (fun hp=>fin ?_)
 ·have hp:k<ts.length:=by omega
  refine QAH (h1:=hp) (h:=fun t ht=>?_);refine QAN ht (h:=?_);iterate 18 (refine QAZ ht (h:=?_))
  refine QAL fun b=>?_;iterate 19 (refine xsq ?_)
  iterate 19 (refine xgq ?_)
  refine QAR (QWi t) rdb ?_;rintro⟨x,_⟩ _ ⟨hx,rfl⟩;simp only at hx;subst hx
  have hg':allE ts=if QHq ts k≠0 then (QHq ts k,(k:Int)) else QTC ts (ts.length - (k+1)) (k+1):=by
   rw[hg,show ts.length - k=(ts.length - (k+1))+1 by omega];rfl
  refine QAy (ca1 (xif (fun h0=>fin ?_) (fun h0=>?_)))
  ·have h0:tagE t≠0:=by simpa using h0
   have hb:QHq ts k=tagE t:=by unfold QHq;rw[ht];simp only;rw[if_pos h0]
   rw[hg',hb,if_pos h0]
  have h0:tagE t=0:=by simpa using h0
  have next:QHq ts k=0→∀As'',Ent B As'' (K t.name (IntKind.i64.wrap ((k:Int)+1))):=fun hb As''=>by
   rw[QAF k (by omega)];refine hK (ts.length - (k+1)) _ _ _ (by omega) ⟨k+1,rfl,rfl,by omega,?_,?_⟩
   ·simp only[QKg,ht]
   ·rw[hg',if_neg (by simp[hb])]
  refine QAJ (xif (fun h1=>xgq (xif (fun h2=>fin ?_) (fun h2=>xgq (xif (fun h3=>fin ?_) (fun h3=>xgq (next ?_ _)))))) (fun h1=>QBF rfl (xgq (xif (fun h3=>?_) (fun h3=>xgq (next ?_ _))))))
  ·cases k with
   | zero=>simp at h1
   | succ j=>
    obtain⟨u,hu⟩:∃u,ts[j]? = some u:=⟨_,List.getElem?_eq_getElem (by omega)⟩;simp only[QKg,hu]at h2
    have hb:QHq ts (j+1)=7:=by simp only[QHq,ht,hu,h0,h2,ne_eq,not_true_eq_false,if_true,if_false]
    rw[hg',hb];rfl
  ·cases k with
   | zero=>simp at h1
   | succ j=>
    obtain⟨u,hu⟩:∃u,ts[j]? = some u:=⟨_,List.getElem?_eq_getElem (by omega)⟩;simp only[QKg,hu]at h2 h3
    have hb:QHq ts (j+1)=29:=by simp only[QHq,ht,hu,h0,h2,h3,ne_eq,not_true_eq_false,if_true,if_false,Bool.false_eq_true]
    rw[hg',hb];rfl
  ·cases k with
   | zero=>simp at h1
   | succ j=>
    obtain⟨u,hu⟩:∃u,ts[j]? = some u:=⟨_,List.getElem?_eq_getElem (by omega)⟩;simp only[QKg,hu]at h2 h3;simp only[QHq,ht,hu,h0,h2,h3,ne_eq,not_true_eq_false,if_false,Bool.false_eq_true]
  ·obtain rfl:k=0:=by simp at h1;omega
   simp only[QKg,QJY,Qa1]at h3;cases h3
  ·obtain rfl:k=0:=by simp at h1;omega
   simp only[QHq,ht,h0,ne_eq,not_true_eq_false,if_false]
 ·have:k=ts.length:=by omega
  subst this;rw[hg,Nat.sub_self];rfl
def QLt(x y:Int):Int:=if x<y then -1 else if x>y then 1 else 0
def orL:List Int→Int
 | []=>0
 | x::xs=>if x≠0 then x else orL xs
def QfT(a b:Tag)(i k:Int):Int:=orL [QLt a.unit b.unit,QLt a.every b.every,QLt a.kind b.kind,QLt a.addr b.addr,QLt i k]
theorem QFP(x:Int):Ct Pr 269 [.I x] .one [.bool] [] emp (fun t Bs=>t.1=false∧Bs=[]):=by
 refine sp1 (QHk _) fun B _=>?_;unfold QHk mf;dsimp only;exact QAD ⟨by simp,rfl⟩
theorem QCJ(x y:Int):Ct Pr 197 [.I x,.I y] .one [.I] [] emp (fun t Bs=>t.1=QLt x y∧Bs=[]):=by
 refine sp1 (QGK _ _) fun B _=>?_;unfold QGK mf;dsimp only;refine QAR (QFP _) rdb ?_;rintro⟨c,_⟩ _ ⟨hc,rfl⟩;simp only at hc;subst hc;refine QAy (ca1 ?_);refine QAR (QFP _) rdb ?_;rintro⟨c,_⟩ _ ⟨hc,rfl⟩;simp only at hc;subst hc;refine QAy (ca1 (QBF rfl (QBF rfl (QAA (fun h=>QAD ⟨?_,rfl⟩) (fun h=>QAA (fun h'=>QAD ⟨?_,rfl⟩) (fun h'=>QAD ⟨?_,rfl⟩))))))
 ·unfold QLt;rw[if_pos h]
 ·unfold QLt;rw[if_neg h,if_pos h']
 ·unfold QLt;rw[if_neg h,if_neg h']
theorem Qai(xs:List Int)(k:Nat)(x:Int)(h:xs[k]? = some x)(h0:x=0):orL (xs.drop k)=orL (xs.drop (k+1)):=by
 obtain⟨h1,h2⟩:=List.getElem?_eq_some_iff.1 h;rw[List.drop_eq_getElem_cons h1,h2,h0];rfl
theorem Qcv(s:Sl)(xs:List Int)(hb:xs.length<4611686018427387904):Ct Pr 196 [s.v] .one [.I] [] (RAr I64 s xs) (fun t Bs=>t.1=orL xs∧Bs=[]):=by
 refine sp1 (QK4 _) fun B hr=>?_;haveI:Fro B s I64 xs:=⟨hr⟩;have hn:=hr.1;unfold QK4 mf;dsimp only;refine QBP (fun n (x:Int) As'=>∃k:Nat,x=(k:Int)∧n=xs.length - k∧k≤xs.length∧As'=[]∧orL xs=orL (xs.drop k)) xs.length ⟨0,rfl,by omega,by omega,rfl,rfl⟩ ?_;rintro n x As' K ⟨k,rfl,rfl,hk,rfl,he⟩ hK;refine QAA (fun hp=>?_) (fun hp=>?_)
 ·refine QAH (h1:=by omega) (h:=fun x hx=>?_);refine QAN hx (h:=xif (fun h0=>QAD ⟨?_,rfl⟩) (fun h0=>?_))
  ·rw[he,List.drop_eq_getElem_cons (by omega:k<xs.length)];obtain⟨h1,h2⟩:=List.getElem?_eq_some_iff.1 hx;rw[h2]
   have:x≠0:=by simpa using h0
   simp[orL,this]
  ·rw[QAF k (by omega)];exact hK _ _ _ (by omega) ⟨k+1,rfl,rfl,by omega,rfl,by rw[he];exact Qai xs k x hx (by simpa using h0)⟩
 ·refine QAD ⟨?_,rfl⟩;rw[he,List.drop_eq_nil_of_le (by omega)];rfl
theorem Qe5{E:Enc α}{b n c:Nat}{xs:List α}{x:α}{sh:Sh}{v:sh.ty}{K:sh.ty→WP}[r:RdA B As ⟨some ⟨b,0,none⟩,n,c⟩ E xs](hx:xs[0]? = some x)(hv:(E.f x)[0]? = some (sh.mk v):=by rfl)(h:Ent B As (K v)):Ent B As (QAq sh ⟨b,0,none⟩ K):=by
 have:=QAN (B:=B) (As:=As) (s:=⟨some ⟨b,0,none⟩,n,c⟩) (E:=E) (i:=0) (sz:=E.sz) (K:=K) hx rfl hv h;simpa [Sl.at,Addr.add]using this
theorem QgJ{E:Enc α}{b n c:Nat}{xs:List α}{x:α}{v:Value}{K:WP}[r:RdA B As ⟨some ⟨b,0,none⟩,n,c⟩ E xs](hx:xs[0]? = some x)(hv:(E.f x)[0]? = some v:=by rfl)(h:Ent B As K):Ent B As (QKv ⟨b,0,none⟩ v K):=by
 have:=QM1 (B:=B) (As:=As) (s:=⟨some ⟨b,0,none⟩,n,c⟩) (E:=E) (i:=0) (sz:=E.sz) (K:=K) hx rfl hv h;simpa [Sl.at,Addr.add]using this
abbrev Qf2(bc:Nat)(l:Sl)(ts:List Tag):HP:=(RAr SL ⟨some ⟨bc,0,none⟩,1,1⟩ [l]).and (RAr TG l ts)
theorem QTf(bc:Nat)(l:Sl)(ts:List Tag)(i k:Nat)(ti tk:Tag)(hi:ts[i]? = some ti)(hk:ts[k]? = some tk):Ct Pr 195 [.I (i:Int),.I (k:Int),.pointer (some ⟨bc,0,none⟩)] .one [.I] [] (Qf2 bc l ts)
  (fun t Bs=>t.1=QfT ti tk i k∧Bs=[]):=by
 refine sp1 (QKV _ _ _) fun B hr=>?_;haveI:Fro B ⟨some ⟨bc,0,none⟩,1,1⟩ SL [l]:=⟨hr.1⟩;haveI:Fro B l TG ts:=⟨hr.2⟩;have hn:=hr.2.1;have hi':=(List.getElem?_eq_some_iff.1 hi).1;have hk':=(List.getElem?_eq_some_iff.1 hk).1;unfold QKV mf;dsimp only;refine QAO ?_;refine Qe5 (n:=1) (c:=1) (x:=l) rfl (h:=?_);refine QAH (h1:=hi') (h:=fun t ht=>?_)
 obtain rfl:ti=t:=by rw[hi]at ht;cases ht;rfl
 refine QAN hi (h:=?_);iterate 18 (refine QAZ hi (h:=?_))
 refine Qe5 (n:=1) (c:=1) (x:=l) rfl (h:=?_);refine QAH (h1:=hk') (h:=fun t ht=>?_)
 obtain rfl:tk=t:=by rw[hk]at ht;cases ht;rfl
 refine QAN hk (h:=?_);iterate 18 (refine QAZ hk (h:=?_))
 refine QXT ?_ ?_
 all_goals
  refine QAL fun b=>QAL fun b1=>?_;iterate 19 (refine xsq ?_)
  refine QM1 hk (h:=?_);iterate 18 (refine QU2 hk (h:=?_))
  refine QgJ (n:=1) (c:=1) (x:=l) rfl (h:=?_);iterate 19 (refine xsq ?_)
  refine QAO ?_;iterate 8 (refine xgq ?_)
  refine QAR (QCJ _ _) rdb ?_;rintro⟨x,_⟩ _ ⟨hx,rfl⟩;simp only at hx;subst hx;refine QAy (ca1 ?_);iterate 6 (refine QC6 (h:=?_))
  refine QAR (QCJ _ _) rdb ?_;rintro⟨x,_⟩ _ ⟨hx,rfl⟩;simp only at hx;subst hx;refine QAy (ca1 ?_);iterate 4 (refine QC6 (h:=?_))
  refine QAR (QCJ _ _) rdb ?_;rintro⟨x,_⟩ _ ⟨hx,rfl⟩;simp only at hx;subst hx;refine QAy (ca1 ?_);iterate 2 (refine QC6 (h:=?_))
  refine QAR (QCJ _ _) rdb ?_;rintro⟨x,_⟩ _ ⟨hx,rfl⟩;simp only at hx;subst hx;refine QAy (ca1 ?_);refine QAR (QCJ _ _) rdb ?_;rintro⟨x,_⟩ _ ⟨hx,rfl⟩;simp only at hx;subst hx;refine QAy (ca1 ?_);refine QAL fun b2=>?_;refine QAe (Q:=Ar I64 ⟨some ⟨b2,0,none⟩,5,5⟩ [QLt ti.unit tk.unit,QLt ti.every tk.every,QLt ti.kind tk.kind,QLt ti.addr tk.addr,QLt (i:Int) (k:Int)]) 0 (fun g hg=>⟨[],QAm _ 5 rfl rfl hg⟩) ?_;refine QAR (Qcv ⟨some ⟨b2,0,none⟩,5,5⟩ [QLt ti.unit tk.unit,QLt ti.every tk.every,QLt ti.kind tk.kind,QLt ti.addr tk.addr,QLt (i:Int) (k:Int)] (by simp)) rdb ?_;rintro⟨x,_⟩ _ ⟨hx,rfl⟩;simp only at hx;subst hx;exact QAy (ca1 (QAa (l:=[]) (QAD ⟨rfl,rfl⟩)))
def QSA(a b:Tag)(i k:Int):Prop:=a.unit<b.unit∨(a.unit=b.unit∧(a.every<b.every∨(a.every=b.every∧(a.kind<b.kind∨(a.kind=b.kind∧(a.addr<b.addr∨(a.addr=b.addr∧i<k)))))))
theorem QFa(x y:Int):(x<y∧QLt x y = -1)∨(x=y∧QLt x y=0)∨(y<x∧QLt x y=1):=by
 unfold QLt;by_cases h:x<y
 ·exact .inl ⟨h,if_pos h⟩
 ·rw[if_neg h];by_cases h':x>y
  ·exact .inr (.inr ⟨h',if_pos h'⟩)
  ·exact .inr (.inl ⟨by omega,if_neg h'⟩)
theorem Qbl(a b:Tag)(i k:Int):QfT a b i k<0↔QSA a b i k:=by
 unfold QfT QSA;rcases QFa a.unit b.unit with⟨h,e⟩|⟨h,e⟩|⟨h,e⟩
 ·simp[orL,e,h]
 ·simp only[orL,e,ne_eq,not_true_eq_false,if_false];rcases QFa a.every b.every with⟨h1,e1⟩|⟨h1,e1⟩|⟨h1,e1⟩
  ·simp[e1,h1,h]
  ·simp only[e1,ne_eq,not_true_eq_false,if_false];rcases QFa a.kind b.kind with⟨h2,e2⟩|⟨h2,e2⟩|⟨h2,e2⟩
   ·simp[e2,h2,h1,h]
   ·simp only[e2,ne_eq,not_true_eq_false,if_false];rcases QFa a.addr b.addr with⟨h3,e3⟩|⟨h3,e3⟩|⟨h3,e3⟩
    ·simp[e3,h3,h2,h1,h]
    ·simp only[e3,ne_eq,not_true_eq_false,if_false];rcases QFa i k with⟨h4,e4⟩|⟨h4,e4⟩|⟨h4,e4⟩
     ·simp[e4,h4,h3,h2,h1,h]
     ·rw[e4];simp;omega
     ·simp[e4,h3,h2,h1,h];omega
    ·simp[e3,h2,h1,h];omega
   ·simp[e2,h1,h];omega
  ·simp[e1,h];omega
 ·simp[orL,e];omega
def cfT(ts:List Tag)(i k:Fin ts.length):Int:=QfT ts[i] ts[k] (i.val:Int) (k.val:Int)
def ltT(ts:List Tag)(i k:Fin ts.length):Bool:=ltOf (cfT ts) i k
theorem QO9(ts:List Tag)(i k:Fin ts.length):ltT ts i k=true↔QSA ts[i] ts[k] (i.val:Int) (k.val:Int):=by
 unfold ltT ltOf cfT;rw[decide_eq_true_eq,Qbl]
theorem QFD(ts:List Tag)(i k:Fin ts.length):ltT ts i k=false↔¬QSA ts[i] ts[k] (i.val:Int) (k.val:Int):=by
 rw[←QO9,Bool.not_eq_true]
theorem QhM(ts:List Tag):SWO (ltOf (cfT ts)) where
 irrefl x:=by
  show ltT ts x x=false;rw[QFD];unfold QSA;omega
 trans x y z h1 h2:=by
  have h1:=(QO9 ts _ _).1 h1;have h2:=(QO9 ts _ _).1 h2;refine (QO9 ts _ _).2 ?_;unfold QSA at *;omega
 ntrans x y z h1 h2:=by
  have h1:=(QFD ts _ _).1 h1;have h2:=(QFD ts _ _).1 h2;refine (QFD ts _ _).2 ?_;unfold QSA at *;omega
theorem Qgz(ts:List Tag)(x y:Fin ts.length)(h1:ltOf (cfT ts) x y=false)(h2:ltOf (cfT ts) y x=false):x=y:=by
 have h1:=(QFD ts _ _).1 h1;have h2:=(QFD ts _ _).1 h2;apply Fin.ext;unfold QSA at *;omega
def QQJ(ts:List Tag):List (Fin ts.length):=(List.finRange ts.length).mergeSort fun x y=>!(ltT ts y x)
def QMz(ts:List Tag):List Int:=(QQJ ts).map fun i=>(i.val:Int)
def QOw(n:Nat):List Int:=(List.range n).map fun(i:Nat)=>(i:Int)
theorem Sx.grow{w:World}(h:Sx B As w)(os:Array Obj):Sx B As (Go.Sort.grow w os):=by
 obtain⟨g,hs,hm,hu⟩:=h
 have key:∀k o,w.heap[k]? = some o→(w.heap++os)[k]? = some o:=fun k o e=>by
  rw[Array.getElem?_append_left (Array.getElem?_eq_some_iff.1 e).1,e]
 refine⟨g,hs,fun k o e=>key k o (hm k o e),hu.os,hu.tape,hu.output,hu.drawn,by have:=hu.size;simp[Go.Sort.grow];omega,fun k hk h0=>⟨?_,(hu.old k hk h0).2⟩⟩;show (w.heap++os)[k]? = _;rw[Array.getElem?_append_left (Nat.lt_of_lt_of_le hk hu.size)];exact (hu.old k hk h0).1
theorem Sx.ahead{w:World}(h:Sx B As w)(n:Nat):Sx B As (Go.Sort.ahead w n):=by
 obtain⟨g,hs,hm,hu⟩:=h;exact⟨g,hs,hm,hu.os,hu.tape,hu.output,Nat.le_trans hu.drawn (Nat.le_add_right _ _),hu.size,hu.old⟩
theorem Qa7{W w':World}{Bs:List HP}(h:Sx ⟨W,fun _=>none⟩ Bs w'):∃q os,w'=Go.Sort.grow (W.drewN q) os:=by
 obtain⟨g,_,_,hu⟩:=h;refine⟨w'.drawn - W.drawn,w'.heap.extract W.heap.size w'.heap.size,?_⟩;have h1:=hu.os;have h2:=hu.tape;have h3:=hu.output;have h4:=hu.drawn;have h5:=hu.size;have h6:=hu.old;obtain⟨heap,tape,drawn,os,output⟩:=w';obtain⟨heap0,tape0,drawn0,os0,output0⟩:=W;simp only at h1 h2 h3 h4 h5 h6;subst h1 h2 h3;simp only[Go.Sort.grow,World.drewN,World.mk.injEq,and_true,true_and];refine⟨?_,by omega⟩;apply Array.ext';apply List.ext_getElem?;intro i;simp only[Array.getElem?_toList];by_cases hi:i<heap0.size
 ·rw[Array.getElem?_append_left hi];exact (h6 i hi (by trivial)).1
 ·rw[Array.getElem?_append_right (by omega),Array.getElem?_extract];by_cases hj:i<heap.size
  ·rw[if_pos (by omega)];congr 1;omega
  ·rw[if_neg (by omega)];simp;omega
theorem QF4(xs:List Int):QAf I64 xs=xs.map (Value.int .i64):=by
 induction xs with
 | nil=>rfl
 | cons x xs ih=>show _++QAf I64 xs=_;rw[ih];rfl
theorem QYJ{α:Type}[Inhabited α](enc:α→Value)(w:World)(blk off m:Nat)(d:Array α)(os:Array Obj)(k:Nat)(hk:k<w.heap.size)(hne:k≠blk):(sortWorld enc w blk off m d os).heap[k]? = w.heap[k]?:=by
 unfold sortWorld Go.Sort.grow;show ((putRow enc (Go.Sort.ahead w m) blk off d).heap++os)[k]? = _;rw[Array.getElem?_append_left (by simp[putRow,mapBlock,Go.Sort.ahead];exact hk)];simp[putRow,mapBlock,Go.Sort.ahead,Array.getElem?_modify,Ne.symm hne]
def QcO(n:Nat)(i:Fin n):Value:=.I (i.val:Int)
theorem Qff{bc bs n:Nat}{l:Sl}{ts:List Tag}{K:WP}(hn:n=ts.length)(hl:ts.length≤64)[r:Rdb B F (Qf2 bc l ts)]
  (h:Ent B (Ar I64 ⟨some ⟨bs,0,none⟩,n,n⟩ (QMz ts)::F) K) :
  Ent B (Ar I64 ⟨some ⟨bs,0,none⟩,n,n⟩ (QOw n)::F) (QAb Pr 194 [.slice (some ⟨bs,0,none⟩) n n,.func (.func 195) #[] #[.pointer (some ⟨bc,0,none⟩)]] (.tup []) [] K):=by
 intro w hw;subst hn;by_cases h0:ts.length=0
 ·have hS:=AnyF.slices_SortFunc_none (P:=Pr) (ρ:=Go.Proofs.Tryz.sortL_ren) ({ Go.Proofs.Tryz.sortL with }) (some ⟨bs,0,none⟩) 0 (.func (.func 195) #[] #[.pointer (some ⟨bc,0,none⟩)]) w;rw[h0];refine hS.mono ?_;rintro e w' ⟨rfl,rfl⟩;refine⟨(),rfl,h _ ?_⟩
  have e1:QMz ts=QOw ts.length:=by
   have:ts=[]:=List.length_eq_zero_iff.1 h0;subst this;simp[QMz,QQJ,QOw]
  rw[e1];exact hw
 haveI:Inhabited (Fin ts.length):=⟨⟨0,by omega⟩⟩;obtain⟨g,⟨g1,g2,⟨zs,p1⟩,p2,dd,s1,s2⟩,hm,hu⟩:=hw
 have hz:zs=[]:=by
  have h1:=p1.2.1;have h2:=p1.1;simp only at h1 h2;rw[h2]at h1;exact List.length_eq_zero_iff.1 (by omega)
 subst hz;obtain⟨pre,post,hblk,hpre⟩:=p1.blk rfl;obtain rfl:pre=[]:=List.length_eq_zero_iff.1 hpre;rw[List.append_nil,List.nil_append]at hblk;obtain⟨e0,fr0,hb1,hfr⟩:=hblk;have hb:w.heap[bs]? = some (.cells (QAf I64 (QOw ts.length)++post).toArray e0 fr0):=hm _ _ (s1 _ _ hb1);have hbs:bs<w.heap.size:=(Array.getElem?_eq_some_iff.1 hb).1
 -- what the closure reads
 let rf:QBe:=fun k=>if k=bs then none else w.heap[k]?
 have hrf:Qf2 bc l ts rf:=by
  refine r.go rf ?_ g2 p2 ?_
  ·intro k o hk;unfold frz at hk
   cases hB:B.h0 k with
   | some x=>rw[hB]at hk;cases hk
   | none=>
    rw[hB]at hk;have hlt:k<B.W.heap.size:=(Array.getElem?_eq_some_iff.1 hk).1;have:=hu.old k hlt hB
    have hne:k≠bs:=fun e=>by
     subst e;rw[s1 _ _ hb1]at this;cases this.2
    show (if k=bs then none else w.heap[k]?)=some o;rw[if_neg hne,this.1];exact hk
  ·intro k o hk
   have hne:k≠bs:=fun e=>by
    subst e;rcases dd k with e|e
    ·rw[hb1]at e;cases e
    ·rw[hk]at e;cases e
   show (if k=bs then none else w.heap[k]?)=some o;rw[if_neg hne];exact hm _ _ (s2 _ _ hk)
 let d:Array (Fin ts.length):=(List.finRange ts.length).toArray
 have hd:d.size=ts.length:=by simp[d]
 have hdj:∀j (hj:j<ts.length),d[j]! = ⟨j,hj⟩:=fun j hj=>by
  rw[getElem!_pos d j (by rw[hd];exact hj)];simp[d]
 have hcell:∀j,j<ts.length→(QAf I64 (QOw ts.length)++post)[j]? = some (.I (j:Int)):=fun j hj=>by
  rw[QF4,List.getElem?_append_left (by simp[QOw];exact hj)];simp[QOw,hj]
 have hH:Holds (QcO ts.length) w bs 0 d:=fun j hj=>by
  rw[hd]at hj;refine⟨?_,?_⟩
  ·simp only[World.cell?,hb,Nat.zero_add];simp only[Option.isSome_none,Bool.false_eq_true,if_false,List.getElem?_toArray];rw[hcell j hj,hdj j hj];rfl
  ·simp only[World.frozen?,hb,Bool.and_eq_false_iff,decide_eq_false_iff_not]
   have hlt:0+j<(QAf I64 (QOw ts.length)++post).length:=by
    have:=hcell j hj;rw[Nat.zero_add];exact (List.getElem?_eq_some_iff.1 this).1
   have:=hfr (0+j) hlt;omega
 have hcmp:CmpLays1 Pr 195 #[.pointer (some ⟨bc,0,none⟩)] (QcO ts.length) (cfT ts) bs 0 d.size w:=by
  intro m os dk hdk x y;have hx:ts[x.val]? = some ts[x]:=List.getElem?_eq_getElem x.isLt;have hy:ts[y.val]? = some ts[y]:=List.getElem?_eq_getElem y.isLt
  have hsub:Sub rf (mem (sortWorld (QcO ts.length) w bs 0 m dk os)):=fun k o hk=>by
   have hk':(if k=bs then none else w.heap[k]?)=some o:=hk;by_cases e:k=bs
   ·rw[if_pos e]at hk';cases hk'
   ·rw[if_neg e]at hk';show (sortWorld (QcO ts.length) w bs 0 m dk os).heap[k]? = some o;rw[QYJ _ _ _ _ _ _ _ _ (Array.getElem?_eq_some_iff.1 hk').1 e];exact hk'
  have:=QTf bc l ts x.val y.val _ _ hx hy (sortWorld (QcO ts.length) w bs 0 m dk os) (fun _=>none) trivial (fun _ _ e=>by cases e) (by rw[QU0];exact⟨hrf.1.mono hsub,hrf.2.mono hsub⟩);refine this.mono ?_;rintro e w' ⟨t,Bs,he,⟨ht,_⟩,hs⟩;refine⟨?_,Qa7 hs⟩;rw[he];obtain⟨t1,u⟩:=t;simp only at ht;subst ht;rfl
 have hS:=Any.slices_SortFunc_total (P:=Pr) Go.Proofs.Tryz.sortL (QcO ts.length) (fun _=>rfl) (cfT ts) (QhM ts) 195 #[.pointer (some ⟨bc,0,none⟩)] bs 0 ts.length d w
  (enters_of Go.Proofs.Tryz.func195 (by kernel_rfl) rfl) hcmp hH hbs (by rw[hd];omega) (Qgz ts)
 rw[hd]at hS;refine hS.mono ?_;rintro e w' ⟨rfl,m,os,rfl⟩;refine⟨(),rfl,h _ ?_⟩
 have hsort:(d.toList.mergeSort fun x y=>!(ltOf (cfT ts)) y x)=QQJ ts:=by simp[d,QQJ,ltT]
 rw[hsort];unfold sortWorld
 have hlen:(QQJ ts).length=ts.length:=by simp[QQJ]
 have hw1:Sx B (Blk bs (QAf I64 (QOw ts.length)++post)::F) (Go.Sort.ahead w m):=by
  have hw0:Sx B (Blk bs (QAf I64 (QOw ts.length)++post)::F) w:=⟨g,⟨g1,g2,⟨e0,fr0,hb1,hfr⟩,p2,dd,s1,s2⟩,hm,hu⟩;exact Go.Cx.Pn.Sx.ahead hw0 m
 have hw2:Sx B (Blk bs (QAf I64 (QMz ts)++post)::F) (putRow (QcO ts.length) (Go.Sort.ahead w m) bs 0 (QQJ ts).toArray):=by
  refine hw1.write (e:=e0) (fr:=fr0) hb (fun k hk=>?_) ?_ ?_ rfl rfl rfl ⟨by simp[putRow,mapBlock],Nat.le_refl _⟩
  ·simp[putRow,mapBlock,Array.getElem?_modify,Ne.symm hk]
  ·have hb':(Go.Sort.ahead w m).heap[bs]? = some (.cells (QAf I64 (QOw ts.length)++post).toArray e0 fr0):=hb;simp only[putRow,mapBlock,Array.getElem?_modify,if_true,hb',Option.map_some,onCells];congr 2;apply Array.ext';apply List.ext_getElem?;intro j;simp only[Array.getElem?_toList,putCells,Array.getElem?_mapIdx,List.getElem?_toArray,Nat.zero_le,true_and,Nat.zero_add,List.size_toArray,hlen,Nat.sub_zero];by_cases hj:j<ts.length
   ·rw[hcell j hj];simp only[Option.map_some,if_pos hj];rw[QF4,List.getElem?_append_left (by simp[QMz,hlen];exact hj)]
    have hj':j<(QQJ ts).length:=by rw[hlen];exact hj
    simp[QMz,QcO,hj',hlen,List.getElem?_eq_getElem hj']
   ·simp only[if_neg hj];rw[List.getElem?_append_right (by rw[QF4];simp[QOw];omega),List.getElem?_append_right (by rw[QF4];simp[QMz,hlen];omega)];simp[QF4,QOw,QMz,hlen]
  ·rw[List.length_append,List.length_append,QF4,QF4];simp[QOw,QMz,hlen]
 obtain⟨g',hg',hm',hu'⟩:=Sx.grow hw2 os;refine⟨g',QA2 (fun q hq=>⟨[],Ars.of_blk (b:=bs) (o:=0) (pre:=[]) (post:=post) (by simpa using hq) rfl rfl ?_ ?_ ?_⟩) hg',hm',hu'⟩
 ·simp[QMz,hlen]
 ·simp[QMz,hlen]
 ·show ts.length≤_;omega
theorem QJa(l:Sl)(ts:List Tag)(hl:ts.length≤64):Ct Pr 122 [l.v] .one [.slice] [] (RAr TG l ts) (fun t Bs=>Bs=[Ar I64 t.1 (QMz ts)]):=by
 refine sp1 (QN5 _) fun B hr=>?_;haveI:Fro B l TG ts:=⟨hr⟩;have hn:=hr.1;unfold QN5 mf;dsimp only;refine QAL fun bc=>xgq ?_;refine QRK I64 (by omega) (by omega) (h:=fun bs=>?_);rw[Int.toNat_natCast,←hn];refine QBP (fun m (x:Int) As'=>∃k:Nat,x=(k:Int)∧m=ts.length - k∧k≤ts.length∧∃ys:List Int,ys.length=ts.length∧(∀j,j<k→ys[j]? = (QOw ts.length)[j]?)∧As'=[Ar I64 ⟨some ⟨bs,0,none⟩,ts.length,ts.length⟩ ys,Blk bc [l.v]]) ts.length ⟨0,rfl,by omega,by omega,_,by simp,fun j hj=>by omega,rfl⟩ ?_;rintro m x As' K ⟨k,rfl,rfl,hk,ys,hys,hyk,rfl⟩ hK;refine QAA (fun hp=>?_) (fun hp=>?_)
 ·have hp:k<ts.length:=by simpa using hp
  refine QAH (E:=I64) (xs:=ys) (s:=⟨some ⟨bs,0,none⟩,ts.length,ts.length⟩) (h1:=by omega) (h:=fun y hy=>?_);refine QHd (k:Int) hy rfl rfl (h:=?_);rw[QAF k (by omega)];exact hK _ _ _ (by omega) ⟨k+1,rfl,rfl,by omega,_,by simpa using hys,Qbr hyk (by omega) (by simp[QOw,hp]),rfl⟩
 ·have hp:¬k<ts.length:=by simpa using hp
  obtain rfl:ys=QOw ts.length:=QTw (by simp[QOw,hys]) (fun j hj=>hyk j (by simp[QOw]at hj;omega));refine QGD 1 (QAe (Q:=Ar SL ⟨some ⟨bc,0,none⟩,1,1⟩ [l]) 0 (fun g hg=>⟨[],QAm [l] 1 rfl rfl hg⟩) ?_);refine QGD 1 (Qff (bc:=bc) (l:=l) rfl hl ?_);exact QB5 1 (QAD rfl)
structure Poll where
 unit:Int
 kind:Int
 addr:Int
 count:Int
 every:Int
 tags:List Int
abbrev poll0:Poll:=⟨0,0,0,0,0,[]⟩
def PR:Enc (Poll×Sl):=⟨fun q=>[.I q.1.unit,.I q.1.kind,.I q.1.addr,.I q.1.count,.I q.1.every,q.2.v],6,fun _=>rfl,fun t v h=>by
 simp only[List.mem_cons,List.not_mem_nil,or_false]at h
 rcases h with h|h|h|h|h|h <;> (subst h;rfl),by decide,(poll0,⟨none,0,0⟩)⟩
abbrev EP:Poll×Sl→Poll×Sl→HP:=fun q _=>Ar I64 q.2 q.1.tags
def OPolls(s:Sl)(ps:List Poll):HP:=fun h=>∃rows:List (Poll×Sl),rows.map Prod.fst=ps∧QBl [Ar PR s rows,Each EP rows rows] h
def QHp(k:Int):Int:=if k≤2 then 2000 else 125
def QPB(p:Poll)(t:Tag):Int:=if t.addr+t.width - p.addr>p.count then t.addr+t.width - p.addr else p.count
def QOl(p:Poll)(t:Tag):Bool:=decide (p.unit=t.unit∧p.every=t.every∧p.kind=t.kind∧t.addr≤p.addr+p.count+8∧QPB p t≤QHp p.kind)
def QRO(p:Poll)(t:Tag)(i:Int):Poll:={ p with count:=QPB p t,tags:=p.tags++[i] }
def QVO(t:Tag)(i:Int):Poll:=⟨t.unit,t.kind,t.addr,t.width,t.every,[i]⟩
def QPD(ps:List Poll)(t:Tag)(i:Int):List Poll:=match ps[ps.length - 1]? with
 | some p=>if QOl p t=true then ps.set (ps.length - 1) (QRO p t i) else ps++[QVO t i]
 | none=>ps++[QVO t i]
def planK(ts:List Tag)(k:Nat):List Poll:=((QQJ ts).take k).foldl (fun ps i=>QPD ps ts[i] (i.val:Int)) []
def planL(ts:List Tag):List Poll:=planK ts ts.length
def planM(ts:List Tag):List Poll:=if (allE ts).1=0 then planL ts else []
theorem QHU(ts:List Tag):(QQJ ts).length=ts.length:=by simp[QQJ]
theorem QNf{ts:List Tag}{k:Nat}{i:Fin ts.length}(h:(QQJ ts)[k]? = some i):planK ts (k+1)=QPD (planK ts k) ts[i] (i.val:Int):=by
 unfold planK;rw[List.take_add_one,h];simp
theorem QUs{t:Tag}(h:tagE t=0):1≤t.unit∧t.unit≤247∧1≤t.kind∧t.kind≤4∧0≤t.addr∧t.addr≤65536 - t.width∧1≤t.every∧t.every≤1048576∧QCZ t.wide t.swap t.mul t.div t.add=0:=by
 unfold tagE at h;split at h
 ·cases h
 split at h
 ·cases h
 split at h
 ·cases h
 split at h
 ·cases h
 split at h
 ·cases h
 split at h
 ·rename_i h0;exact absurd h h0
 rename_i h1 h2 h3 h4 h5
 refine⟨by omega,by omega,by omega,by omega,by omega,by omega,by omega,by omega,?_⟩
 rename_i h6
 simpa using h5
def QNd(n:Nat)(p:Poll):Prop:=0≤p.addr∧p.addr≤65535∧1≤p.count∧p.count≤2000∧p.tags.length≤n
theorem QaK{n:Nat}{ps:List Poll}{t:Tag}{i:Int}(h:∀p∈ps,QNd n p)(ht:tagE t=0):∀p∈QPD ps t i,QNd (n+1) p:=by
 have hw:=QJK t;obtain⟨_,_,_,_,a1,a2,_⟩:=QUs ht;have hnew:QNd (n+1) (QVO t i):=⟨a1,by simp[QVO];omega,by simp[QVO];omega,by simp[QVO];omega,by simp[QVO]⟩
 have hold:∀p∈ps,QNd (n+1) p:=fun p hp=>by obtain⟨b1,b2,b3,b4,b5⟩:=h p hp;exact⟨b1,b2,b3,b4,by omega⟩
 have happ:∀p∈ps++[QVO t i],QNd (n+1) p:=fun p hp=>by
  rcases List.mem_append.1 hp with hp|hp
  ·exact hold p hp
  ·rw[List.mem_singleton.1 hp];exact hnew
 intro p hp;unfold QPD at hp;split at hp
 ·rename_i q hq
  split at hp
  ·rename_i hj
   simp only[QOl,decide_eq_true_eq]at hj;obtain⟨c1,c2,c3,c4,c5⟩:=h q (List.mem_of_getElem? hq);rcases List.mem_or_eq_of_mem_set hp with hp|rfl
   ·exact hold p hp
   ·refine⟨c1,c2,?_,?_,by simp[QRO];omega⟩
    ·show 1≤QPB q t;unfold QPB;split<;>omega
    ·show QPB q t≤2000;have h5:=hj.2.2.2.2;unfold QHp at h5;split at h5<;>omega
  ·exact happ p hp
 ·exact happ p hp
theorem QZZ{ps:List Poll}{t:Tag}{i:Int}:(QPD ps t i).length≤ps.length+1:=by
 unfold QPD;split
 ·split<;>simp
 ·simp
theorem planK_ok{ts:List Tag}(h:(allE ts).1=0):∀k,k≤ts.length→(planK ts k).length≤k∧∀p∈planK ts k,QNd k p:=by
 intro k
 induction k with
 | zero=>intro _;exact⟨by simp[planK],fun p hp=>by simp[planK]at hp⟩
 | succ k ih=>
  intro hk;obtain⟨h1,h2⟩:=ih (by omega);have hi:(QQJ ts)[k]? = some ((QQJ ts)[k]'(by rw[QHU];omega)):=List.getElem?_eq_getElem _;rw[QNf hi];refine⟨by have:=QZZ (ps:=planK ts k) (t:=ts[(QQJ ts)[k]'(by rw[QHU];omega)]) (i:=(((QQJ ts)[k]'(by rw[QHU];omega)).val:Int));omega,QaK h2 ?_⟩;exact allE_tag h (List.getElem?_eq_getElem _)
theorem QWa(k:Int):Ct Pr 125 [.I k] .one [.I] [] emp (fun t Bs=>t.1=QHp k∧Bs=[]):=by
 refine sp1 (QOF _) fun B _=>?_;unfold QOF mf;dsimp only;refine QAA (fun h=>QAD ⟨?_,rfl⟩) (fun h=>QAD ⟨?_,rfl⟩)
 ·unfold QHp;rw[if_pos h]
 ·unfold QHp;rw[if_neg h]
theorem QRy(t:Tag):Ct Pr 124 [t.v] .agg [.I,.I,.I] [] emp (fun r Bs=>r.1=t.unit∧r.2.1=t.every∧r.2.2.1=t.kind∧Bs=[]):=by
 refine sp3 (QKK _ _ _ _ _ _ _ _ _ _ _ _ _ _ _ _ _ _ _) fun B _=>?_;unfold QKK mf;dsimp only;refine QAL fun b=>QAL fun b1=>?_;iterate 3 (refine xgq ?_)
 iterate 3 (refine xsq ?_)
 iterate 3 (refine xgq ?_)
 exact QAa (l:=[]) (QAD ⟨rfl,rfl,rfl,rfl⟩)
theorem OPolls.nil:OPolls ⟨none,0,0⟩ [] (fun _=>none):=⟨[],rfl,fun _=>none,fun _=>none,⟨[],rfl,rfl,.inl ⟨rfl,rfl⟩⟩,⟨fun _=>none,fun _=>none,trivial,trivial,fun _=>.inl rfl,Sub.refl _,Sub.refl _⟩,fun _=>.inl rfl,Sub.refl _,Sub.refl _⟩
theorem Plan_spec(l:Sl)(ts:List Tag):Ct Pr 60 [l.v] (.tup [none,none]) [.slice,.I] [] (RAr TG l ts) (fun r Bs=>r.2.1=(allE ts).1∧Bs=[OPolls r.1 (planM ts)]):=by
 refine QeH QTY fun B hr=>?_;haveI:Fro B l TG ts:=⟨hr⟩;have hn:=hr.1;unfold QQm;refine QAR (CheckAll_spec l ts) rdb ?_;rintro⟨e,at_,_⟩ _ ⟨he,hat,rfl⟩;simp only at he hat;subst he hat;refine QAy (ca2 (xif (fun h=>?_) (fun h=>?_)))
 ·have h:(allE ts).1≠0:=by simpa using h
  have e:planM ts=[]:=by unfold planM;rw[if_neg h]
  rw[e];exact QX1 OPolls.nil (QAD ⟨rfl,rfl⟩)
 have h0:(allE ts).1=0:=by simpa using h
 have hl:=allE_len h0
 have em:planM ts=planL ts:=by unfold planM;rw[if_pos h0]
 rw[em,h0];refine QAR (QJa l ts hl) rdb ?_;rintro⟨s,_⟩ _ rfl;refine QA5 (ca1 ?_);refine QCm s (fun hsn hsc=>?_)
 have hsn:s.n=ts.length:=by rw[←hsn];simp[QMz,QHU]
 refine QAd PR ?_;refine QX1 (A:=Each EP [] []) trivial ?_;refine QBb (fun m (out:Sl) (x:Int) As'=>∃(k:Nat) (rows:List (Poll×Sl)),x=(k:Int)∧m=ts.length - k∧k≤ts.length∧rows.map Prod.fst=planK ts k∧As'=[Each EP rows rows,Ar PR out rows,Ar I64 s (QMz ts)]) ts.length ⟨0,[],rfl,by omega,by omega,rfl,rfl⟩ ?_;rintro m out x As' K ⟨k,rows,rfl,rfl,hk,hrows,rfl⟩ hK;refine QAA (fun hp=>?_) (fun hp=>?_)
 rotate_left
 ·obtain rfl:k=ts.length:=by omega
  refine QB5 2 (QRS (Q:=OPolls out (planL ts)) 1 0 (fun g hg=>⟨rows,hrows,hg⟩) (QAD ⟨rfl,rfl⟩))
 have hp:k<ts.length:=by omega
 obtain⟨i,hi⟩:∃i,(QQJ ts)[k]? = some i:=⟨_,List.getElem?_eq_getElem (by rw[QHU];exact hp)⟩
 have hoi:(QMz ts)[k]? = some (i.val:Int):=by simp[QMz,hi]
 have ht:ts[i.val]? = some ts[i]:=List.getElem?_eq_getElem i.isLt;have hstep:=QNf hi;obtain⟨hlen,hoks⟩:=planK_ok h0 k (by omega);have htag:=allE_tag h0 ht
 have hrl:rows.length=(planK ts k).length:=by rw[←hrows];simp
 generalize htt:ts[i]=t at ht hstep htag;have hwd:=QJK t;obtain⟨_,_,_,_,ha1,ha2,_⟩:=QUs htag
 have next:∀(out':Sl) (rows':List (Poll×Sl)),rows'.map Prod.fst=QPD (planK ts k) t (i.val:Int)→Ent B [Each EP rows' rows',Ar PR out' rows',Ar I64 s (QMz ts)] (K out' (IntKind.i64.wrap ((k:Int)+1))):=fun out' rows' h=>by
  rw[QAF k (by omega)];exact hK _ _ _ _ (by omega) ⟨k+1,rows',rfl,rfl,by omega,by rw[hstep];exact h,rfl⟩
 refine QAJ ?_;refine QAH (h1:=by simp[QMz,QHU];exact hp) (h:=fun v hv=>?_)
 obtain rfl:v=(i.val:Int):=by rw[hoi]at hv;cases hv;rfl
 refine QAN hv (h:=?_);refine QAH (h1:=i.isLt) (h:=fun t' ht'=>?_)
 obtain rfl:t'=t:=by rw[ht]at ht';cases ht';rfl
 refine QAN ht' (h:=?_);iterate 18 (refine QAZ ht' (h:=?_))
 refine QAL fun b=>?_;iterate 19 (refine xsq ?_)
 refine QAO ?_;iterate 20 (refine xgq ?_)
 refine QAR (QHY t') rdb ?_;rintro⟨x,_⟩ _ ⟨hx,rfl⟩;simp only at hx;subst hx;refine QAy (ca1 (QC6 (h:=?_)));have w1:IntKind.i64.wrap (t'.addr+t'.width)=t'.addr+t'.width:=QAB _ (by omega) (by omega);rw[w1];refine QCm out (fun hon hoc=>?_);refine QBu (fun As'=>As'=[Blk b t'.cells,Each EP rows rows,Ar PR out rows,Ar I64 s (QMz ts)]∧∀p,(planK ts k)[(planK ts k).length - 1]? = some p→QOl p t'=false) (fun K2 hK2=>?_) ?_
 rotate_left
 ·rintro As2 ⟨rfl,hno⟩;iterate 5 (refine xgq ?_)
  have w2:IntKind.i64.wrap (t'.addr+t'.width - t'.addr)=t'.width:=by rw[QAB _ (by omega) (by omega)];omega
  rw[w2];refine QAL fun b2=>?_;refine QAe (Q:=Ar I64 ⟨some ⟨b2,0,none⟩,1,1⟩ [(i.val:Int)]) 0 (fun g hg=>⟨[],QAm [(i.val:Int)] 1 rfl rfl hg⟩) ?_;refine QAL fun b3=>?_;refine QEc (E:=PR) (QVO t' (i.val:Int),⟨some ⟨b2,0,none⟩,1,1⟩) (hb:=by omega) (h:=fun s3=>?_);refine QBQ [Each EP rows rows,Ar I64 ⟨some ⟨b2,0,none⟩,1,1⟩ [(i.val:Int)]] (Each EP (rows++[(QVO t' (i.val:Int),⟨some ⟨b2,0,none⟩,1,1⟩)]) (rows++[(QVO t' (i.val:Int),⟨some ⟨b2,0,none⟩,1,1⟩)])) (fun g hg=>QEL (R:=EP) hg) ?_;refine QAK [Each EP (rows++[(QVO t' (i.val:Int),⟨some ⟨b2,0,none⟩,1,1⟩)]) (rows++[(QVO t' (i.val:Int),⟨some ⟨b2,0,none⟩,1,1⟩)]),Ar PR s3 (rows++[(QVO t' (i.val:Int),⟨some ⟨b2,0,none⟩,1,1⟩)]),Ar I64 s (QMz ts)] (next _ _ ?_);rw[List.map_append,hrows];unfold QPD;split
  ·rename_i p hp'
   rw[hno p hp'];simp
  ·simp
 ·cases hm:rows.length with
  | zero=>
   have hz:planK ts k=[]:=List.length_eq_zero_iff.1 (by omega);refine QBF (by rw[←hon,hm];decide) (hK2 _ ⟨rfl,fun p hp'=>by rw[hz]at hp';simp at hp'⟩)
  | succ m=>
   have wn:IntKind.i64.wrap ((out.n:Int) - 1)=(m:Int):=by rw[QAB _ (by omega) (by omega)];omega
   rw[wn];refine QBz (by simp) ?_;refine QAH (h1:=by omega) (h:=fun q hq=>?_);obtain⟨p,sp⟩:=q
   have hpk:(planK ts k)[(planK ts k).length - 1]? = some p:=by
    rw[←hrows,List.length_map,hm,Nat.add_sub_cancel,List.getElem?_map,hq];rfl
   obtain⟨o1,o2,o3,o4,o5⟩:=hoks p (List.mem_of_getElem? hpk);refine QAO (QAQ ?_);refine QAZ hq (h:=QAQ ?_);refine QAZ hq (h:=QAO (QAJ (QAQ ?_)));refine QAN hq (h:=QAQ ?_);refine QAZ hq (h:=QAQ ?_);refine QAZ hq (h:=?_);iterate 19 (refine xgq ?_)
   refine QAR (QRy t') rdb ?_;rintro⟨x1,x2,x3,_⟩ _ ⟨hx1,hx2,hx3,rfl⟩;simp only at hx1 hx2 hx3;subst hx1 hx2 hx3;refine QAy (ca3 ?_);refine QU2 hq (h:=?_);refine QU2 hq (h:=?_);refine QM1 hq (h:=?_)
   (try dsimp only)
   have w2:IntKind.i64.wrap (t'.addr+t'.width - p.addr)=t'.addr+t'.width - p.addr:=QAB _ (by omega) (by omega);have w3:IntKind.i64.wrap (p.addr+p.count)=p.addr+p.count:=QAB _ (by omega) (by omega);have w4:IntKind.i64.wrap (p.addr+p.count+8)=p.addr+p.count+8:=QAB _ (by omega) (by omega);rw[w2];have hno:∀{As':List HP},As'=[Blk b t'.cells,Each EP rows rows,Ar PR out rows,Ar I64 s (QMz ts)]→QOl p t'=false→Ent B As' K2:=fun e hj=>hK2 _ ⟨e,fun p' hp'=>by rw[hpk]at hp';cases hp';exact hj⟩;refine xif (fun hg=>xgq (QAQ ?_)) (fun hg=>QBF rfl (QBF rfl (hno rfl ?_)))
   rotate_left
   ·unfold QOl;rw[decide_eq_false_iff_not];rintro⟨q1,q2,q3,_⟩;rw[q1,q2,q3]at hg;simp at hg
   have hg':p.unit=t'.unit∧p.every=t'.every∧p.kind=t'.kind:=by simpa using hg
   refine QAZ hq (h:=QAQ ?_);refine QAZ hq (h:=?_)
   (try dsimp only)
   rw[w3,w4];refine xif (fun hgap=>QAQ ?_) (fun hgap=>QBF rfl (hno rfl ?_))
   rotate_left
   ·unfold QOl;rw[decide_eq_false_iff_not];rintro⟨_,_,_,q4,_⟩;simp at hgap;omega
   refine QAZ hq (h:=?_);refine QAR (QWa _) rdb ?_;rintro⟨x1,_⟩ _ ⟨hx1,rfl⟩;simp only at hx1;subst hx1;refine QAy (ca1 ?_);try dsimp only
   refine xif (fun hlim=>QAQ ?_) (fun hlim=>hno rfl ?_)
   rotate_left
   ·unfold QOl;rw[decide_eq_false_iff_not];rintro⟨_,_,_,_,q5⟩;unfold QPB at q5;simp only[decide_eq_false_iff_not]at hlim;exact hlim q5
   have hj:QOl p t'=true:=by
    unfold QOl;rw[decide_eq_true_eq];exact⟨hg'.1,hg'.2.1,hg'.2.2,by simpa using hgap,by unfold QPB;simpa using hlim⟩
   refine QAZ hq (h:=?_)
   (try dsimp only)
   refine QAL fun b1=>?_;refine QdZ 2 [Ar I64 sp p.tags,Each EP (rows.eraseIdx m) (rows.eraseIdx m)] (fun g hg=>QCI (R:=EP) hg hq hq) (QBM ?_);refine QEc (E:=I64) (i.val:Int) (hb:=by omega) (h:=fun s2=>QAQ ?_);refine QCx (({ p with count:=QPB p t' }:Poll),sp) hq rfl (by decide) rfl (h:=QAQ ?_)
   have hm':m<rows.length:=by omega
   refine QCx (E:=PR) (QRO p t' (i.val:Int),s2) (x:=(({ p with count:=QPB p t' }:Poll),sp)) (by simp[hm']) rfl (by decide) rfl (h:=?_);rw[List.set_set];refine QBQ [Ar I64 s2 (p.tags++[(i.val:Int)]),Each EP (rows.eraseIdx m) (rows.eraseIdx m)] (Each EP (rows.set m (QRO p t' (i.val:Int),s2)) (rows.set m (QRO p t' (i.val:Int),s2))) (fun g hg=>QDP (R:=EP) hm' hm' hg) ?_;refine QAK [Each EP (rows.set m (QRO p t' (i.val:Int),s2)) (rows.set m (QRO p t' (i.val:Int),s2)),Ar PR out (rows.set m (QRO p t' (i.val:Int),s2)),Ar I64 s (QMz ts)] (next _ _ ?_);unfold QPD;rw[hpk]
   (try simp only)
   rw[if_pos hj,List.map_set,hrows,←hrl,hm,Nat.add_sub_cancel]
theorem ca6{s0 s1 s2 s3 s4 s5:Sh}{K:s0.ty→s1.ty→s2.ty→s3.ty→s4.ty→s5.ty→WP}{x0:s0.ty}{x1:s1.ty}{x2:s2.ty}{x3:s3.ty}{x4:s4.ty}{x5:s5.ty}{v:Unit}(h:Ent B As (K x0 x1 x2 x3 x4 x5)):Ent B As (Cur.app [s0,s1,s2,s3,s4,s5] K (x0,x1,x2,x3,x4,x5,v)):=h
theorem QhA{P:Program}{f:FuncId}{args:List Value}{rs:Rs}{s0 s1 s2 s3 s4 s5 s6:Sh}{pre:List HP}{rd:HP}{post:Tup [s0,s1,s2,s3,s4,s5,s6]→List HP→Prop}{φ:(s0.ty→s1.ty→s2.ty→s3.ty→s4.ty→s5.ty→s6.ty→WP)→WP}(c:∀{K:s0.ty→s1.ty→s2.ty→s3.ty→s4.ty→s5.ty→s6.ty→WP}{w:World},φ K w→QAb P f args rs [s0,s1,s2,s3,s4,s5,s6] K w)
  (h:∀B:QBE,rd (frz B.W B.h0)→Ent B pre (φ fun x0 x1 x2 x3 x4 x5 x6=>Ret B post (x0,x1,x2,x3,x4,x5,x6,()))):Ct P f args rs [s0,s1,s2,s3,s4,s5,s6] pre rd post:=QAg (ss:=[s0,s1,s2,s3,s4,s5,s6]) c h
theorem ca7{s0 s1 s2 s3 s4 s5 s6:Sh}{K:s0.ty→s1.ty→s2.ty→s3.ty→s4.ty→s5.ty→s6.ty→WP}{x0:s0.ty}{x1:s1.ty}{x2:s2.ty}{x3:s3.ty}{x4:s4.ty}{x5:s5.ty}{x6:s6.ty}{v:Unit}(h:Ent B As (K x0 x1 x2 x3 x4 x5 x6)):Ent B As (Cur.app [s0,s1,s2,s3,s4,s5,s6] K (x0,x1,x2,x3,x4,x5,x6,v)):=h
abbrev nilS:Sl:=⟨none,0,0⟩
def askE(k addr count:Int):Int:=if addr<0∨addr>65535 then 21 else if count<1∨count>QHp k then 22 else if addr+count>65536 then 21 else 0
def QSX(p:Poll):Int:=if p.kind<1∨p.kind>4 then 28 else askE p.kind p.addr p.count
def askR(p:Poll):Int×Int×Int:=if QSX p=0 then (p.kind,p.addr,p.count) else (0,0,0)
theorem kinds{k:Int}(h:1≤k∧k≤4):k=1∨k=2∨k=3∨k=4:=by omega
theorem QIo(k addr count:Int)(hk:1≤k∧k≤4):Ct Pr 163 [.agg #[.I k,.I addr,.I count,nilS.v,nilS.v,nilS.v]] .one [.I] [] emp (fun t Bs=>t.1=askE k addr count∧Bs=[]):=by
 have e:Go.Cx.askE k addr count 0 0 []=askE k addr count:=by
  rcases kinds hk with rfl|rfl|rfl|rfl <;> (unfold Go.Cx.askE askE;simp[QAs,QKh,QUD,QHp])
 rw[←e];exact fun w g hs hm _=>QGl k addr count nilS nilS nilS [] w g hs hm ⟨rfl,rfl,fun h=>absurd h (Nat.lt_irrefl 0)⟩
theorem Ask_spec(p:Poll)(sp:Sl):Ct Pr 329 [.agg #[.I p.unit,.I p.kind,.I p.addr,.I p.count,.I p.every,sp.v]] (.tup [some 6,none]) [.I,.I,.I,.slice,.slice,.slice,.I] [] emp
  (fun t Bs=>t=((askR p).1,(askR p).2.1,(askR p).2.2,nilS,nilS,nilS,QSX p,())∧Bs=[]):=by
 refine sp7 (QUM _ _ _ _ _ _) fun B _=>?_;unfold QUM mf;dsimp only;refine QAL fun b=>QAL fun b1=>?_
 have bad:(p.kind<1∨p.kind>4)→QSX p=28∧askR p=(0,0,0):=fun h=>by
  have e:QSX p=28:=by unfold QSX;rw[if_pos h]
  exact⟨e,by unfold askR;rw[e];rfl⟩
 have out:(p.kind<1∨p.kind>4)→∀{As:List HP},Ent B As (Ret B (ss:=[.I,.I,.I,.slice,.slice,.slice,.I]) (fun t Bs=>t=((askR p).1,(askR p).2.1,(askR p).2.2,nilS,nilS,nilS,QSX p,())∧Bs=[]) (0,0,0,nilS,nilS,nilS,28,())):=fun h As=>by
  obtain⟨e1,e2⟩:=bad h;rw[e1,e2];exact QAa (l:=[]) (QAD ⟨rfl,rfl⟩)
 refine xgq (QAJ (xif (fun h=>QBz rfl ?_) (fun h=>xgq (xif (fun h'=>?_) (fun h'=>?_)))))
 ·iterate 6 (refine xsq ?_)
  iterate 3 (refine xgq ?_)
  iterate 3 (refine QAE (s:=.slice) (x:=nilS) (h:=?_))
  exact out (.inl (by simpa using h))
 ·iterate 6 (refine xsq ?_)
  iterate 3 (refine xgq ?_)
  iterate 3 (refine QAE (s:=.slice) (x:=nilS) (h:=?_))
  exact out (.inr (by simpa using h'))
 have hk:1≤p.kind∧p.kind≤4:=by simp at h h';omega
 have ex:QSX p=askE p.kind p.addr p.count:=by unfold QSX;rw[if_neg (by omega)]
 iterate 3 (refine xgq ?_)
 refine QAL fun b2=>?_;iterate 6 (refine xsq ?_)
 iterate 3 (refine xgq ?_)
 iterate 3 (refine QAE (s:=.slice) (x:=nilS) (h:=?_))
 refine QAR (QIo _ _ _ hk) rdb ?_;rintro⟨x,_⟩ _ ⟨hx,rfl⟩;simp only at hx;rw[←ex]at hx;subst hx;refine QAy (ca1 (xif (fun h0=>?_) (fun h0=>?_)))
 ·have h0:¬QSX p=0:=by simpa using h0
  have e:askR p=(0,0,0):=by unfold askR;rw[if_neg h0]
  iterate 6 (refine xsq ?_)
  iterate 3 (refine xgq ?_)
  iterate 3 (refine QAE (s:=.slice) (x:=nilS) (h:=?_))
  rw[e];exact QAa (l:=[]) (QAD ⟨rfl,rfl⟩)
 ·have h0:QSX p=0:=by simpa using h0
  have e:askR p=(p.kind,p.addr,p.count):=by unfold askR;rw[if_pos h0]
  iterate 3 (refine xgq ?_)
  iterate 3 (refine QAE (s:=.slice) (x:=nilS) (h:=?_))
  iterate 6 (refine xsq ?_)
  iterate 3 (refine xgq ?_)
  iterate 3 (refine QAE (s:=.slice) (x:=nilS) (h:=?_))
  rw[e,h0];exact QAa (l:=[]) (QAD ⟨rfl,rfl⟩)
def QFH(k addr count exc:Int)(no ns nf:Nat):Int:=
 if askE k addr count≠0 then askE k addr count
 else if exc≠0 then (if exc<1∨exc>127 then 3 else if no>0∨ns>0∨nf>0 then 23 else 0)
 else if nf>0∨(k≤2∧ns>0)∨(2<k∧no>0) then 23
 else if (k≤2∧(no:Int)≠count)∨(2<k∧(ns:Int)≠count) then 22 else 0
theorem QGv(k exc:Int)(r1 r2 r3:Sl)(hk:1≤k∧k≤4):Ct Pr 253 [.I k,.agg #[.I exc,r1.v,r2.v,r3.v]] .one [.bool] [] emp
  (fun t Bs=>t.1=decide (r3.n>0∨(k≤2∧r2.n>0)∨(2<k∧r1.n>0))∧Bs=[]):=by
 refine sp1 (QD7 _ _ _ _ _) fun B _=>?_;unfold QD7 mf;dsimp only;rcases kinds hk with rfl|rfl|rfl|rfl
 all_goals
  refine QAL fun b=>QAO ?_;repeat' (first|refine QAJ ?_|refine QBz (by decide) ?_|refine QBF (by decide) ?_|refine xgq ?_)
  refine QAa (l:=[]) (QAD ⟨?_,rfl⟩);rw[Bool.eq_iff_iff];simp only[Bool.or_eq_true,decide_eq_true_eq];omega
theorem QG5(k addr count exc:Int)(r1 r2 r3:Sl)(hk:1≤k∧k≤4):Ct Pr 254 [.agg #[.I k,.I addr,.I count,nilS.v,nilS.v,nilS.v],.agg #[.I exc,r1.v,r2.v,r3.v]] .one [.bool] [] emp
  (fun t Bs=>(!t.1)=decide ((k≤2∧(r1.n:Int)≠count)∨(2<k∧(r2.n:Int)≠count))∧Bs=[]):=by
 refine sp1 (QEE _ _ _ _ _ _ _ _ _ _) fun B _=>?_;unfold QEE mf;dsimp only;rcases kinds hk with rfl|rfl|rfl|rfl
 all_goals
  refine QAL fun b=>QAL fun b1=>?_;repeat' (first|refine QAJ ?_|refine QBz (by decide) ?_|refine QBF (by decide) ?_|refine xgq ?_)
  refine QAa (l:=[]) (QAD ⟨?_,rfl⟩);rw[Bool.eq_iff_iff];simp
theorem QK6(k addr count exc:Int)(r1 r2 r3:Sl)(hk:1≤k∧k≤4):Ct Pr 164 [.agg #[.I k,.I addr,.I count,nilS.v,nilS.v,nilS.v],.agg #[.I exc,r1.v,r2.v,r3.v]] .one [.I] [] emp
  (fun t Bs=>t.1=QFH k addr count exc r1.n r2.n r3.n∧Bs=[]):=by
 refine sp1 (QFs _ _ _ _ _ _ _ _ _ _) fun B _=>?_;have fin:∀{x:Int}{As:List HP},x=QFH k addr count exc r1.n r2.n r3.n→Ent B As (Ret B (ss:=[.I]) (fun t Bs=>t.1=QFH k addr count exc r1.n r2.n r3.n∧Bs=[]) (x,())):=fun h=>QAa (l:=[]) (QAD ⟨h,rfl⟩);unfold QFs mf;dsimp only;refine QAL fun b=>QAL fun b1=>?_;iterate 3 (refine xgq ?_)
 iterate 3 (refine QAE (s:=.slice) (x:=nilS) (h:=?_))
 refine QAR (QIo k addr count hk) rdb ?_;rintro⟨x,_⟩ _ ⟨hx,rfl⟩;simp only at hx;subst hx;refine QAy (ca1 (xif (fun h0=>fin ?_) (fun h0=>?_)))
 ·unfold QFH;rw[if_pos (by simpa using h0)]
 have h0:¬askE k addr count≠0:=by simpa using h0
 refine xgq (xif (fun h1=>?_) (fun h1=>?_))
 ·have h1:exc≠0:=by simpa using h1
  repeat' (first|refine QAJ ?_|refine QBz rfl ?_|refine QBF rfl ?_|refine xgq ?_|refine xif (fun h2=>?_) (fun h2=>?_))
  all_goals
   refine fin ?_
   simp only[decide_eq_true_eq,decide_eq_false_iff_not]at *
   unfold QFH;rw[if_neg h0,if_pos h1];first|rw[if_pos (by omega)]|rw[if_neg (by omega),if_pos (by omega)]|rw[if_neg (by omega),if_neg (by omega)]
 have h1:¬exc≠0:=by simpa using h1
 iterate 5 (refine xgq ?_)
 refine QAR (QGv k exc r1 r2 r3 hk) rdb ?_;rintro⟨x,_⟩ _ ⟨hx,rfl⟩;simp only at hx;subst hx;refine QAy (ca1 (QAA (fun h2=>fin ?_) (fun h2=>?_)))
 ·unfold QFH;rw[if_neg h0,if_neg h1,if_pos h2]
 iterate 3 (refine xgq ?_)
 iterate 3 (refine QAE (s:=.slice) (x:=nilS) (h:=?_))
 iterate 4 (refine xgq ?_)
 refine QAR (QG5 k addr count exc r1 r2 r3 hk) rdb ?_;rintro⟨x,_⟩ _ ⟨hx,rfl⟩;simp only at hx;refine QAy (ca1 ?_);rw[hx];refine QAA (fun h3=>fin ?_) (fun h3=>fin ?_)
 ·unfold QFH;rw[if_neg h0,if_neg h1,if_neg h2,if_pos h3]
 ·unfold QFH;rw[if_neg h0,if_neg h1,if_neg h2,if_neg h3]
def U16:Enc UInt16:=⟨fun x=>[.int .u16 x.toNat],1,fun _=>rfl,fun x v h=>by simp at h;subst h;rfl,by decide,0⟩
def QTb(wide swap sgn:Bool)(ws:List UInt16):Int:=
 let a:Int:=((ws[0]?.getD 0).toNat:Int)
 let b:Int:=((ws[1]?.getD 0).toNat:Int)
 let n:Int:=if swap=true then a+b*65536 else if wide=true then a*65536+b else a
 let sp:Int:=if wide=true then 4294967296 else 65536
 if sgn=true∧2*n≥sp then n - sp else n
theorem QQv(x:UInt16):(x.toNat:Int)<65536:=by have:=x.toNat_lt;omega
theorem QJA(wide sgn swap:Bool)(mul div add:Int):Ct Pr 511 [.agg #[.bool wide,.bool sgn,.bool swap,.I mul,.I div,.I add]] .one [.I] [] emp (fun t Bs=>t.1=(if wide=true then 4294967296 else 65536)∧Bs=[]):=by
 refine sp1 (QN4 _ _ _ _ _ _) fun B _=>?_;unfold QN4 mf;dsimp only;refine QAL fun b=>QAE (h:=xif (fun h=>QAa (l:=[]) (QAD ⟨by rw[if_pos h],rfl⟩)) (fun h=>QAa (l:=[]) (QAD ⟨by rw[h];rfl,rfl⟩)))
theorem e16:(2:Int) ^ (min (Int.toNat 16) 64)=65536:=by decide
theorem QUt{ws:List UInt16}(h:ws.length=2):∃a b,ws=[a,b]:=by
 match ws,h with
 | [a,b],_=>exact⟨a,b,rfl⟩
theorem QfJ{ws:List UInt16}(h:ws.length=1):∃a,ws=[a]:=by
 match ws,h with
 | [a],_=>exact⟨a,rfl⟩
theorem QbC(wide sgn swap:Bool)(mul div add:Int)(s:Sl)(ws:List UInt16)(h0:QCZ wide swap mul div add=0)(hl:ws.length=if wide=true then 2 else 1) :
  Ct Pr 487 [.agg #[.bool wide,.bool sgn,.bool swap,.I mul,.I div,.I add],s.v] (.tup [none,none]) [.I,.I] [] (RAr U16 s ws) (fun t Bs=>t.1=QTb wide swap sgn ws∧t.2.1=0∧Bs=[]):=by
 refine sp2 (QRp _ _ _ _ _ _ _) fun B hr=>?_;haveI:Fro B s U16 ws:=⟨hr⟩;have hn:=hr.1;have fin:∀{x:Int}{As:List HP},x=QTb wide swap sgn ws→Ent B As (Ret B (ss:=[.I,.I]) (fun t Bs=>t.1=QTb wide swap sgn ws∧t.2.1=0∧Bs=[]) (x,0,())):=fun h=>QAa (l:=[]) (QAD ⟨h,rfl,rfl⟩);unfold QRp mf;dsimp only;refine QAL fun b=>?_;iterate 6 (refine xgq ?_)
 refine QAR (QET wide sgn swap mul div add) rdb ?_;rintro⟨x,_⟩ _ ⟨hx,rfl⟩;simp only at hx;rw[h0]at hx;subst hx;refine QAy (ca1 (QBF rfl ?_))
 cases wide with
 | false=>
  have hsw:swap=false:=by
   cases swap with
   | false=>rfl
   | true=>simp[QCZ]at h0
  subst hsw;obtain⟨w0,rfl⟩:=QfJ (by simpa using hl);have b0:=QQv w0
  have hn:s.n=1:=by simpa using hn.symm
  refine QAE (h:=QAJ (QBF rfl (QAE (h:=QBF (by rw[hn];rfl) ?_))));refine QZ4 (E:=U16) (h0:=by decide) (h1:=by simp) (h:=fun x hx=>?_)
  obtain rfl:w0=x:=by simpa using hx
  refine QAN hx (h:=xgq (QAJ (QBF rfl (xgq (QAJ (QBF rfl (xgq (QAJ ?_))))))));have w1:IntKind.i64.wrap (w0.toNat:Int)=w0.toNat:=QAB _ (by omega) (by omega);rw[w1];refine xif (fun h1=>?_) (fun h1=>QBF rfl (fin ?_))
  ·iterate 6 (refine xgq ?_)
   refine QAR (QJA _ _ _ _ _ _) rdb ?_;rintro⟨x,_⟩ _ ⟨hx,rfl⟩;simp only at hx;subst hx;refine QAy (ca1 (QA6 (by decide) (QAJ (xif (fun h2=>?_) (fun h2=>fin ?_)))))
   ·iterate 6 (refine xgq ?_)
    refine QAR (QJA _ _ _ _ _ _) rdb ?_;rintro⟨x,_⟩ _ ⟨hx,rfl⟩;simp only at hx;subst hx;refine QAy (ca1 (fin ?_));have h2:(w0.toNat:Int)≥32768:=of_decide_eq_true h2;simp only[Bool.false_eq_true,if_false];rw[QAB _ (by omega) (by omega)];simp only[QTb,h1,List.getElem?_cons_zero,Option.getD_some,Bool.false_eq_true,if_false,true_and];rw[if_pos (by omega)]
   ·have h2:¬(w0.toNat:Int)≥32768:=of_decide_eq_false h2;simp only[QTb,h1,List.getElem?_cons_zero,Option.getD_some,Bool.false_eq_true,if_false,true_and];rw[if_neg (by omega)]
  ·simp[QTb,h1]
 | true=>
  obtain⟨w0,w1,rfl⟩:=QUt (by simpa using hl);have b0:=QQv w0;have b1:=QQv w1
  have hn:s.n=2:=by simpa using hn.symm
  refine QAE (h:=QAJ (QBF (by rw[hn];rfl) (xgq (QBF rfl ?_))));refine QZ4 (E:=U16) (h0:=by decide) (h1:=by simp) (h:=fun x hx=>?_)
  obtain rfl:w0=x:=by simpa using hx
  have q0:IntKind.i64.wrap (w0.toNat:Int)=w0.toNat:=QAB _ (by omega) (by omega);have q1:IntKind.i64.wrap (w1.toNat:Int)=w1.toNat:=QAB _ (by omega) (by omega);refine QAN hx (h:=xgq ?_);refine QAS (fun(x:Int) As'=>As'=[Blk b [.bool true,.bool sgn,.bool swap,.I mul,.I div,.I add]]∧x=if swap=true then (w0.toNat:Int)+w1.toNat*65536 else (w0.toNat:Int)*65536+w1.toNat) (fun K1 hK1=>?_) ?_
  ·refine xif (fun h1=>?_) (fun h1=>QAE (h:=QAJ (QBz rfl (QA6 (by decide) ?_))))
   ·refine QZ4 (E:=U16) (h0:=by decide) (h1:=by simp) (h:=fun y hy=>?_)
    obtain rfl:w1=y:=by simpa using hy
    refine QAN hy (h:=QA6 (by decide) (hK1 _ _ ⟨rfl,?_⟩));rw[q0,q1,e16,QAB ((w1.toNat:Int)*65536) (by omega) (by omega),QAB _ (by omega) (by omega),if_pos h1]
   ·refine QZ4 (E:=U16) (h0:=by decide) (h1:=by simp) (h:=fun y hy=>?_)
    obtain rfl:w1=y:=by simpa using hy
    refine QAN hy (h:=hK1 _ _ ⟨rfl,?_⟩);rw[q0,q1,e16,QAB ((w0.toNat:Int)*65536) (by omega) (by omega),QAB _ (by omega) (by omega),if_neg (by rw[h1];simp)]
  rintro n0 As2 ⟨rfl,hnn⟩;obtain⟨n,hn0⟩:∃n:Int,n=n0:=⟨n0,rfl⟩;subst hn0
  have hnn:n=if swap=true then (w0.toNat:Int)+w1.toNat*65536 else (w0.toNat:Int)*65536+w1.toNat:=hnn
  have hr2:0≤n∧n<4294967296:=by rw[hnn];split<;>omega
  have hraw:QTb true swap sgn [w0,w1]=if sgn=true∧2*n≥4294967296 then n - 4294967296 else n:=by
   simp only[QTb,List.getElem?_cons_zero,List.getElem?_cons_succ,Option.getD_some,if_true,←hnn]
  refine xgq (QAJ (xif (fun h1=>?_) (fun h1=>QBF rfl (fin ?_))))
  ·iterate 6 (refine xgq ?_)
   refine QAR (QJA _ _ _ _ _ _) rdb ?_;rintro⟨x,_⟩ _ ⟨hx,rfl⟩;simp only at hx;subst hx;refine QAy (ca1 (QA6 (by decide) (QAJ (xif (fun h2=>?_) (fun h2=>fin ?_)))))
   ·iterate 6 (refine xgq ?_)
    refine QAR (QJA _ _ _ _ _ _) rdb ?_;rintro⟨x,_⟩ _ ⟨hx,rfl⟩;simp only at hx;subst hx;refine QAy (ca1 (fin ?_));have h2:n≥2147483648:=of_decide_eq_true h2;simp only[if_true];rw[QAB _ (by omega) (by omega),hraw,if_pos ⟨h1,by omega⟩]
   ·have h2:¬n≥2147483648:=of_decide_eq_false h2;rw[hraw,if_neg (by rintro⟨_,h⟩;omega)]
  ·rw[hraw,if_neg (by rw[h1];simp)]
theorem QXG(wide swap sgn:Bool)(ws:List UInt16) : -2147483648≤QTb wide swap sgn ws∧QTb wide swap sgn ws≤4294967295∧(swap=true→wide=true→True)∨(swap=true∧wide=false):=by
 have b0:=QQv (ws[0]?.getD 0);have b1:=QQv (ws[1]?.getD 0);cases swap<;>cases wide<;>cases sgn<;>simp only[QTb,if_true,Bool.false_eq_true,if_false,true_and,false_and] <;> first|(left;refine⟨?_,?_,fun _ _=>trivial⟩ <;> (try split)<;>omega)|(right;trivial)
def QKc(n d:Int):Int:=if n<0 then -((2*(-n)+d) / (2*d)) else (2*n+d) / (2*d)
def clampV(x:Int):Int:=if x < -1099511627776 then -1099511627776 else if x>1099511627776 then 1099511627776 else x
def valN(mul div add raw:Int):Int:=clampV (QKc (raw*mul) div+add)
theorem QHK{n d:Int}(hd:1≤d)(hn:0≤n):0≤(2*n+d) / (2*d)∧(2*n+d) / (2*d)≤2*n+d:=
 ⟨Int.ediv_nonneg (by omega) (by omega),Int.ediv_le_self _ (by omega)⟩
theorem QOV(n d:Int)(hn:0≤n)(hn2:n≤1152921504606846976)(hd:1≤d)(hd2:d≤1000000):Ct Pr 512 [.I n,.I d] .one [.I] [] emp (fun t Bs=>t.1=QKc n d∧Bs=[]):=by
 refine sp1 (QD9 _ _) fun B _=>?_;unfold QD9 mf;dsimp only;have hb:=QHK hd hn;refine QBF (by simpa using hn) ?_;rw[QAB (2*d) (by omega) (by omega),QAB (2*n) (by omega) (by omega),QAB (2*n+d) (by omega) (by omega),Int.tdiv_eq_ediv_of_nonneg (by omega),QAB _ (by omega) (by omega)];refine QA6 (by omega) (QAD ⟨?_,rfl⟩);unfold QKc;rw[if_neg (by omega)]
theorem QZj(n d:Int)(hn : -1152921504606846976≤n)(hn2:n≤1152921504606846976)(hd:1≤d)(hd2:d≤1000000):Ct Pr 512 [.I n,.I d] .one [.I] [] emp (fun t Bs=>t.1=QKc n d∧Bs=[]):=by
 by_cases h:0≤n
 ·exact QOV n d h hn2 hd hd2
 refine sp1 (QD9 _ _) fun B _=>?_;unfold QD9 mf;dsimp only;have hb:=QHK hd (show 0≤-n by omega);refine QBz (by simp;omega) ?_;rw[QAB (0 - n) (by omega) (by omega)];refine QAR (QOV (0 - n) d (by omega) (by omega) hd hd2) rdb ?_;rintro⟨x,_⟩ _ ⟨hx,rfl⟩;simp only at hx;subst hx;refine QAy (ca1 (QAD ⟨?_,rfl⟩));show IntKind.i64.wrap (0 - QKc (0 - n) d)=QKc n d;unfold QKc;rw[if_neg (by omega),if_pos (by omega),show (0 - n) = -n by omega,QAB _ (by omega) (by omega)];omega
theorem QUl{wide swap:Bool}{mul div add:Int}(h:QCZ wide swap mul div add=0) : -1000000≤mul∧mul≤1000000∧1≤div∧div≤1000000∧-1099511627776≤add∧add≤1099511627776∧(swap=true→wide=true):=by
 unfold QCZ at h;split at h
 ·cases h
 ·rename_i hh
  refine⟨by omega,by omega,by omega,by omega,by omega,by omega,fun hs=>?_⟩
  cases wide with
  | true=>rfl
  | false=>exact absurd (.inr (.inr (.inr (.inr (.inr (.inr (.inr ⟨hs,rfl⟩))))))) hh
theorem QWF{raw mul:Int}(h1 : -2147483648≤raw)(h2:raw≤4294967295)(h3 : -1000000≤mul)(h4:mul≤1000000) : -4294967295000000≤raw*mul∧raw*mul≤4294967295000000:=by
 have e:(raw*mul).natAbs=raw.natAbs*mul.natAbs:=Int.natAbs_mul _ _;have:raw.natAbs*mul.natAbs≤4294967295*1000000:=Nat.mul_le_mul (by omega) (by omega);omega
theorem QS2{n d:Int}(h1 : -4294967295000000≤n)(h2:n≤4294967295000000)(hd:1≤d)(hd2:d≤1000000) : -9000000000000000≤QKc n d∧QKc n d≤9000000000000000:=by
 unfold QKc;split
 ·have:=QHK hd (show 0≤-n by omega);omega
 ·have:=QHK hd (show 0≤n by omega);omega
theorem QWN(wide sgn swap:Bool)(mul div add raw:Int)(h0:QCZ wide swap mul div add=0)(hr1 : -2147483648≤raw)(hr2:raw≤4294967295) :
  Ct Pr 488 [.agg #[.bool wide,.bool sgn,.bool swap,.I mul,.I div,.I add],.I raw] (.tup [none,none]) [.I,.I] [] emp (fun t Bs=>t.1=valN mul div add raw∧t.2.1=0∧Bs=[]):=by
 refine sp2 (QMG _ _ _ _ _ _ _) fun B _=>?_;obtain⟨m1,m2,d1,d2,a1,a2,_⟩:=QUl h0;obtain⟨p1,p2⟩:=QWF hr1 hr2 m1 m2;obtain⟨n1,n2⟩:=QS2 p1 p2 d1 d2;unfold QMG mf;dsimp only;refine QAL fun b=>?_;iterate 6 (refine xgq ?_)
 refine QAR (QET wide sgn swap mul div add) rdb ?_;rintro⟨x,_⟩ _ ⟨hx,rfl⟩;simp only at hx;rw[h0]at hx;subst hx;refine QAy (ca1 (QBF rfl ?_));refine QAR (QBg raw (-2147483648) 4294967295 (by decide)) rdb ?_;rintro⟨x,_⟩ _ ⟨hx,_,rfl⟩;simp only at hx;refine QAy (ca1 ?_);rw[hx];refine QBF (by simp;omega) (QAO ?_);iterate 3 (refine xgq ?_)
 rw[QAB (raw*mul) (by omega) (by omega)];refine QAR (QZj (raw*mul) div (by omega) (by omega) d1 d2) rdb ?_;rintro⟨x,_⟩ _ ⟨hx,rfl⟩;simp only at hx;subst hx;refine QAy (ca1 (QC6 (h:=?_)));rw[QAB (QKc (raw*mul) div+add) (by omega) (by omega)];refine QAR (QBg (QKc (raw*mul) div+add) (-1099511627776) 1099511627776 (by decide)) rdb ?_;rintro⟨x,_⟩ _ ⟨_,hx,rfl⟩;simp only at hx;subst hx;exact QAy (ca1 (QAa (l:=[]) (QAD ⟨rfl,rfl,rfl⟩)))
def QEO(t:Tag)(p:Poll):Bool:=decide (t.unit=p.unit∧t.kind=p.kind∧p.addr≤t.addr∧t.addr+t.width≤p.addr+p.count)
theorem QQL(t:Tag)(p:Poll)(sp:Sl)(ht:tagE t=0)(h1:0≤p.addr)(h2:p.addr≤65535)(h3:0≤p.count)(h4:p.count≤2000):Ct Pr 430 [t.v,.agg #[.I p.unit,.I p.kind,.I p.addr,.I p.count,.I p.every,sp.v]] .one [.bool] [] emp
  (fun r Bs=>r.1=QEO t p∧Bs=[]):=by
 refine sp1 (QMq _ _ _ _ _ _ _ _ _ _ _ _ _ _ _ _ _ _ _ _ _ _ _ _ _) fun B _=>?_;have fin:∀{x:Bool}{As:List HP},x=QEO t p→Ent B As (Ret B (ss:=[.bool]) (fun r Bs=>r.1=QEO t p∧Bs=[]) (x,())):=fun h=>QAa (l:=[]) (QAD ⟨h,rfl⟩)
 have no:¬(t.unit=p.unit∧t.kind=p.kind∧p.addr≤t.addr∧t.addr+t.width≤p.addr+p.count)→false=QEO t p:=fun h=>by unfold QEO;symm;exact decide_eq_false h
 have hw:=QJK t;obtain⟨_,_,_,_,a1,a2,_⟩:=QUs ht;unfold QMq mf;dsimp only;refine QAL fun b=>QAL fun b1=>QAO (QAJ (xgq (xgq ?_)));refine xif (fun q1=>xgq (xgq ?_)) (fun q1=>QBF rfl (QBF rfl (fin (no ?_))))
 ·have q1:t.unit=p.unit:=by simpa using q1
  refine xif (fun q2=>xgq (xgq ?_)) (fun q2=>QBF rfl (fin (no ?_)))
  ·have q2:t.kind=p.kind:=by simpa using q2
   refine QAA (fun q3=>?_) (fun q3=>fin (no ?_))
   ·iterate 22 (refine xgq ?_)
    refine QAR (QHY t) rdb ?_;rintro⟨x,_⟩ _ ⟨hx,rfl⟩;simp only at hx;subst hx;refine QAy (ca1 ?_);iterate 3 (refine QC6 (h:=?_))
    rw[QAB (t.addr+t.width) (by omega) (by omega),QAB (p.addr+p.count) (by omega) (by omega)];refine fin ?_;unfold QEO;exact decide_eq_decide.2 ⟨fun h=>⟨q1,q2,q3,h⟩,fun h=>h.2.2.2⟩
   ·rintro⟨_,_,h,_⟩;exact q3 h
  ·rintro⟨_,h,_⟩;rw[h]at q2;simp at q2
 ·have q1:¬t.unit=p.unit:=by simpa using q1
  rintro⟨h,_⟩;exact q1 h
def valueM(t:Tag)(p:Poll)(on:List Bool)(ws:List UInt16):Int:=
 if t.kind≤2 then (if (on[(t.addr - p.addr).toNat]?.getD false)=true then 1 else 0)
 else valN t.mul t.div t.add (QTb t.wide t.swap t.sgn ((ws.take ((t.addr - p.addr).toNat+t.width.toNat)).drop (t.addr - p.addr).toNat))
theorem QMc{t:Tag}{p:Poll}(h:QEO t p=true):t.unit=p.unit∧t.kind=p.kind∧p.addr≤t.addr∧t.addr+t.width≤p.addr+p.count:=by simpa [QEO]using h
theorem QeY{wide swap sgn:Bool}{mul div add:Int}(h:QCZ wide swap mul div add=0)(ws:List UInt16) : -2147483648≤QTb wide swap sgn ws∧QTb wide swap sgn ws≤4294967295:=by
 rcases QXG wide swap sgn ws with h1|⟨h1,h2⟩
 ·exact⟨h1.1,h1.2.1⟩
 ·have:=(QUl h).2.2.2.2.2.2 h1;rw[h2]at this;cases this
theorem QVq(t:Tag)(p:Poll)(sp:Sl)(exc:Int)(r1 r2 r3:Sl)(on:List Bool)(ws:List UInt16)(ht:tagE t=0)(hw:QEO t p=true)(h1:0≤p.addr)(h2:p.addr≤65535)(h3:0≤p.count)(h4:p.count≤2000)(hc:r2.n≤r2.c)
  (hon:t.kind≤2→(on.length:Int)=p.count) (hws:2<t.kind→(ws.length:Int)=p.count) :
  Ct Pr 431 [t.v,.agg #[.I p.unit,.I p.kind,.I p.addr,.I p.count,.I p.every,sp.v],.agg #[.I exc,r1.v,r2.v,r3.v]] .one [.I] [] ((RAr BL r1 on).and (RAr U16 r2 ws))
  (fun r Bs=>r.1=valueM t p on ws∧Bs=[]):=by
 refine sp1 (QNn _ _ _ _ _ _ _ _ _ _ _ _ _ _ _ _ _ _ _ _ _ _ _ _ _ _ _ _ _) fun B hr=>?_;haveI:Fro B r1 BL on:=⟨hr.1⟩;haveI:Fro B r2 U16 ws:=⟨hr.2⟩;have hn2:=hr.2.1;obtain⟨w1,w2,w3,w4⟩:=QMc hw;have hwd:=QJK t;obtain⟨_,_,k1,k2,a1,a2,_,_,hsc⟩:=QUs ht;have fin:∀{x:Int}{As:List HP},x=valueM t p on ws→Ent B As (Ret B (ss:=[.I]) (fun r Bs=>r.1=valueM t p on ws∧Bs=[]) (x,())):=fun h=>QAa (l:=[]) (QAD ⟨h,rfl⟩);have wa:IntKind.i64.wrap (t.addr - p.addr)=t.addr - p.addr:=QAB _ (by omega) (by omega);unfold QNn mf;dsimp only;refine QAL fun b=>QAL fun b1=>QAL fun b2=>?_;iterate 3 (refine xgq ?_)
 rw[wa];refine QAA (fun hk=>?_) (fun hk=>?_)
 ·have hk2:t.kind≤2:=hk;have hon:=hon hk2;refine xgq ?_;refine QZ4 (h0:=by omega) (h1:=by omega) (h:=fun x hx=>?_)
  have e:valueM t p on ws=if x=true then 1 else 0:=by unfold valueM;rw[if_pos hk2,hx];rfl
  refine QAN hx (h:=xif (fun hx'=>fin ?_) (fun hx'=>fin ?_))
  ·rw[e,if_pos hx']
  ·rw[e,hx'];rfl
 ·have hk2:¬t.kind≤2:=hk;have hws:=hws (by omega);refine QAO ?_;iterate 26 (refine xgq ?_)
  refine QAR (QHY t) rdb ?_;rintro⟨x,_⟩ _ ⟨hx,rfl⟩;simp only at hx;subst hx;refine QAy (ca1 ?_);iterate 7 (refine QC6 (h:=?_))
  rw[QAB (t.addr - p.addr+t.width) (by omega) (by omega)];refine QEh (by omega) (by omega) (by omega) (by omega) ?_;rw[Int.toNat_natCast];have hcut:=hr.2.cut (t.addr - p.addr).toNat (t.addr - p.addr+t.width).toNat r2.c (by omega) (by omega) (by omega);rw[show (t.addr - p.addr+t.width).toNat=(t.addr - p.addr).toNat+t.width.toNat by omega]at hcut⊢;generalize hcw:(ws.take ((t.addr - p.addr).toNat+t.width.toNat)).drop (t.addr - p.addr).toNat=cw at hcut
  have hcl:cw.length=if t.wide=true then 2 else 1:=by
   rw[←hcw]
   have hl:((ws.take ((t.addr - p.addr).toNat+t.width.toNat)).drop (t.addr - p.addr).toNat).length=t.width.toNat:=by simp;omega
   rw[hl];unfold Tag.width
   cases t.wide with
   | false=>rfl
   | true=>rw[if_pos ⟨rfl,by omega⟩];rfl
  have e:valueM t p on ws=valN t.mul t.div t.add (QTb t.wide t.swap t.sgn cw):=by unfold valueM;rw[if_neg hk2,hcw]
  haveI:Fro B (r2.cut (t.addr - p.addr).toNat ((t.addr - p.addr).toNat+t.width.toNat) r2.c 1) U16 cw:=⟨hcut⟩;obtain⟨q1,q2⟩:=QeY (sgn:=t.sgn) hsc cw;refine QAR (QbC t.wide t.sgn t.swap t.mul t.div t.add _ cw hsc hcl) rdb ?_;rintro⟨x,y,_⟩ _ ⟨hx,hy,rfl⟩;simp only at hx hy;subst hx hy;refine QAy (ca2 ?_);iterate 6 (refine xgq ?_)
  refine QAR (QWN t.wide t.sgn t.swap t.mul t.div t.add _ hsc q1 q2) rdb ?_;rintro⟨x,y,_⟩ _ ⟨hx,hy,rfl⟩;simp only at hx hy;subst hx hy;exact QAy (ca2 (fin e.symm))
def tagAt(ts:List Tag)(k:Int):Option Tag:=if k<0 then none else ts[k.toNat]?
def goV(ts:List Tag)(p:Poll)(on:List Bool)(ws:List UInt16):List Int→List Int→List Int×Int
 | [],out=>(out,0)
 | k::ks,out=>match tagAt ts k with
  | none=>([],3)
  | some t=>if QEO t p=true then goV ts p on ws ks (out++[valueM t p on ws]) else ([],3)
def valuesM(ts:List Tag)(p:Poll)(exc:Int)(on:List Bool)(ws:List UInt16)(nf:Nat):List Int×Int:=
 if (allE ts).1≠0 then ([],(allE ts).1)
 else if QSX p≠0 then ([],QSX p)
 else if QFH p.kind p.addr p.count exc on.length ws.length nf≠0 then ([],QFH p.kind p.addr p.count exc on.length ws.length nf)
 else if exc≠0 then ([],12) else goV ts p on ws p.tags []
theorem ask_ok{p:Poll}(h:QSX p=0):1≤p.kind∧p.kind≤4∧0≤p.addr∧p.addr≤65535∧1≤p.count∧p.count≤QHp p.kind∧p.count≤2000∧p.addr+p.count≤65536:=by
 unfold QSX at h;split at h
 ·cases h
 unfold askE at h;split at h
 ·cases h
 split at h
 ·cases h
 split at h
 ·cases h
 have:QHp p.kind≤2000:=by unfold QHp;split<;>decide
 omega
theorem Qbi{k addr count:Int}{no ns nf:Nat}(h:QFH k addr count 0 no ns nf=0):(k≤2→(no:Int)=count)∧(2<k→(ns:Int)=count):=by
 unfold QFH at h;split at h
 ·rename_i h0;exact absurd h h0
 rw[if_neg (by simp)]at h;split at h
 ·cases h
 split at h
 ·cases h
 rename_i h1 h2
 constructor
 ·intro hk;omega
 ·intro hk;omega
theorem Values_spec(l:Sl)(ts:List Tag)(p:Poll)(sp:Sl)(exc:Int)(r1 r2 r3:Sl)(on:List Bool)(ws:List UInt16)(hc:r2.n≤r2.c)(htl:p.tags.length≤1000000) :
  Ct Pr 338 [l.v,.agg #[.I p.unit,.I p.kind,.I p.addr,.I p.count,.I p.every,sp.v],.agg #[.I exc,r1.v,r2.v,r3.v]] (.tup [none,none]) [.slice,.I] []
  ((RAr TG l ts).and ((RAr I64 sp p.tags).and ((RAr BL r1 on).and (RAr U16 r2 ws))))
  (fun r Bs=>r.2.1=(valuesM ts p exc on ws r3.n).2∧Bs=[Ar I64 r.1 (valuesM ts p exc on ws r3.n).1]):=by
 refine sp2 (QMv _ _ _ _ _ _ _ _ _ _ _) fun B hr=>?_;haveI:Fro B l TG ts:=⟨hr.1⟩;haveI:Fro B sp I64 p.tags:=⟨hr.2.1⟩;haveI:Fro B r1 BL on:=⟨hr.2.2.1⟩;haveI:Fro B r2 U16 ws:=⟨hr.2.2.2⟩;have hl:=hr.1.1;have hsn:=hr.2.1.1;have h1n:=hr.2.2.1.1;have h2n:=hr.2.2.2.1
 have fin:∀{x:Int}{As:List HP},valuesM ts p exc on ws r3.n=([],x)→Ent B As (Ret B (ss:=[.slice,.I]) (fun r Bs=>r.2.1=(valuesM ts p exc on ws r3.n).2∧Bs=[Ar I64 r.1 (valuesM ts p exc on ws r3.n).1]) (nilS,x,())):=fun h=>by
  rw[h];exact QAd I64 (QAa (l:=[Ar I64 nilS []]) (QAD ⟨rfl,rfl⟩))
 unfold QMv mf;dsimp only;refine QAL fun b=>QAL fun b1=>?_;refine QAR (CheckAll_spec l ts) rdb ?_;rintro⟨e,at_,_⟩ _ ⟨he,hat,rfl⟩;simp only at he hat;subst he hat;refine QAy (ca2 (xif (fun h0=>fin ?_) (fun h0=>?_)))
 ·unfold valuesM;rw[if_pos (by simpa using h0)]
 have h0:(allE ts).1=0:=by simpa using h0
 have hlen:=allE_len h0;iterate 6 (refine xgq ?_)
 refine QAR (Ask_spec p sp) rdb ?_;rintro t _ ⟨rfl,rfl⟩;refine QAy (ca7 (QAL fun b2=>?_));iterate 6 (refine xsq ?_)
 refine xif (fun h1=>fin ?_) (fun h1=>?_)
 ·unfold valuesM;rw[if_neg (by simp[h0]),if_pos (by simpa using h1)]
 have h1:QSX p=0:=by simpa using h1
 obtain⟨k1,k2,a1,a2,c1,c2,c3,c4⟩:=ask_ok h1
 have er:askR p=(p.kind,p.addr,p.count):=by unfold askR;rw[if_pos h1]
 iterate 3 (refine xgq ?_)
 iterate 3 (refine QAE (s:=.slice) (x:=nilS) (h:=?_))
 iterate 4 (refine xgq ?_)
 rw[er]
 (try dsimp only)
 refine QAR (QK6 p.kind p.addr p.count exc r1 r2 r3 ⟨k1,k2⟩) rdb ?_;rintro⟨x,_⟩ _ ⟨hx,rfl⟩;simp only at hx;rw[←h1n,←h2n]at hx;subst hx;refine QAy (ca1 (xif (fun h2=>fin ?_) (fun h2=>?_)))
 ·unfold valuesM;rw[if_neg (by simp[h0]),if_neg (by simp[h1]),if_pos (by simpa using h2)]
 have h2:QFH p.kind p.addr p.count exc on.length ws.length r3.n=0:=by simpa using h2
 refine xgq (xif (fun h3=>fin ?_) (fun h3=>?_))
 ·unfold valuesM;rw[if_neg (by simp[h0]),if_neg (by simp[h1]),if_neg (by simp[h2]),if_pos (by simpa using h3)]
 have h3:exc=0:=by simpa using h3
 have ev:valuesM ts p exc on ws r3.n=goV ts p on ws p.tags []:=by
  unfold valuesM;rw[if_neg (by simp[h0]),if_neg (by simp[h1]),if_neg (by simp[h2]),if_neg (by simp[h3])]
 rw[h3]at h2;obtain⟨hon,hws⟩:=Qbi h2;refine xgq ?_;refine QB5 0 (QAd I64 ?_);refine QBb (fun n (out:Sl) (x:Int) As'=>∃(j:Nat) (xs:List Int),x=(j:Int)∧n=p.tags.length - j∧j≤p.tags.length∧xs.length≤j∧goV ts p on ws p.tags []=goV ts p on ws (p.tags.drop j) xs∧As'=[Ar I64 out xs,Blk b1 [.I exc,r1.v,r2.v,r3.v],Blk b [.I p.unit,.I p.kind,.I p.addr,.I p.count,.I p.every,sp.v]]) p.tags.length ⟨0,[],rfl,by omega,by omega,by simp,rfl,rfl⟩ ?_;rintro n out x As' K ⟨j,xs,rfl,rfl,hj,hxs,hg,rfl⟩ hK

 refine QAA (fun hp=>?_) (fun hp=>?_)
 rotate_left
 ·have e:valuesM ts p exc on ws r3.n=(xs,0):=by rw[ev,hg,List.drop_eq_nil_of_le (by omega)];rfl
  rw[e];exact QAa (l:=[Ar I64 out xs]) (QAD ⟨rfl,rfl⟩)
 have hp:j<p.tags.length:=by omega

 refine QAH (h1:=hp) (h:=fun k hk=>?_);refine QAN hk (h:=QAO (QAJ ?_))
 have hdrop:p.tags.drop j=k::p.tags.drop (j+1):=by
  rw[List.drop_eq_getElem_cons hp];rw[(List.getElem?_eq_some_iff.1 hk).2]
 rw[hdrop]at hg;have bad:∀{As:List HP},tagAt ts k=none→Ent B As (Ret B (ss:=[.slice,.I]) (fun r Bs=>r.2.1=(valuesM ts p exc on ws r3.n).2∧Bs=[Ar I64 r.1 (valuesM ts p exc on ws r3.n).1]) (nilS,3,())):=fun h=>fin (by rw[ev,hg];simp only[goV,h]);refine xif (fun q=>QBz rfl (QBz rfl (bad ?_))) (fun q=>xif (fun q'=>QBz rfl (bad ?_)) (fun q'=>?_))
 ·unfold tagAt;rw[if_pos (of_decide_eq_true q)]
 ·have q:¬k<0:=of_decide_eq_false q;have q':k≥(l.n:Int):=of_decide_eq_true q';unfold tagAt;rw[if_neg q,List.getElem?_eq_none (by omega)]
 have q:¬k<0:=of_decide_eq_false q;have q':¬k≥(l.n:Int):=of_decide_eq_false q';obtain⟨m,rfl⟩:∃m:Nat,k=(m:Int):=⟨k.toNat,by omega⟩
 have hm:m<ts.length:=by omega
 refine QAH (h1:=hm) (h:=fun t ht=>?_)
 have hta:tagAt ts (m:Int)=some t:=by unfold tagAt;rw[if_neg q,Int.toNat_natCast,ht]
 have htg:=allE_tag h0 ht;refine QAN ht (h:=?_);iterate 18 (refine QAZ ht (h:=?_))
 iterate 6 (refine xgq ?_)
 refine QAR (QQL t p sp htg a1 a2 (by omega) c3) rdb ?_;rintro⟨x,_⟩ _ ⟨hx,rfl⟩;simp only at hx;subst hx;refine QAy (ca1 (xif (fun hw=>fin ?_) (fun hw=>QAO ?_)))
 ·rw[ev,hg];simp only[goV,hta];rw[if_neg (by simpa using hw)]
 have hw:QEO t p=true:=by simpa using hw
 refine QAH (h1:=hm) (h:=fun t' ht'=>?_)
 obtain rfl:t=t':=by rw[ht]at ht';cases ht';rfl
 refine QAN ht (h:=?_);iterate 18 (refine QAZ ht (h:=?_))
 iterate 10 (refine xgq ?_)
 have hkd:=(QMc hw).2.1;refine QAR (QVq t p sp exc r1 r2 r3 on ws htg hw a1 a2 (by omega) c3 hc (fun h=>hon (by omega)) (fun h=>hws (by omega))) rdb ?_;rintro⟨x,_⟩ _ ⟨hx,rfl⟩;simp only at hx;subst hx;refine QAy (ca1 (QAL fun b3=>?_));refine QEc (E:=I64) (valueM t p on ws) (hb:=by omega) (h:=fun s'=>?_);rw[QAF j (by omega)];exact hK _ _ _ _ (by omega) ⟨j+1,_,rfl,rfl,by omega,by simp;omega,by rw[hg];simp only[goV,hta];rw[if_pos hw],rfl⟩
end Go.Cx.Pn
